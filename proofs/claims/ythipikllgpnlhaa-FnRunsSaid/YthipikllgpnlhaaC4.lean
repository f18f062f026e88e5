/- Contracts of EulerRow, program and reference. -/
import Derived.Test.YthipikllgpnlhaaC3
namespace Go.Proofs.Ythipikllgpnlhaa
set_option maxRecDepth 100000
open Go Go.RowKit

def eulA (row : List Int) (k : Nat) : Int := if h : k < row.length then wrap64 (wrap64 (((k : Int) + 1) * row[k])) else 0
def eulX (row : List Int) (m k : Nat) : Int := if 0 < k then wrap64 (eulA row k + wrap64 (((m : Int) - k) * (row[k - 1]?.getD 0))) else eulA row k
def eulRow : Nat → List Int
  | 0 => [1]
  | 1 => [1]
  | j + 2 => (List.range (j + 2)).map (eulX (eulRow (j + 1)) (j + 2))
def eulG (n : Int) : List Int := if 1 ≤ n ∧ n ≤ 12 then eulRow n.toNat else []
theorem eulRow_succ (q : Nat) (h : 1 ≤ q) : eulRow (q + 1) = (List.range (q + 1)).map (eulX (eulRow q) (q + 1)) := by
  obtain ⟨j, rfl⟩ : ∃ j, q = j + 1 := ⟨q - 1, by omega⟩
  rfl
theorem eulRow_length (q : Nat) (h : 1 ≤ q) : (eulRow q).length = q := by
  obtain ⟨j, rfl⟩ : ∃ j, q = j + 1 := ⟨q - 1, by omega⟩
  cases j with
  | zero => rfl
  | succ j => rw [eulRow_succ (j + 1) (by omega)]; simp
theorem eulG_length (n : Int) : (eulG n).length ≤ 1000 := by
  unfold eulG
  split
  · rw [eulRow_length _ (by omega)]; omega
  · simp

set_option maxHeartbeats 800000 in
theorem euler_spec (n : Int) (_ : -9223372036854775808 ≤ n ∧ n ≤ 9223372036854775807) (w : World) : Calls Try.prog 45 #[.int .i64 n] w (Ret (Value.int .i64) 3 w (eulG n)) := by
  obtain ⟨i0, hi, hz0, hz1, hz2⟩ := info_parts infoI
  by_cases h : 1 ≤ n ∧ n ≤ 12
  · obtain ⟨a1, a2⟩ := h
    obtain ⟨m, rfl⟩ := Int.eq_ofNat_of_zero_le (show 0 ≤ n by omega)
    have HG := Lib.hid (show eulG m = eulRow m by rw [eulG, if_pos ⟨a1, a2⟩]; rfl)
    have hd1 : decide (1 ≤ (m : Int) ∧ (m : Int) ≤ 12) = true := by simp [a1, a2]
    go_enter Try.func45, Try.ntmps45
    go_wp2_with (go_at_call 87; refine (l1In_any _ _ _ _).mono ?_; rintro e w' ⟨rfl, rfl⟩)
    clear hd1
    have hown0 : (w.alloc (.cells #[.int .i64 1] 3)).ownsRow w.heap.size 3 1 (.slice (some ⟨w.heap.size, 0, none⟩) 1 1) 1 ((eulRow 1).map (Value.int .i64)) := World.ownsRow_lit w _ 1 (Nat.le_refl _) (by unfold maxLen; omega) rfl
    have hb0 := (Below.refl w.heap.size w).alloc (Nat.le_refl _) (.cells #[.int .i64 1] 3)
    go_loopw [3, 4] (fun v i wr => ∃ (q : Nat) (A : Option Addr) (c : Nat), 1 ≤ q ∧ q ≤ m ∧ i = .int .i64 ((q : Int) + 1) ∧ v = .slice A q c ∧ wr.ownsRow w.heap.size 3 1 (.slice A q c) q ((eulRow q).map (Value.int .i64)) ∧ Below w.heap.size w wr) (fun _ i _ => m + 1 - (intOf i).toNat)
    case atStart => exact ⟨1, _, _, Nat.le_refl _, by omega, rfl, rfl, hown0, hb0⟩
    case round =>
      clear hown0 hb0
      obtain ⟨q, A, c, hq1, hq, rfl, rfl, hown, hb⟩ := hrel
      have hsz := hb.size
      have hlen := eulRow_length q hq1
      rcases Nat.lt_or_ge q m with hlt | hge
      · have hrd : Rd (Value.int .i64) wr wr.heap.size A (eulRow q) := Rd.of_own (by rw [hlen]; exact hown)
        have hLEN := Lib.hid hlen
        have hdq : decide ((q : Int) + 1 ≤ (m : Int)) = true := by simp; omega
        clear hlen
        obtain ⟨wo, rfl⟩ : ∃ wo : World, wo = wr := ⟨_, rfl⟩
        go_wp2
        have hownZ : (wo.alloc (.cells #[] 3)).ownsRow w.heap.size 3 1 (.slice (some ⟨wo.heap.size, 0, none⟩) 0 0) 0 (((List.range 0).map (eulX (eulRow q) (q + 1))).map (Value.int .i64)) := World.ownsRow_lit wo #[] 0 hsz (by unfold maxLen; omega) rfl
        have hbo := (Below.refl wo.heap.size wo).alloc (Nat.le_refl _) (.cells #[] 3)
        go_loopw [5, 6] (fun v i wi => ∃ (k : Nat) (A : Option Addr) (c : Nat), k ≤ q + 1 ∧ i = .int .i64 k ∧ v = .slice A k c ∧ wi.ownsRow wo.heap.size 3 1 (.slice A k c) k (((List.range k).map (eulX (eulRow q) (q + 1))).map (Value.int .i64)) ∧ Below wo.heap.size wo wi) (fun _ i _ => q + 1 - (intOf i).toNat)
        case atStart => exact ⟨0, _, _, Nat.zero_le _, rfl, rfl, World.ownsRow_lit wo #[] 0 (Nat.le_refl _) (by unfold maxLen; omega) rfl, hbo⟩
        case round =>
          clear hownZ hbo
          obtain ⟨k, A', c', hk, rfl, rfl, hownK, hbK⟩ := hrel
          rcases Nat.lt_or_ge k (q + 1) with hk2 | hk2
          · obtain ⟨b, off, rfl, hbb, hc⟩ := (hrd.below hbK) (by rw [hLEN.out]; omega)
            have hszK := hbK.size
            have hlq : q ≤ (eulRow q).length := Nat.le_of_eq hLEN.out.symm
            have hlq2 : (eulRow q).length ≤ q := Nat.le_of_eq hLEN.out
            by_cases h1 : k < q
            · have c1 := hc k (by omega)
              have hkl : k < (eulRow q).length := by omega
              by_cases h2 : 0 < k
              · have c2 := hc (k - 1) (by omega)
                have hkl2 : k - 1 < (eulRow q).length := by omega
                have hX := Lib.hid (show (List.range (k + 1)).map (eulX (eulRow q) (q + 1)) = (List.range k).map (eulX (eulRow q) (q + 1)) ++ [wrap64 (wrap64 (wrap64 (((k : Int) + 1) * (eulRow q)[k])) + wrap64 (((q : Int) + 1 - (k : Int)) * (eulRow q)[k - 1]))] by
                  rw [List.range_succ, List.map_append]; congr 1; simp only [List.map_cons, List.map_nil]; congr 1; rw [eulX, if_pos h2, eulA, dif_pos hkl, List.getElem?_eq_getElem hkl2]; rfl)
                clear hc
                go_wp2_with (at_builtin; refine wpList_append_own _ rfl _ _ 24 rfl (wo.heap.size) 3 i0 (.int .i64 0) 1 8 Try.underlying24 hi hz0 hz1 hz2 rfl (by decide) _ _ _ rfl (World.ownsRow.alloc hownK _) ⟨wr.heap.size, 0, none⟩ 1 1 [.int .i64 (wrap64 (wrap64 (wrap64 (((k : Int) + 1) * (eulRow q)[k])) + wrap64 (((q : Int) + 1 - (k : Int)) * (eulRow q)[k - 1])))] rfl rfl (cell_one_new _ _ _) (by intro u hu; simp at hu; subst hu; rfl) (by unfold maxLen; omega) (by omega) (by simp; omega) ?_; intro v1 w1 hown1 hgrow1 _)
                have hb1 := (hbK.alloc hszK (Obj.cells #[Value.int .i64 (wrap64 (wrap64 (wrap64 (((k : Int) + 1) * (eulRow q)[k])) + wrap64 (((q : Int) + 1 - (k : Int)) * (eulRow q)[k - 1])))] 3)).grown hgrow1 (by simp; omega) (by intro g hg; exact ((hownK.lt g hg).1))
                have hS2 : w1.ownsRow wo.heap.size 3 1 v1 (k + 1) (((List.range (k + 1)).map (eulX (eulRow q) (q + 1))).map (Value.int .i64)) := by rw [hX.out]; simpa using hown1
                obtain ⟨A1, cc, rfl, _, _⟩ := own_shape hS2
                have hH1 := Lib.hid hS2
                have hH2 := Lib.hid hb1
                clear hS2 hown1 hgrow1 hb1 hownK hbK
                go_wp2
                go_roundw
                case rel => exact ⟨k + 1, A1, cc, by omega, by go_num, rfl, hH1.out, hH2.out⟩
                case measure => simp [intOf]; omega
              · 
                have hX := Lib.hid (show (List.range (k + 1)).map (eulX (eulRow q) (q + 1)) = (List.range k).map (eulX (eulRow q) (q + 1)) ++ [wrap64 (wrap64 (((k : Int) + 1) * (eulRow q)[k]))] by
                  rw [List.range_succ, List.map_append]; congr 1; simp only [List.map_cons, List.map_nil]; congr 1; rw [eulX, if_neg h2, eulA, dif_pos hkl])
                clear hc
                go_wp2_with (at_builtin; refine wpList_append_own _ rfl _ _ 24 rfl (wo.heap.size) 3 i0 (.int .i64 0) 1 8 Try.underlying24 hi hz0 hz1 hz2 rfl (by decide) _ _ _ rfl (World.ownsRow.alloc hownK _) ⟨wr.heap.size, 0, none⟩ 1 1 [.int .i64 (wrap64 (wrap64 (((k : Int) + 1) * (eulRow q)[k])))] rfl rfl (cell_one_new _ _ _) (by intro u hu; simp at hu; subst hu; rfl) (by unfold maxLen; omega) (by omega) (by simp; omega) ?_; intro v1 w1 hown1 hgrow1 _)
                have hb1 := (hbK.alloc hszK (Obj.cells #[Value.int .i64 (wrap64 (wrap64 (((k : Int) + 1) * (eulRow q)[k])))] 3)).grown hgrow1 (by simp; omega) (by intro g hg; exact ((hownK.lt g hg).1))
                have hS2 : w1.ownsRow wo.heap.size 3 1 v1 (k + 1) (((List.range (k + 1)).map (eulX (eulRow q) (q + 1))).map (Value.int .i64)) := by rw [hX.out]; simpa using hown1
                obtain ⟨A1, cc, rfl, _, _⟩ := own_shape hS2
                have hH1 := Lib.hid hS2
                have hH2 := Lib.hid hb1
                clear hS2 hown1 hgrow1 hb1 hownK hbK
                go_wp2
                go_roundw
                case rel => exact ⟨k + 1, A1, cc, by omega, by go_num, rfl, hH1.out, hH2.out⟩
                case measure => simp [intOf]; omega
            · have h2 : 0 < k := by omega
              have c2 := hc (k - 1) (by omega)
              have hkl2 : k - 1 < (eulRow q).length := by omega
              have hkl : ¬ k < (eulRow q).length := by omega
              have hX := Lib.hid (show (List.range (k + 1)).map (eulX (eulRow q) (q + 1)) = (List.range k).map (eulX (eulRow q) (q + 1)) ++ [wrap64 (wrap64 (((q : Int) + 1 - (k : Int)) * (eulRow q)[k - 1]))] by
                rw [List.range_succ, List.map_append]; congr 1; simp only [List.map_cons, List.map_nil]; congr 1; rw [eulX, if_pos h2, eulA, dif_neg hkl, List.getElem?_eq_getElem hkl2, Int.zero_add]; rfl)
              clear hc
              go_wp2_with (at_builtin; refine wpList_append_own _ rfl _ _ 24 rfl (wo.heap.size) 3 i0 (.int .i64 0) 1 8 Try.underlying24 hi hz0 hz1 hz2 rfl (by decide) _ _ _ rfl (World.ownsRow.alloc hownK _) ⟨wr.heap.size, 0, none⟩ 1 1 [.int .i64 (wrap64 (wrap64 (((q : Int) + 1 - (k : Int)) * (eulRow q)[k - 1])))] rfl rfl (cell_one_new _ _ _) (by intro u hu; simp at hu; subst hu; rfl) (by unfold maxLen; omega) (by omega) (by simp; omega) ?_; intro v1 w1 hown1 hgrow1 _)
              have hb1 := (hbK.alloc hszK (Obj.cells #[Value.int .i64 (wrap64 (wrap64 (((q : Int) + 1 - (k : Int)) * (eulRow q)[k - 1])))] 3)).grown hgrow1 (by simp; omega) (by intro g hg; exact ((hownK.lt g hg).1))
              have hS2 : w1.ownsRow wo.heap.size 3 1 v1 (k + 1) (((List.range (k + 1)).map (eulX (eulRow q) (q + 1))).map (Value.int .i64)) := by rw [hX.out]; simpa using hown1
              obtain ⟨A1, cc, rfl, _, _⟩ := own_shape hS2
              have hH1 := Lib.hid hS2
              have hH2 := Lib.hid hb1
              clear hS2 hown1 hgrow1 hb1 hownK hbK
              go_wp2
              go_roundw
              case rel => exact ⟨k + 1, A1, cc, by omega, by go_num, rfl, hH1.out, hH2.out⟩
              case measure => simp [intOf]; omega
          · obtain rfl : k = q + 1 := by omega
            have hS := Lib.hid (eulRow_succ q hq1)
            have hbw := Lib.hid (hb.trans (hbK.mono hsz))
            have hO := Lib.hid (own_mono hownK hsz)
            clear hownK hbK
            go_wp2
            go_roundw
            case rel => exact ⟨q + 1, _, _, by omega, by omega, by go_num, rfl, by rw [hS.out]; exact hO.out, hbw.out⟩
            case measure => simp [intOf]; omega
      · obtain rfl : q = m := by omega
        clear hlen
        go_wp2
        go_ret
        rw [HG.out]
        obtain ⟨_, _, he, h1, h2⟩ := own_shape hown
        injection he with _ _ hcc
        subst hcc
        have hL := eulRow_length q hq1
        refine ⟨A, c, by rw [hL]; rfl, by rw [hL]; exact h1, h2, by rw [hL]; exact hown, hb⟩
  · have HV := Lib.hid (show eulG n = [] by rw [eulG, if_neg h])
    have hd1 : decide (1 ≤ n ∧ n ≤ 12) = false := by rw [decide_eq_false_iff_not]; exact h
    clear h
    go_enter Try.func45, Try.ntmps45
    go_wp2_with (go_at_call 87; refine (l1In_any _ _ _ _).mono ?_; rintro e w' ⟨rfl, rfl⟩)
    go_ret
    rw [HV.out]
    exact ⟨_, _, rfl, Nat.le_refl _, Nat.zero_le _, World.ownsRow_lit w #[] 0 (Nat.le_refl _) (Nat.zero_le _) rfl, (Below.refl _ _).alloc (Nat.le_refl _) _⟩

theorem eul_set (f : Nat → Int) (k m : Nat) (x y : Int) (_ : k < m) (hx : x = f k) : ((List.range k).map f ++ y :: List.replicate (m - (k + 1)) 0).set k x = (List.range (k + 1)).map f ++ List.replicate (m - (k + 1)) 0 := by
  subst hx
  rw [List.range_succ]
  simp
theorem eul_rep (f : Nat → Int) (k m : Nat) (h : k < m) : (List.range k).map f ++ List.replicate (m - k) 0 = (List.range k).map f ++ 0 :: List.replicate (m - (k + 1)) 0 := by
  rw [show m - k = (m - (k + 1)) + 1 by omega, List.replicate_succ]
theorem eul_get (f : Nat → Int) (k m : Nat) (y : Int) (hk : k < ((List.range k).map f ++ y :: List.replicate (m - (k + 1)) 0).length) : ((List.range k).map f ++ y :: List.replicate (m - (k + 1)) 0)[k] = y := by
  simp
theorem eul_one (f : Nat → Int) (k m : Nat) (y z : Int) : ((List.range k).map f ++ y :: List.replicate (m - (k + 1)) 0).set k z = (List.range k).map f ++ z :: List.replicate (m - (k + 1)) 0 := by
  simp

set_option maxHeartbeats 1600000 in
theorem euler_impl (n : Int) (_ : -9223372036854775808 ≤ n ∧ n ≤ 9223372036854775807) (w : World) : Calls Try.prog 25 #[.int .i64 n] w (Ret (Value.int .i64) 3 w (eulG n)) := by
  obtain ⟨i0, hi, hz0, hz1, hz2⟩ := info_parts infoI
  by_cases h : 1 ≤ n ∧ n ≤ 12
  · obtain ⟨a1, a2⟩ := h
    obtain ⟨m, rfl⟩ := Int.eq_ofNat_of_zero_le (show 0 ≤ n by omega)
    have HG := Lib.hid (show eulG m = eulRow m by rw [eulG, if_pos ⟨a1, a2⟩]; rfl)
    go_enter Try.func25, Try.ntmps25
    go_wp2
    have hown0 : (w.alloc (.cells #[.int .i64 1] 3)).ownsRow w.heap.size 3 1 (.slice (some ⟨w.heap.size, 0, none⟩) 1 1) 1 ((eulRow 1).map (Value.int .i64)) := World.ownsRow_lit w _ 1 (Nat.le_refl _) (by unfold maxLen; omega) rfl
    have hb0 := (Below.refl w.heap.size w).alloc (Nat.le_refl _) (.cells #[.int .i64 1] 3)
    go_loopw [3, 4] (fun v i wr => ∃ (q : Nat) (A : Option Addr) (c : Nat), 1 ≤ q ∧ q ≤ m ∧ i = .int .i64 ((q : Int) + 1) ∧ v = .slice A q c ∧ wr.ownsRow w.heap.size 3 1 (.slice A q c) q ((eulRow q).map (Value.int .i64)) ∧ Below w.heap.size w wr) (fun _ i _ => m + 1 - (intOf i).toNat)
    case atStart => exact ⟨1, _, _, Nat.le_refl _, by omega, rfl, rfl, hown0, hb0⟩
    case round =>
      clear hown0 hb0
      obtain ⟨q, A, c, hq1, hq, rfl, rfl, hown, hb⟩ := hrel
      have hsz := hb.size
      have hlen := eulRow_length q hq1
      rcases Nat.lt_or_ge q m with hlt | hge
      · have hrd : Rd (Value.int .i64) wr wr.heap.size A (eulRow q) := Rd.of_own (by rw [hlen]; exact hown)
        have hLEN := Lib.hid hlen
        have hdq : decide ((q : Int) + 1 ≤ (m : Int)) = true := by simp; omega
        clear hlen
        obtain ⟨wo, rfl⟩ : ∃ wo : World, wo = wr := ⟨_, rfl⟩
        go_wp2_with (at_make; refine wpList_make_full _ rfl _ _ 24 rfl (w.heap.size) 3 i0 (.int .i64 0) 1 Try.underlying24 hi hz0 hz1 .i64 .i64 _ _ (q + 1) rfl rfl (by omega) (by omega) (by rw [hz2]; omega) (by unfold maxLen; omega) (by omega) ?_; intro w1 hown1 hgrow1)
        have hownZ := made_zeros hown1
        have hbo := below_none hgrow1
        clear hown1 hgrow1
        go_wp2
        go_loopw [23] (fun i wi => ∃ k : Nat, k ≤ q + 1 ∧ i = .int .i64 k ∧ wi.ownsRow w.heap.size 3 1 (.slice (some ⟨wo.heap.size, 0, none⟩) (q + 1) (q + 1)) (q + 1) (((List.range k).map (eulX (eulRow q) (q + 1)) ++ List.replicate (q + 1 - k) 0).map (Value.int .i64)) ∧ Below wo.heap.size wo wi) (fun i _ => q + 1 - (intOf i).toNat)
        case atStart => exact ⟨0, Nat.zero_le _, rfl, by simpa using hownZ, hbo⟩
        case round =>
          clear hownZ hbo
          obtain ⟨k, hk, rfl, hownK, hbK⟩ := hrel
          rcases Nat.lt_or_ge k (q + 1) with hk2 | hk2
          · obtain ⟨b, off, rfl, hbb, hc⟩ := (hrd.below hbK) (by rw [hLEN.out]; omega)
            have hlq : q ≤ (eulRow q).length := Nat.le_of_eq hLEN.out.symm
            have hlq2 : (eulRow q).length ≤ q := Nat.le_of_eq hLEN.out
            rw [eul_rep _ k (q + 1) hk2] at hownK
            have hkL : k < ((List.range k).map (eulX (eulRow q) (q + 1)) ++ 0 :: List.replicate (q + 1 - (k + 1)) 0).length := by simp
            by_cases h1 : k < q
            · have c1 := hc k (by omega)
              have hkl : k < (eulRow q).length := by omega
              obtain ⟨p1, p2, p3⟩ := own_put hownK k hkL (wrap64 (wrap64 (((k : Int) + 1) * (eulRow q)[k])))
              rw [eul_get] at p1
              rw [eul_one] at p3
              have b2 := hbK.setCell (p := ⟨wo.heap.size, k, none⟩) (Nat.le_refl _) (.int .i64 (wrap64 (wrap64 (((k : Int) + 1) * (eulRow q)[k]))))
              by_cases h2 : 0 < k
              · have c2 := hc (k - 1) (by omega)
                have c3 : (wr.setCell ⟨wo.heap.size, k, none⟩ (.int .i64 (wrap64 (wrap64 (((k : Int) + 1) * (eulRow q)[k]))))).cell? ⟨b, off + (k - 1), none⟩ = some (.int .i64 (eulRow q)[k - 1]) := by
                  rw [World.cell?_setCell_other _ _ _ _ (by intro e; injection e; omega)]; exact c2
                have hkl2 : k - 1 < (eulRow q).length := by omega
                have hkM : k < ((List.range k).map (eulX (eulRow q) (q + 1)) ++ (wrap64 (wrap64 (((k : Int) + 1) * (eulRow q)[k]))) :: List.replicate (q + 1 - (k + 1)) 0).length := by simp
                obtain ⟨s1, s2, s3⟩ := own_put p3 k hkM (wrap64 (wrap64 (wrap64 (((k : Int) + 1) * (eulRow q)[k])) + wrap64 (((q : Int) + 1 - (k : Int)) * (eulRow q)[k - 1])))
                rw [eul_get] at s1
                rw [eul_set _ k (q + 1) _ _ hk2 (by rw [eulX, if_pos h2, eulA, dif_pos hkl, List.getElem?_eq_getElem hkl2]; rfl)] at s3
                have e1 : IntKind.i64.wrap ((q : Int) + 1 - (k : Int)) = (q : Int) + 1 - (k : Int) := IntWalk.i64_in _ (by omega)
                have e2 : IntKind.i64.wrap ((k : Int) - 1) = (k : Int) - 1 := IntWalk.i64_in _ (by omega)
                have e3 : 0 ≤ (k : Int) - 1 := by omega
                have e4 : ((k : Int) - 1).toNat = k - 1 := by omega
                have e5 : (k : Int) - 1 < (q : Int) := by omega
                have e7 : 1 ≤ (k : Int) := by omega
                have e8 : (k : Int) ≤ (q : Int) := by omega
                have e9 : (k : Int) < (q : Int) + 1 := by omega
                have e10 : 0 < (k : Int) := by omega
                have e11 : 1 ≤ k := by omega
                have e12 : k ≤ q := by omega
                have e6 : IntKind.i64.wrap ((k : Int) + 1) = (k : Int) + 1 := IntWalk.i64_in _ (by omega)
                clear hc hownK hbK hkL hkM
                go_wp2
                go_still_tail 13, (by kernel_rfl)
                go_wp2
                obtain ⟨W2, hW2⟩ : ∃ W2 : World, W2 = ((wr.setCell ⟨wo.heap.size, k, none⟩ (.int .i64 (wrap64 (wrap64 (((k : Int) + 1) * (eulRow q)[k]))))).drew) := ⟨_, rfl⟩
                have s1 : W2.cell? ⟨wo.heap.size, k, none⟩ = some (.int .i64 (wrap64 (wrap64 (((k : Int) + 1) * (eulRow q)[k])))) := by rw [hW2]; exact s1
                have s2 : W2.frozen? ⟨wo.heap.size, k, none⟩ = false := by rw [hW2]; exact s2
                have c3 : W2.cell? ⟨b, off + (k - 1), none⟩ = some (.int .i64 (eulRow q)[k - 1]) := by rw [hW2]; exact c3
                have S3 := Lib.hid (show (W2.setCell ⟨wo.heap.size, k, none⟩ (.int .i64 (wrap64 (wrap64 (wrap64 (((k : Int) + 1) * (eulRow q)[k])) + wrap64 (((q : Int) + 1 - (k : Int)) * (eulRow q)[k - 1]))))).ownsRow w.heap.size 3 1 (.slice (some ⟨wo.heap.size, 0, none⟩) (q + 1) (q + 1)) (q + 1) (((List.range (k + 1)).map (eulX (eulRow q) (q + 1)) ++ List.replicate (q + 1 - (k + 1)) 0).map (Value.int .i64)) by rw [hW2]; exact s3)
                have B3 := Lib.hid ((below_dr b2 (Dr.of _ 1)).setCell (p := ⟨wo.heap.size, k, none⟩) (Nat.le_refl _) (.int .i64 (wrap64 (wrap64 (wrap64 (((k : Int) + 1) * (eulRow q)[k])) + wrap64 (((q : Int) + 1 - (k : Int)) * (eulRow q)[k - 1])))))
                have B4 := Lib.hid (show Below wo.heap.size wo (W2.setCell ⟨wo.heap.size, k, none⟩ (.int .i64 (wrap64 (wrap64 (wrap64 (((k : Int) + 1) * (eulRow q)[k])) + wrap64 (((q : Int) + 1 - (k : Int)) * (eulRow q)[k - 1]))))) by rw [hW2]; exact B3.out)
                rw [← hW2]
                clear hW2 p1 p2 p3 b2 s3 B3 c1 c2
                go_still_tail 15, (by kernel_rfl)
                go_wp2
                go_roundw
                case rel => exact ⟨k + 1, by omega, by go_num, S3.out, below_dr B4.out (Dr.of _ 1)⟩
                case measure => simp [intOf]; omega
              · have hX : (List.range (k + 1)).map (eulX (eulRow q) (q + 1)) ++ List.replicate (q + 1 - (k + 1)) 0 = (List.range k).map (eulX (eulRow q) (q + 1)) ++ (wrap64 (wrap64 (((k : Int) + 1) * (eulRow q)[k]))) :: List.replicate (q + 1 - (k + 1)) 0 := by
                  rw [List.range_succ, List.map_append, List.append_assoc]; simp [eulX, h2, eulA, hkl]
                have hX2 := Lib.hid hX
                have P3 := Lib.hid p3
                have B2 := Lib.hid b2
                have e6 : IntKind.i64.wrap ((k : Int) + 1) = (k : Int) + 1 := IntWalk.i64_in _ (by omega)
                clear hc p3 b2 hownK hbK hkL hX
                go_wp2
                go_still_tail 13, (by kernel_rfl)
                go_wp2
                go_roundw
                case rel => exact ⟨k + 1, by omega, by go_num, by rw [hX2.out]; exact P3.out, below_dr B2.out (Dr.of _ 1)⟩
                case measure => simp [intOf]; omega
            · have h2 : 0 < k := by omega
              have c2 := hc (k - 1) (by omega)
              have hkl2 : k - 1 < (eulRow q).length := by omega
              have hkl : ¬ k < (eulRow q).length := by omega
              obtain ⟨p1, p2, p3⟩ := own_put hownK k hkL (wrap64 (wrap64 (((q : Int) + 1 - (k : Int)) * (eulRow q)[k - 1])))
              rw [eul_get] at p1
              rw [eul_set _ k (q + 1) _ _ hk2 (by rw [eulX, if_pos h2, eulA, dif_neg hkl, List.getElem?_eq_getElem hkl2, Int.zero_add]; rfl)] at p3
              have P3 := Lib.hid p3
              have B2 := Lib.hid (hbK.setCell (p := ⟨wo.heap.size, k, none⟩) (Nat.le_refl _) (.int .i64 (wrap64 (wrap64 (((q : Int) + 1 - (k : Int)) * (eulRow q)[k - 1])))))
              have e1 : IntKind.i64.wrap ((q : Int) + 1 - (k : Int)) = (q : Int) + 1 - (k : Int) := IntWalk.i64_in _ (by omega)
              have e2 : IntKind.i64.wrap ((k : Int) - 1) = (k : Int) - 1 := IntWalk.i64_in _ (by omega)
              have e3 : 0 ≤ (k : Int) - 1 := by omega
              have e4 : ((k : Int) - 1).toNat = k - 1 := by omega
              have e5 : (k : Int) - 1 < (q : Int) := by omega
              have e7 : 1 ≤ (k : Int) := by omega
              have e8 : (k : Int) ≤ (q : Int) := by omega
              have e9 : (k : Int) < (q : Int) + 1 := by omega
              have e10 : 0 < (k : Int) := by omega
              have e11 : 1 ≤ k := by omega
              have e12 : k ≤ q := by omega
              clear hc p3 hownK hbK hkL
              go_wp2
              go_still_tail 15, (by kernel_rfl)
              go_wp2
              go_roundw
              case rel => exact ⟨k + 1, by omega, by go_num, P3.out, below_dr B2.out (Dr.of _ 1)⟩
              case measure => simp [intOf]; omega
          · obtain rfl : k = q + 1 := by omega
            rw [Nat.sub_self, List.replicate_zero, List.append_nil] at hownK
            have hS := Lib.hid (eulRow_succ q hq1)
            have hbw := Lib.hid (hb.trans (hbK.mono hsz))
            have hO := Lib.hid hownK
            clear hownK hbK
            go_wp2
            go_roundw
            case rel => exact ⟨q + 1, _, _, by omega, by omega, by go_num, rfl, by rw [hS.out]; exact hO.out, hbw.out⟩
            case measure => simp [intOf]; omega
      · obtain rfl : q = m := by omega
        clear hlen
        go_wp2
        go_ret
        rw [HG.out]
        obtain ⟨_, _, he, h1, h2⟩ := own_shape hown
        injection he with _ _ hcc
        subst hcc
        have hL := eulRow_length q hq1
        refine ⟨A, c, by rw [hL]; rfl, by rw [hL]; exact h1, h2, by rw [hL]; exact hown, hb⟩
  · have HV := Lib.hid (show eulG n = [] by rw [eulG, if_neg h])
    by_cases h1 : n < 1
    · clear h
      go_enter Try.func25, Try.ntmps25
      go_wp2
      go_ret
      rw [HV.out]
      exact ⟨none, 0, rfl, Nat.le_refl _, Nat.zero_le _, World.ownsRow_nil _ _ _ _, Below.refl _ _⟩
    · have h2 : 12 < n := by omega
      clear h
      go_enter Try.func25, Try.ntmps25
      go_wp2
      go_ret
      rw [HV.out]
      exact ⟨none, 0, rfl, Nat.le_refl _, Nat.zero_le _, World.ownsRow_nil _ _ _ _, Below.refl _ _⟩
end Go.Proofs.Ythipikllgpnlhaa
