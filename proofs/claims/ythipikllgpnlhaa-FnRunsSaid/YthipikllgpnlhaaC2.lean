/- Contracts of CountAlternating, program and reference. -/
import Derived.Test.YthipikllgpnlhaaC1
namespace Go.Proofs.Ythipikllgpnlhaa
set_option maxRecDepth 100000
open Go Go.RowKit

theorem quiet_eq {P : Program} {f : FuncId} {args : Array Value} {w : World} {n : Nat} {v : Value}
    (h : Calls P f args (w.drewN n) fun e w' => e = .returned v ∧ w.drewN n = w') : Calls P f args (w.drewN n) fun e w'' => e = .returned v ∧ ∃ m, w'' = w.drewN m :=
  h.mono fun _ _ ⟨he, hm⟩ => ⟨he, n, hm.symm⟩
theorem quiet_rq {P : Program} {f : FuncId} {args : Array Value} {w : World} {n : Nat} {v : Value}
    (h : Calls P f args (w.drewN n) (Rq (w.drewN n) v)) : Calls P f args (w.drewN n) fun e w'' => e = .returned v ∧ ∃ m, w'' = w.drewN m :=
  h.mono fun _ _ ⟨he, m, hm⟩ => ⟨he, n + m, by rw [hm, World.drewN_drewN]⟩

def altSum (a : List Int) (m : Nat) : Nat → Int
  | 0 => 0
  | k + 1 => wrap64 (altSum a m k + wrap64 (wrap64 (chooseG m k * (a[k]?.getD 0)) * (a[m - k]?.getD 0)))
def altRow : Nat → List Int
  | 0 => [1, 1]
  | 1 => [1, 1]
  | j + 2 => altRow (j + 1) ++ [wrap64 ((altSum (altRow (j + 1)) (j + 1) (j + 2)).tdiv 2)]
theorem altRow_succ (q : Nat) (h : 1 ≤ q) : altRow (q + 1) = altRow q ++ [wrap64 ((altSum (altRow q) q (q + 1)).tdiv 2)] := by
  obtain ⟨j, rfl⟩ : ∃ j, q = j + 1 := ⟨q - 1, by omega⟩
  rfl
theorem altRow_length : ∀ (q : Nat), 1 ≤ q → (altRow q).length = q + 1
  | 0, h => absurd h (by omega)
  | 1, _ => rfl
  | j + 2, _ => by rw [altRow_succ (j + 1) (by omega), List.length_append, altRow_length (j + 1) (by omega)]; rfl
def altG (n : Int) : Int := if 0 ≤ n ∧ n ≤ 12 then (altRow (n.toNat))[n.toNat]?.getD 0 else -1
theorem altG_eq (m : Nat) (hm : (m : Int) ≤ 12) (q : Nat) (hq : 1 ≤ q) (h1 : m ≤ q) (h2 : q = 1 ∨ q ≤ m) : altG m = (altRow q)[m]?.getD 0 := by
  rw [altG, if_pos ⟨by omega, hm⟩, Int.toNat_natCast]
  rcases h2 with rfl | h2
  · rcases Nat.eq_zero_or_pos m with rfl | h
    · rfl
    · obtain rfl : m = 1 := by omega
      rfl
  · obtain rfl : q = m := by omega
    rfl

set_option maxHeartbeats 800000 in
theorem alternating_impl (n : Int) (w : World) : Calls Try.prog 62 #[.int .i64 n] w (Rb w (.int .i64 (altG n))) := by
  obtain ⟨i0, hi, hz0, hz1, hz2⟩ := info_parts infoI
  by_cases h : 0 ≤ n ∧ n ≤ 12
  · obtain ⟨a1, a2⟩ := h
    obtain ⟨m, rfl⟩ := Int.eq_ofNat_of_zero_le a1
    go_enter Try.func62, Try.ntmps62
    go_wp2
    have hown0 : (w.alloc (.cells #[.int .i64 1, .int .i64 1] 3)).ownsRow w.heap.size 3 1 (.slice (some ⟨w.heap.size, 0, none⟩) 2 2) 2 ((altRow 1).map (Value.int .i64)) := World.ownsRow_lit w _ 2 (Nat.le_refl _) (by unfold maxLen; omega) rfl
    have hb0 := (Below.refl w.heap.size w).alloc (Nat.le_refl _) (.cells #[.int .i64 1, .int .i64 1] 3)
    go_loopw [3, 4] (fun v i wr => ∃ (q : Nat) (A : Option Addr) (c : Nat), 1 ≤ q ∧ (q = 1 ∨ q ≤ m) ∧ i = .int .i64 q ∧ v = .slice A (altRow q).length c ∧ wr.ownsRow w.heap.size 3 1 (.slice A (altRow q).length c) (altRow q).length ((altRow q).map (Value.int .i64)) ∧ Below w.heap.size w wr) (fun _ i _ => m - (intOf i).toNat)
    case atStart => exact ⟨1, _, _, Nat.le_refl _, .inl rfl, rfl, rfl, hown0, hb0⟩
    case round =>
      clear hown0 hb0
      obtain ⟨q, A, c, hq1, hq, rfl, rfl, hown, hb⟩ := hrel
      have hL1 : q + 1 ≤ (altRow q).length := Nat.le_of_eq (altRow_length q hq1).symm
      have hL2 : (altRow q).length ≤ q + 1 := Nat.le_of_eq (altRow_length q hq1)
      have hq12 : q ≤ 12 := by omega
      have hsz := hb.size
      obtain ⟨b, off, rfl, hbb, hc⟩ := (Rd.of_own hown) (by omega)
      have HC := Lib.hid hc
      have hq := Lib.hid hq
      clear hc
      rcases Nat.lt_or_ge q m with hlt | hge
      · go_wp2
        obtain ⟨wo, rfl⟩ : ∃ wo : World, wo = wr := ⟨_, rfl⟩
        go_loopw [5, 21] (fun s i wi => ∃ k : Nat, k ≤ q + 1 ∧ i = .int .i64 k ∧ s = .int .i64 (altSum (altRow q) q k) ∧ Dr wo wi) (fun _ i _ => q + 1 - (intOf i).toNat)
        case atStart => exact ⟨0, Nat.zero_le _, rfl, rfl, Dr.refl _⟩
        case round =>
          obtain ⟨k, hk, rfl, rfl, hd⟩ := hrel
          have hcd := HC.out
          obtain ⟨wi, rfl⟩ : ∃ wi : World, wi = wr := ⟨_, rfl⟩
          simp only [← hd.cell] at hcd
          rcases Nat.lt_or_ge k (q + 1) with hlt2 | hge2
          · have c1 := hcd k (by omega)
            have c2 := hcd (q - k) (by omega)
            clear hcd
            have hS := Lib.hid (show altSum (altRow q) q (k + 1) = wrap64 (altSum (altRow q) q k + wrap64 (wrap64 (chooseG q k * (altRow q)[k]) * (altRow q)[q - k])) by simp [altSum, show k < (altRow q).length by omega, show q - k < (altRow q).length by omega])
            have e1 : IntKind.i64.wrap ((q : Int) - (k : Int)) = (q : Int) - (k : Int) := IntWalk.i64_in _ (by omega)
            have e2 : 0 ≤ (q : Int) - (k : Int) := by omega
            have e2' : (k : Int) ≤ (q : Int) := by omega
            have e4 : q - k < (altRow q).length := by omega
            have e5 : ((q : Int) - (k : Int)) < ((altRow q).length : Int) := by omega
            have e3 : ((q : Int) - (k : Int)).toNat = q - k := by omega
            go_wp2
            go_quiet ((go_at_call 64; exact quiet_eq (choose_impl _ _ _)))
            go_wp2
            go_roundw
            case rel => exact ⟨k + 1, by omega, by go_num, by rw [hS.out], (by first | with_reducible assumption | with_reducible exact hd | with_reducible exact Dr.drewN hd _ | with_reducible exact Dr.drewN (Dr.drewN hd _) _ | with_reducible exact Dr.drew hd)⟩
            case measure => simp [intOf]; omega
          · obtain rfl : k = q + 1 := by omega
            have hS := Lib.hid (altRow_succ q hq1)
            have hszi : w.heap.size ≤ wi.heap.size := by rw [hd.heap]; exact hsz
            have hown := hd.own hown
            clear hcd
            go_wp2_with (at_builtin; refine wpList_append_own _ rfl _ _ 24 rfl (w.heap.size) 3 i0 (.int .i64 0) 1 8 Try.underlying24 hi hz0 hz1 hz2 rfl (by decide) _ _ _ rfl (World.ownsRow.alloc hown _) ⟨wi.heap.size, 0, none⟩ 1 1 [.int .i64 (wrap64 ((altSum (altRow q) q (q + 1)).tdiv 2))] rfl rfl (cell_one_new _ _ _) (by intro u hu; simp at hu; subst hu; rfl) (by unfold maxLen; omega) (by omega) (by simp; omega) ?_; intro v1 w1 hown1 hgrow1 _)
            have hb1 := ((below_dr hb hd).alloc hszi (Obj.cells #[Value.int .i64 (wrap64 ((altSum (altRow q) q (q + 1)).tdiv 2))] 3)).grown hgrow1 (by simp; omega) (by intro g hg; exact ((hown.lt g hg).1))
            have hS2 : w1.ownsRow w.heap.size 3 1 v1 (altRow (q + 1)).length ((altRow (q + 1)).map (Value.int .i64)) := by
              rw [hS.out]; simpa using hown1
            obtain ⟨A1, cc, rfl, _, _⟩ := own_shape hS2
            have hH1 := Lib.hid hS2
            have hH2 := Lib.hid hb1
            clear hS2 hown1 hgrow1 hb1 hown hb
            go_wp2
            go_roundw
            case rel => exact ⟨q + 1, A1, cc, by omega, .inr (by omega), by go_num, rfl, hH1.out, hH2.out⟩
            case measure => simp [intOf]; omega
      · have c1 := HC.out m (by omega)
        have hV := Lib.hid (show altG m = (altRow q)[m]'(by omega) by rw [altG_eq m a2 q hq1 (by omega) hq.out]; exact List.getElem?_eq_getElem _ ▸ rfl)
        go_wp2
        go_ret
        exact ⟨ret_int hV.out.symm, hb⟩
  · have HV := Lib.hid (show altG n = -1 by rw [altG, if_neg h])
    by_cases h1 : n < 0
    · clear h
      go_enter Try.func62, Try.ntmps62
      go_wp2
      go_ret
      exact ⟨ret_int HV.out.symm, Below.refl _ _⟩
    · have h2 : 12 < n := by omega
      clear h
      go_enter Try.func62, Try.ntmps62
      go_wp2
      go_ret
      exact ⟨ret_int HV.out.symm, Below.refl _ _⟩
set_option maxHeartbeats 800000 in
theorem alternating_spec (n : Int) (w : World) : Calls Try.prog 63 #[.int .i64 n] w (Rb w (.int .i64 (altG n))) := by
  obtain ⟨i0, hi, hz0, hz1, hz2⟩ := info_parts infoI
  by_cases h : 0 ≤ n ∧ n ≤ 12
  · have hd1 : decide (0 ≤ n ∧ n ≤ 12) = true := by simp [h]
    obtain ⟨a1, a2⟩ := h
    obtain ⟨m, rfl⟩ := Int.eq_ofNat_of_zero_le a1
    go_enter Try.func63, Try.ntmps63
    go_wp2_with (go_at_call 87; refine (l1In_any _ _ _ _).mono ?_; rintro e w' ⟨rfl, rfl⟩)
    clear hd1
    have hown0 : (w.alloc (.cells #[.int .i64 1, .int .i64 1] 3)).ownsRow w.heap.size 3 1 (.slice (some ⟨w.heap.size, 0, none⟩) 2 2) 2 ((altRow 1).map (Value.int .i64)) := World.ownsRow_lit w _ 2 (Nat.le_refl _) (by unfold maxLen; omega) rfl
    have hb0 := (Below.refl w.heap.size w).alloc (Nat.le_refl _) (.cells #[.int .i64 1, .int .i64 1] 3)
    go_loopw [3, 4] (fun v i wr => ∃ (q : Nat) (A : Option Addr) (c : Nat), 1 ≤ q ∧ (q = 1 ∨ q ≤ m) ∧ i = .int .i64 q ∧ v = .slice A (altRow q).length c ∧ wr.ownsRow w.heap.size 3 1 (.slice A (altRow q).length c) (altRow q).length ((altRow q).map (Value.int .i64)) ∧ Below w.heap.size w wr) (fun _ i _ => m - (intOf i).toNat)
    case atStart => exact ⟨1, _, _, Nat.le_refl _, .inl rfl, rfl, rfl, hown0, hb0⟩
    case round =>
      clear hown0 hb0
      obtain ⟨q, A, c, hq1, hq, rfl, rfl, hown, hb⟩ := hrel
      have hL1 : q + 1 ≤ (altRow q).length := Nat.le_of_eq (altRow_length q hq1).symm
      have hL2 : (altRow q).length ≤ q + 1 := Nat.le_of_eq (altRow_length q hq1)
      have hq12 : q ≤ 12 := by omega
      have hsz := hb.size
      obtain ⟨b, off, rfl, hbb, hc⟩ := (Rd.of_own hown) (by omega)
      have HC := Lib.hid hc
      have hq := Lib.hid hq
      clear hc
      rcases Nat.lt_or_ge q m with hlt | hge
      · go_wp2
        obtain ⟨wo, rfl⟩ : ∃ wo : World, wo = wr := ⟨_, rfl⟩
        go_loopw [5, 6] (fun s i wi => ∃ k : Nat, k ≤ q + 1 ∧ i = .int .i64 k ∧ s = .int .i64 (altSum (altRow q) q k) ∧ Dr wo wi) (fun _ i _ => q + 1 - (intOf i).toNat)
        case atStart => exact ⟨0, Nat.zero_le _, rfl, rfl, Dr.refl _⟩
        case round =>
          obtain ⟨k, hk, rfl, rfl, hd⟩ := hrel
          have hcd := HC.out
          obtain ⟨wi, rfl⟩ : ∃ wi : World, wi = wr := ⟨_, rfl⟩
          simp only [← hd.cell] at hcd
          rcases Nat.lt_or_ge k (q + 1) with hlt2 | hge2
          · have c1 := hcd k (by omega)
            have c2 := hcd (q - k) (by omega)
            clear hcd
            have hS := Lib.hid (show altSum (altRow q) q (k + 1) = wrap64 (altSum (altRow q) q k + wrap64 (wrap64 (chooseG q k * (altRow q)[k]) * (altRow q)[q - k])) by simp [altSum, show k < (altRow q).length by omega, show q - k < (altRow q).length by omega])
            have e1 : IntKind.i64.wrap ((q : Int) - (k : Int)) = (q : Int) - (k : Int) := IntWalk.i64_in _ (by omega)
            have e2 : 0 ≤ (q : Int) - (k : Int) := by omega
            have e2' : (k : Int) ≤ (q : Int) := by omega
            have e4 : q - k < (altRow q).length := by omega
            have e5 : ((q : Int) - (k : Int)) < ((altRow q).length : Int) := by omega
            have e3 : ((q : Int) - (k : Int)).toNat = q - k := by omega
            go_wp2
            go_quiet ((go_at_call 65; exact quiet_eq (choose_spec _ _ _)))
            go_wp2
            go_roundw
            case rel => exact ⟨k + 1, by omega, by go_num, by rw [hS.out], (by first | with_reducible assumption | with_reducible exact hd | with_reducible exact Dr.drewN hd _ | with_reducible exact Dr.drewN (Dr.drewN hd _) _ | with_reducible exact Dr.drew hd)⟩
            case measure => simp [intOf]; omega
          · obtain rfl : k = q + 1 := by omega
            have hS := Lib.hid (altRow_succ q hq1)
            have hszi : w.heap.size ≤ wi.heap.size := by rw [hd.heap]; exact hsz
            have hown := hd.own hown
            clear hcd
            go_wp2_with (at_builtin; refine wpList_append_own _ rfl _ _ 24 rfl (w.heap.size) 3 i0 (.int .i64 0) 1 8 Try.underlying24 hi hz0 hz1 hz2 rfl (by decide) _ _ _ rfl (World.ownsRow.alloc hown _) ⟨wi.heap.size, 0, none⟩ 1 1 [.int .i64 (wrap64 ((altSum (altRow q) q (q + 1)).tdiv 2))] rfl rfl (cell_one_new _ _ _) (by intro u hu; simp at hu; subst hu; rfl) (by unfold maxLen; omega) (by omega) (by simp; omega) ?_; intro v1 w1 hown1 hgrow1 _)
            have hb1 := ((below_dr hb hd).alloc hszi (Obj.cells #[Value.int .i64 (wrap64 ((altSum (altRow q) q (q + 1)).tdiv 2))] 3)).grown hgrow1 (by simp; omega) (by intro g hg; exact ((hown.lt g hg).1))
            have hS2 : w1.ownsRow w.heap.size 3 1 v1 (altRow (q + 1)).length ((altRow (q + 1)).map (Value.int .i64)) := by
              rw [hS.out]; simpa using hown1
            obtain ⟨A1, cc, rfl, _, _⟩ := own_shape hS2
            have hH1 := Lib.hid hS2
            have hH2 := Lib.hid hb1
            clear hS2 hown1 hgrow1 hb1 hown hb
            go_wp2
            go_roundw
            case rel => exact ⟨q + 1, A1, cc, by omega, .inr (by omega), by go_num, rfl, hH1.out, hH2.out⟩
            case measure => simp [intOf]; omega
      · have c1 := HC.out m (by omega)
        have hV := Lib.hid (show altG m = (altRow q)[m]'(by omega) by rw [altG_eq m a2 q hq1 (by omega) hq.out]; exact List.getElem?_eq_getElem _ ▸ rfl)
        go_wp2
        go_ret
        exact ⟨ret_int hV.out.symm, hb⟩
  · have HV := Lib.hid (show altG n = -1 by rw [altG, if_neg h])
    have hd1 : decide (0 ≤ n ∧ n ≤ 12) = false := by rw [decide_eq_false_iff_not]; exact h
    clear h
    go_enter Try.func63, Try.ntmps63
    go_wp2_with (go_at_call 87; refine (l1In_any _ _ _ _).mono ?_; rintro e w' ⟨rfl, rfl⟩)
    go_ret
    exact ⟨ret_int HV.out.symm, Below.refl _ _⟩

end Go.Proofs.Ythipikllgpnlhaa
