/- Contracts of MahonRow and EulerRow, program and reference. -/
import Derived.Test.YthipikllgpnlhaaC2
import Derived.StillTailTactics
namespace Go.Proofs.Ythipikllgpnlhaa
set_option maxRecDepth 100000
open Go Go.RowKit

theorem own_put {α : Type} {f : α → Value} {w : World} {base e g n cap : Nat} {xs : List α} (h : w.ownsRow base e 1 (.slice (some ⟨g, 0, none⟩) n cap) n (xs.map f)) (j : Nat) (hj : j < xs.length) (x : α) :
    w.cell? ⟨g, j, none⟩ = some (f xs[j]) ∧ w.frozen? ⟨g, j, none⟩ = false ∧ (w.setCell ⟨g, j, none⟩ (f x)).ownsRow base e 1 (.slice (some ⟨g, 0, none⟩) n cap) n ((xs.set j x).map f) := by
  have hl := own_len h
  simp only [List.length_map] at hl
  refine ⟨?_, h.frozenAt j, ?_⟩
  · rw [h.cellAt j (by omega)]; simp [hj]
  · rw [List.map_set]; exact (h.stored j (f x)).1

theorem made_zeros {w : World} {base e n : Nat} {v : Value} (h : w.ownsRow base e 1 v n (madeCells (Value.int .i64 0).cells (n * 1)).toList) : w.ownsRow base e 1 v n ((List.replicate n (0 : Int)).map (Value.int .i64)) := by
  rw [show (Value.int .i64 0).cells = #[.int .i64 0] from rfl, toList_madeCells_one, Nat.mul_one] at h
  simpa using h

def addAt (nx : List Int) (p : Nat) (x : Int) : List Int := nx.set p (wrap64 (nx[p]?.getD 0 + x))
def mahL (nx : List Int) (k : Nat) (x : Int) : Nat → List Int
  | 0 => nx
  | l + 1 => addAt (mahL nx k x l) (k + l) x
def mahK (row : List Int) (i : Nat) : Nat → List Int
  | 0 => List.replicate (row.length + i - 1) 0
  | k + 1 => mahL (mahK row i k) k (row[k]?.getD 0) i
def mahRow : Nat → List Int
  | 0 => [1]
  | 1 => [1]
  | j + 2 => mahK (mahRow (j + 1)) (j + 2) (mahRow (j + 1)).length
def mahG (n : Int) : List Int := if 1 ≤ n ∧ n ≤ 10 then mahRow n.toNat else []
theorem addAt_length (nx : List Int) (p : Nat) (x : Int) : (addAt nx p x).length = nx.length := by simp [addAt]
theorem mahL_length (nx : List Int) (k : Nat) (x : Int) (l : Nat) : (mahL nx k x l).length = nx.length := by
  induction l with
  | zero => rfl
  | succ l ih => rw [mahL, addAt_length, ih]
theorem mahK_length (row : List Int) (i k : Nat) : (mahK row i k).length = row.length + i - 1 := by
  induction k with
  | zero => simp [mahK]
  | succ k ih => rw [mahK, mahL_length, ih]
theorem mahRow_succ (q : Nat) (h : 1 ≤ q) : mahRow (q + 1) = mahK (mahRow q) (q + 1) (mahRow q).length := by
  obtain ⟨j, rfl⟩ : ∃ j, q = j + 1 := ⟨q - 1, by omega⟩
  rfl
theorem mahRow_length_le (q : Nat) (h : q ≤ 11) : 1 ≤ (mahRow q).length ∧ (mahRow q).length ≤ 1 + 11 * q := by
  induction q with
  | zero => simp [mahRow]
  | succ q ih =>
    rcases Nat.eq_zero_or_pos q with rfl | h1
    · simp [mahRow]
    · rw [mahRow_succ q h1, mahK_length]
      have := ih (by omega)
      omega

set_option maxHeartbeats 800000 in
theorem mahon_impl (n : Int) (_ : -9223372036854775808 ≤ n ∧ n ≤ 9223372036854775807) (w : World) : Calls Try.prog 27 #[.int .i64 n] w (Ret (Value.int .i64) 3 w (mahG n)) := by
  obtain ⟨i0, hi, hz0, hz1, hz2⟩ := info_parts infoI
  by_cases h : 1 ≤ n ∧ n ≤ 10
  · obtain ⟨a1, a2⟩ := h
    obtain ⟨m, rfl⟩ := Int.eq_ofNat_of_zero_le (show 0 ≤ n by omega)
    have hG : mahG m = mahRow m := by rw [mahG, if_pos ⟨a1, a2⟩]; rfl
    have HG := Lib.hid hG
    clear hG
    go_enter Try.func27, Try.ntmps27
    go_wp2
    have hown0 : (w.alloc (.cells #[.int .i64 1] 3)).ownsRow w.heap.size 3 1 (.slice (some ⟨w.heap.size, 0, none⟩) 1 1) 1 ((mahRow 1).map (Value.int .i64)) := World.ownsRow_lit w _ 1 (Nat.le_refl _) (by unfold maxLen; omega) rfl
    have hb0 := (Below.refl w.heap.size w).alloc (Nat.le_refl _) (.cells #[.int .i64 1] 3)
    go_loopw [3, 4] (fun v i wr => ∃ (q : Nat) (A : Option Addr) (c : Nat), 1 ≤ q ∧ q ≤ m ∧ i = .int .i64 ((q : Int) + 1) ∧ v = .slice A (mahRow q).length c ∧ wr.ownsRow w.heap.size 3 1 (.slice A (mahRow q).length c) (mahRow q).length ((mahRow q).map (Value.int .i64)) ∧ Below w.heap.size w wr) (fun _ i _ => m + 1 - (intOf i).toNat)
    case atStart => exact ⟨1, _, _, Nat.le_refl _, by omega, rfl, rfl, hown0, hb0⟩
    case round =>
      clear hown0 hb0
      obtain ⟨q, A, c, hq1, hq, rfl, rfl, hown, hb⟩ := hrel
      have hsz := hb.size
      rcases Nat.lt_or_ge q m with hlt | hge
      · have hL := mahRow_length_le q (by omega)
        obtain ⟨hL1, hL2⟩ := hL
        have hrd := Rd.of_own hown
        obtain ⟨wo, rfl⟩ : ∃ wo : World, wo = wr := ⟨_, rfl⟩
        obtain ⟨L, hLe⟩ : ∃ L, L = (mahRow q).length + (q + 1) - 1 := ⟨_, rfl⟩
        have HL := Lib.hid hLe
        have hLb : L ≤ 1000 := by omega
        have hLq : (mahRow q).length + q ≤ L := by omega
        have hLr : L ≤ (mahRow q).length + q := by omega
        clear hLe
        go_wp2_with (at_make; refine wpList_make_full _ rfl _ _ 24 rfl (w.heap.size) 3 i0 (.int .i64 0) 1 Try.underlying24 hi hz0 hz1 .i64 .i64 _ _ (L) rfl rfl (by omega) (by omega) (by rw [hz2]; omega) (by unfold maxLen; omega) (by omega) ?_; intro w1 hown1 hgrow1)
        have hownZ := made_zeros hown1
        have hbo := below_none hgrow1
        clear hown1 hgrow1
        go_wp2
        go_loopw [29] (fun i wi => ∃ k : Nat, k ≤ (mahRow q).length ∧ i = .int .i64 k ∧ wi.ownsRow w.heap.size 3 1 (.slice (some ⟨wo.heap.size, 0, none⟩) L L) L ((mahK (mahRow q) (q + 1) k).map (Value.int .i64)) ∧ Below wo.heap.size wo wi) (fun i _ => (mahRow q).length - (intOf i).toNat)
        case atStart => exact ⟨0, Nat.zero_le _, rfl, by rw [mahK, ← HL.out]; exact hownZ, hbo⟩
        case round =>
          clear hownZ hbo
          obtain ⟨k, hk, rfl, hownK, hbK⟩ := hrel
          obtain ⟨wk, rfl⟩ : ∃ wk : World, wk = wr := ⟨_, rfl⟩
          rcases Nat.lt_or_ge k (mahRow q).length with hk2 | hk2
          · have hrk := hrd.below hbK
            obtain ⟨b, off, rfl, hbb, hc⟩ := hrk (by omega)
            have hck := hc k hk2
            clear hc hrk
            go_wp2
            go_loopw [35] (fun i wi => ∃ l : Nat, l ≤ q + 1 ∧ i = .int .i64 l ∧ wi.ownsRow w.heap.size 3 1 (.slice (some ⟨wo.heap.size, 0, none⟩) L L) L ((mahL (mahK (mahRow q) (q + 1) k) k ((mahRow q)[k]) l).map (Value.int .i64)) ∧ Below wo.heap.size wo wi) (fun i _ => q + 1 - (intOf i).toNat)
            case atStart => exact ⟨0, Nat.zero_le _, rfl, hownK, hbK⟩
            case round =>
              clear hownK hbK hck
              obtain ⟨l, hl, rfl, hownL, hbL⟩ := hrel
              rcases Nat.lt_or_ge l (q + 1) with hl2 | hl2
              · have hlen : (mahL (mahK (mahRow q) (q + 1) k) k ((mahRow q)[k]) l).length = L := by rw [mahL_length, mahK_length, ← HL.out]
                obtain ⟨T, hT⟩ : ∃ T, T = mahL (mahK (mahRow q) (q + 1) k) k ((mahRow q)[k]) l := ⟨_, rfl⟩
                rw [← hT] at hownL hlen
                have hkl : k + l < T.length := by omega
                obtain ⟨p1, p2, p3⟩ := own_put hownL (k + l) hkl (wrap64 (T[k + l] + (mahRow q)[k]))
                have hS := Lib.hid (show mahL (mahK (mahRow q) (q + 1) k) k ((mahRow q)[k]) (l + 1) = T.set (k + l) (wrap64 (T[k + l] + (mahRow q)[k])) by rw [mahL, ← hT, addAt, List.getElem?_eq_getElem hkl]; rfl)
                have hb2 := Lib.hid (hbL.setCell (p := ⟨wo.heap.size, k + l, none⟩) (Nat.le_refl _) (.int .i64 (wrap64 (T[k + l] + (mahRow q)[k]))))
                have P3 := Lib.hid p3
                have hT2 := Lib.hid hT
                have hkL : k + l < L := by omega
                clear p3 hT hlen hownL hbL
                go_wp2
                go_roundw
                case rel => exact ⟨l + 1, by omega, by go_num, by rw [hS.out]; exact P3.out, hb2.out⟩
                case measure => simp [intOf]; omega
              · obtain rfl : l = q + 1 := by omega
                have hS := Lib.hid (show mahK (mahRow q) (q + 1) (k + 1) = mahL (mahK (mahRow q) (q + 1) k) k ((mahRow q)[k]) (q + 1) by rw [mahK, List.getElem?_eq_getElem hk2]; rfl)
                go_wp2
                go_roundw
                case rel => exact ⟨k + 1, by omega, by go_num, by rw [hS.out]; exact hownL, hbL⟩
                case measure => simp [intOf]; omega
          · obtain rfl : k = (mahRow q).length := by omega
            have hS := Lib.hid (mahRow_succ q hq1)
            have hLs := Lib.hid (show (mahRow (q + 1)).length = L by rw [mahRow_succ q hq1, mahK_length, ← HL.out])
            have hbw := Lib.hid (hb.trans (hbK.mono hsz))
            go_wp2
            go_roundw
            case rel => exact ⟨q + 1, _, _, by omega, by omega, by go_num, by rw [hLs.out], by rw [hLs.out, hS.out]; exact hownK, hbw.out⟩
            case measure => simp [intOf]; omega
      · obtain rfl : q = m := by omega
        have hL := mahRow_length_le q (by omega)
        go_wp2
        go_ret
        rw [HG.out]
        have := (own_shape hown)
        obtain ⟨_, _, he, h1, h2⟩ := this
        injection he with _ _ hcc
        subst hcc
        exact ⟨_, _, rfl, h1, h2, hown, hb⟩
  · have HV := Lib.hid (show mahG n = [] by rw [mahG, if_neg h])
    by_cases h1 : n < 1
    · clear h
      go_enter Try.func27, Try.ntmps27
      go_wp2
      go_ret
      rw [HV.out]
      exact ⟨none, 0, rfl, Nat.le_refl _, Nat.zero_le _, World.ownsRow_nil _ _ _ _, Below.refl _ _⟩
    · have h2 : 10 < n := by omega
      clear h
      go_enter Try.func27, Try.ntmps27
      go_wp2
      go_ret
      rw [HV.out]
      exact ⟨none, 0, rfl, Nat.le_refl _, Nat.zero_le _, World.ownsRow_nil _ _ _ _, Below.refl _ _⟩

set_option maxHeartbeats 800000 in
theorem mahon_spec (n : Int) (_ : -9223372036854775808 ≤ n ∧ n ≤ 9223372036854775807) (w : World) : Calls Try.prog 46 #[.int .i64 n] w (Ret (Value.int .i64) 3 w (mahG n)) := by
  obtain ⟨i0, hi, hz0, hz1, hz2⟩ := info_parts infoI
  by_cases h : 1 ≤ n ∧ n ≤ 10
  · obtain ⟨a1, a2⟩ := h
    obtain ⟨m, rfl⟩ := Int.eq_ofNat_of_zero_le (show 0 ≤ n by omega)
    have hG : mahG m = mahRow m := by rw [mahG, if_pos ⟨a1, a2⟩]; rfl
    have HG := Lib.hid hG
    have hd1 : decide (1 ≤ (m : Int) ∧ (m : Int) ≤ 10) = true := by simp [a1, a2]
    clear hG
    go_enter Try.func46, Try.ntmps46
    go_wp2_with (go_at_call 87; refine (l1In_any _ _ _ _).mono ?_; rintro e w' ⟨rfl, rfl⟩)
    clear hd1
    have hown0 : (w.alloc (.cells #[.int .i64 1] 3)).ownsRow w.heap.size 3 1 (.slice (some ⟨w.heap.size, 0, none⟩) 1 1) 1 ((mahRow 1).map (Value.int .i64)) := World.ownsRow_lit w _ 1 (Nat.le_refl _) (by unfold maxLen; omega) rfl
    have hb0 := (Below.refl w.heap.size w).alloc (Nat.le_refl _) (.cells #[.int .i64 1] 3)
    go_loopw [3, 4] (fun v i wr => ∃ (q : Nat) (A : Option Addr) (c : Nat), 1 ≤ q ∧ q ≤ m ∧ i = .int .i64 ((q : Int) + 1) ∧ v = .slice A (mahRow q).length c ∧ wr.ownsRow w.heap.size 3 1 (.slice A (mahRow q).length c) (mahRow q).length ((mahRow q).map (Value.int .i64)) ∧ Below w.heap.size w wr) (fun _ i _ => m + 1 - (intOf i).toNat)
    case atStart => exact ⟨1, _, _, Nat.le_refl _, by omega, rfl, rfl, hown0, hb0⟩
    case round =>
      clear hown0 hb0
      obtain ⟨q, A, c, hq1, hq, rfl, rfl, hown, hb⟩ := hrel
      have hsz := hb.size
      rcases Nat.lt_or_ge q m with hlt | hge
      · have hL := mahRow_length_le q (by omega)
        obtain ⟨hL1, hL2⟩ := hL
        have hrd := Rd.of_own hown
        obtain ⟨wo, rfl⟩ : ∃ wo : World, wo = wr := ⟨_, rfl⟩
        obtain ⟨L, hLe⟩ : ∃ L, L = (mahRow q).length + (q + 1) - 1 := ⟨_, rfl⟩
        have HL := Lib.hid hLe
        have hLb : L ≤ 1000 := by omega
        have hLq : (mahRow q).length + q ≤ L := by omega
        have hLr : L ≤ (mahRow q).length + q := by omega
        clear hLe
        go_wp2_with (at_make; refine wpList_make_full _ rfl _ _ 24 rfl (w.heap.size) 3 i0 (.int .i64 0) 1 Try.underlying24 hi hz0 hz1 .i64 .i64 _ _ (L) rfl rfl (by omega) (by omega) (by rw [hz2]; omega) (by unfold maxLen; omega) (by omega) ?_; intro w1 hown1 hgrow1)
        have hownZ := made_zeros hown1
        have hbo := below_none hgrow1
        clear hown1 hgrow1
        go_wp2
        go_loopw [6] (fun i wi => ∃ k : Nat, k ≤ (mahRow q).length ∧ i = .int .i64 k ∧ wi.ownsRow w.heap.size 3 1 (.slice (some ⟨wo.heap.size, 0, none⟩) L L) L ((mahK (mahRow q) (q + 1) k).map (Value.int .i64)) ∧ Below wo.heap.size wo wi) (fun i _ => (mahRow q).length - (intOf i).toNat)
        case atStart => exact ⟨0, Nat.zero_le _, rfl, by rw [mahK, ← HL.out]; exact hownZ, hbo⟩
        case round =>
          clear hownZ hbo
          obtain ⟨k, hk, rfl, hownK, hbK⟩ := hrel
          obtain ⟨wk, rfl⟩ : ∃ wk : World, wk = wr := ⟨_, rfl⟩
          rcases Nat.lt_or_ge k (mahRow q).length with hk2 | hk2
          · have hrk := hrd.below hbK
            obtain ⟨b, off, rfl, hbb, _⟩ := hrk (by omega)
            clear hrk
            go_wp2
            go_loopw [7] (fun i wi => ∃ l : Nat, l ≤ q + 1 ∧ i = .int .i64 l ∧ wi.ownsRow w.heap.size 3 1 (.slice (some ⟨wo.heap.size, 0, none⟩) L L) L ((mahL (mahK (mahRow q) (q + 1) k) k ((mahRow q)[k]) l).map (Value.int .i64)) ∧ Below wo.heap.size wo wi) (fun i _ => q + 1 - (intOf i).toNat)
            case atStart => exact ⟨0, Nat.zero_le _, rfl, hownK, hbK⟩
            case round =>
              clear hownK hbK
              obtain ⟨l, hl, rfl, hownL, hbL⟩ := hrel
              rcases Nat.lt_or_ge l (q + 1) with hl2 | hl2
              · have hlen : (mahL (mahK (mahRow q) (q + 1) k) k ((mahRow q)[k]) l).length = L := by rw [mahL_length, mahK_length, ← HL.out]
                obtain ⟨T, hT⟩ : ∃ T, T = mahL (mahK (mahRow q) (q + 1) k) k ((mahRow q)[k]) l := ⟨_, rfl⟩
                rw [← hT] at hownL hlen
                have hkl : k + l < T.length := by omega
                obtain ⟨p1, p2, p3⟩ := own_put hownL (k + l) hkl (wrap64 (T[k + l] + (mahRow q)[k]))
                have hS := Lib.hid (show mahL (mahK (mahRow q) (q + 1) k) k ((mahRow q)[k]) (l + 1) = T.set (k + l) (wrap64 (T[k + l] + (mahRow q)[k])) by rw [mahL, ← hT, addAt, List.getElem?_eq_getElem hkl]; rfl)
                have hb2 := Lib.hid (hbL.setCell (p := ⟨wo.heap.size, k + l, none⟩) (Nat.le_refl _) (.int .i64 (wrap64 (T[k + l] + (mahRow q)[k]))))
                have P3 := Lib.hid p3
                have hT2 := Lib.hid hT
                have hkL : k + l < L := by omega
                have hrk := hrd.below hbL
                obtain ⟨b', off', hAA, _, hc⟩ := hrk (by omega)
                simp only [Option.some.injEq, Addr.mk.injEq, and_true] at hAA
                obtain ⟨rfl, rfl⟩ := hAA
                have hck := hc k hk2
                have e1 : IntKind.i64.wrap ((k : Int) + (l : Int)) = (k : Int) + (l : Int) := IntWalk.i64_in _ (by omega)
                have e2 : 0 ≤ (k : Int) + (l : Int) := by omega
                have e3 : ((k : Int) + (l : Int)).toNat = k + l := by omega
                have e4 : (k : Int) + (l : Int) < (L : Int) := by omega
                clear p3 hT hlen hownL hbL hc hrk
                go_wp2
                go_still_tail 16, (by kernel_rfl)
                go_wp2
                go_roundw
                case rel => exact ⟨l + 1, by omega, by go_num, by rw [hS.out]; exact P3.out, below_dr hb2.out (Dr.of _ 1)⟩
                case measure => simp [intOf]; omega
              · obtain rfl : l = q + 1 := by omega
                have hS := Lib.hid (show mahK (mahRow q) (q + 1) (k + 1) = mahL (mahK (mahRow q) (q + 1) k) k ((mahRow q)[k]) (q + 1) by rw [mahK, List.getElem?_eq_getElem hk2]; rfl)
                go_wp2
                go_roundw
                case rel => exact ⟨k + 1, by omega, by go_num, by rw [hS.out]; exact hownL, hbL⟩
                case measure => simp [intOf]; omega
          · obtain rfl : k = (mahRow q).length := by omega
            have hS := Lib.hid (mahRow_succ q hq1)
            have hLs := Lib.hid (show (mahRow (q + 1)).length = L by rw [mahRow_succ q hq1, mahK_length, ← HL.out])
            have hbw := Lib.hid (hb.trans (hbK.mono hsz))
            go_wp2
            go_roundw
            case rel => exact ⟨q + 1, _, _, by omega, by omega, by go_num, by rw [hLs.out], by rw [hLs.out, hS.out]; exact hownK, hbw.out⟩
            case measure => simp [intOf]; omega
      · obtain rfl : q = m := by omega
        have hL := mahRow_length_le q (by omega)
        go_wp2
        go_ret
        rw [HG.out]
        have := (own_shape hown)
        obtain ⟨_, _, he, h1, h2⟩ := this
        injection he with _ _ hcc
        subst hcc
        exact ⟨_, _, rfl, h1, h2, hown, hb⟩
  · have HV := Lib.hid (show mahG n = [] by rw [mahG, if_neg h])
    have hd1 : decide (1 ≤ n ∧ n ≤ 10) = false := by rw [decide_eq_false_iff_not]; exact h
    clear h
    go_enter Try.func46, Try.ntmps46
    go_wp2_with (go_at_call 87; refine (l1In_any _ _ _ _).mono ?_; rintro e w' ⟨rfl, rfl⟩)
    go_ret
    rw [HV.out]
    exact ⟨_, _, rfl, Nat.le_refl _, Nat.zero_le _, World.ownsRow_lit w #[] 0 (Nat.le_refl _) (Nat.zero_le _) rfl, (Below.refl _ _).alloc (Nat.le_refl _) _⟩
theorem mahG_length (n : Int) : (mahG n).length ≤ 1000 := by
  unfold mahG
  split
  · have := mahRow_length_le n.toNat (by omega)
    omega
  · simp


end Go.Proofs.Ythipikllgpnlhaa
