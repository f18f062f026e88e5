/- Several texts in one, each with its own head: C3, D2, D3, V1, G1, G2, S1, V3, D4, OL. No program of ours. -/
import Derived.StillTailTactics
import Derived.RegionTactic
import Derived.ChangeAlike
import Derived.Test.YthipikllgpnlhaaMMeshes5
/- Contracts of MahonRow and EulerRow, program and reference. -/
namespace Go.Proofs.Ythipikllgpnlhaa
set_option maxRecDepth 100000
open Go Go.RowKit

theorem own_put {α : Type} {f : α → Value} {w : World} {base e g n cap : Nat} {xs : List α} (h : w.ownsRow base e 1 (.slice (some ⟨g, 0, none⟩) n cap) n (xs.map f)) (j : Nat) (hj : j < xs.length) (x : α) :
    w.cell? ⟨g, j, none⟩ = some (f xs[j]) ∧ w.frozen? ⟨g, j, none⟩ = false ∧ (w.setCell ⟨g, j, none⟩ (f x)).ownsRow base e 1 (.slice (some ⟨g, 0, none⟩) n cap) n ((xs.set j x).map f) := by
  have hl := own_len h
  simp only [List.length_map] at hl
  refine ⟨?_, h.frozenAt j, ?_⟩
  · rw [h.cellAt j (by omega)]; simp [hj]
  · rw [List.map_set]; exact (h.stored j (f x)).1

theorem made_zeros {w : World} {base e n : Nat} {v : Value} (h : w.ownsRow base e 1 v n (madeCells (Value.int .i64 0).cells (n * 1)).toList) : w.ownsRow base e 1 v n ((List.replicate n (0 : Int)).map (Value.int .i64)) := by
  rw [show (Value.int .i64 0).cells = #[.int .i64 0] from rfl, toList_madeCells_one, Nat.mul_one] at h
  simpa using h

def addAt (nx : List Int) (p : Nat) (x : Int) : List Int := nx.set p (wrap64 (nx[p]?.getD 0 + x))
def mahL (nx : List Int) (k : Nat) (x : Int) : Nat → List Int
  | 0 => nx
  | l + 1 => addAt (mahL nx k x l) (k + l) x
def mahK (row : List Int) (i : Nat) : Nat → List Int
  | 0 => List.replicate (row.length + i - 1) 0
  | k + 1 => mahL (mahK row i k) k (row[k]?.getD 0) i
def mahRow : Nat → List Int
  | 0 => [1]
  | 1 => [1]
  | j + 2 => mahK (mahRow (j + 1)) (j + 2) (mahRow (j + 1)).length
def mahG (n : Int) : List Int := if 1 ≤ n ∧ n ≤ 10 then mahRow n.toNat else []
theorem addAt_length (nx : List Int) (p : Nat) (x : Int) : (addAt nx p x).length = nx.length := by simp [addAt]
theorem mahL_length (nx : List Int) (k : Nat) (x : Int) (l : Nat) : (mahL nx k x l).length = nx.length := by
  induction l with
  | zero => rfl
  | succ l ih => rw [mahL, addAt_length, ih]
theorem mahK_length (row : List Int) (i k : Nat) : (mahK row i k).length = row.length + i - 1 := by
  induction k with
  | zero => simp [mahK]
  | succ k ih => rw [mahK, mahL_length, ih]
theorem mahRow_succ (q : Nat) (h : 1 ≤ q) : mahRow (q + 1) = mahK (mahRow q) (q + 1) (mahRow q).length := by
  obtain ⟨j, rfl⟩ : ∃ j, q = j + 1 := ⟨q - 1, by omega⟩
  rfl
theorem mahRow_length_le (q : Nat) (h : q ≤ 11) : 1 ≤ (mahRow q).length ∧ (mahRow q).length ≤ 1 + 11 * q := by
  induction q with
  | zero => simp [mahRow]
  | succ q ih =>
    rcases Nat.eq_zero_or_pos q with rfl | h1
    · simp [mahRow]
    · rw [mahRow_succ q h1, mahK_length]
      have := ih (by omega)
      omega

set_option maxHeartbeats 800000 in
theorem mahon_impl (n : Int) (_ : -9223372036854775808 ≤ n ∧ n ≤ 9223372036854775807) (w : World) : Calls Try.prog 27 #[.int .i64 n] w (Ret (Value.int .i64) 3 w (mahG n)) := by
  obtain ⟨i0, hi, hz0, hz1, hz2⟩ := info_parts infoI
  by_cases h : 1 ≤ n ∧ n ≤ 10
  · obtain ⟨a1, a2⟩ := h
    obtain ⟨m, rfl⟩ := Int.eq_ofNat_of_zero_le (show 0 ≤ n by omega)
    have hG : mahG m = mahRow m := by rw [mahG, if_pos ⟨a1, a2⟩]; rfl
    have HG := Lib.hid hG
    clear hG
    go_enter Try.func27, Try.ntmps27
    go_wp2
    have hown0 : (w.alloc (.cells #[.int .i64 1] 3)).ownsRow w.heap.size 3 1 (.slice (some ⟨w.heap.size, 0, none⟩) 1 1) 1 ((mahRow 1).map (Value.int .i64)) := World.ownsRow_lit w _ 1 (Nat.le_refl _) (by unfold maxLen; omega) rfl
    have hb0 := (Below.refl w.heap.size w).alloc (Nat.le_refl _) (.cells #[.int .i64 1] 3)
    go_loopw [3, 4] (fun v i wr => ∃ (q : Nat) (A : Option Addr) (c : Nat), 1 ≤ q ∧ q ≤ m ∧ i = .int .i64 ((q : Int) + 1) ∧ v = .slice A (mahRow q).length c ∧ wr.ownsRow w.heap.size 3 1 (.slice A (mahRow q).length c) (mahRow q).length ((mahRow q).map (Value.int .i64)) ∧ Below w.heap.size w wr) (fun _ i _ => m + 1 - (intOf i).toNat)
    case atStart => exact ⟨1, _, _, Nat.le_refl _, by omega, rfl, rfl, hown0, hb0⟩
    case round =>
      clear hown0 hb0
      obtain ⟨q, A, c, hq1, hq, rfl, rfl, hown, hb⟩ := hrel
      have hsz := hb.size
      rcases Nat.lt_or_ge q m with hlt | hge
      · have hL := mahRow_length_le q (by omega)
        obtain ⟨hL1, hL2⟩ := hL
        have hrd := Rd.of_own hown
        obtain ⟨wo, rfl⟩ : ∃ wo : World, wo = wr := ⟨_, rfl⟩
        obtain ⟨L, hLe⟩ : ∃ L, L = (mahRow q).length + (q + 1) - 1 := ⟨_, rfl⟩
        have HL := Lib.hid hLe
        have hLb : L ≤ 1000 := by omega
        have hLq : (mahRow q).length + q ≤ L := by omega
        have hLr : L ≤ (mahRow q).length + q := by omega
        clear hLe
        go_wp2_with (at_make; refine wpList_make_full _ rfl _ _ 24 rfl (w.heap.size) 3 i0 (.int .i64 0) 1 Try.underlying24 hi hz0 hz1 .i64 .i64 _ _ (L) rfl rfl (by omega) (by omega) (by rw [hz2]; omega) (by unfold maxLen; omega) (by omega) ?_; intro w1 hown1 hgrow1)
        have hownZ := made_zeros hown1
        have hbo := below_none hgrow1
        clear hown1 hgrow1
        go_wp2
        go_loopw [29] (fun i wi => ∃ k : Nat, k ≤ (mahRow q).length ∧ i = .int .i64 k ∧ wi.ownsRow w.heap.size 3 1 (.slice (some ⟨wo.heap.size, 0, none⟩) L L) L ((mahK (mahRow q) (q + 1) k).map (Value.int .i64)) ∧ Below wo.heap.size wo wi) (fun i _ => (mahRow q).length - (intOf i).toNat)
        case atStart => exact ⟨0, Nat.zero_le _, rfl, by rw [mahK, ← HL.out]; exact hownZ, hbo⟩
        case round =>
          clear hownZ hbo
          obtain ⟨k, hk, rfl, hownK, hbK⟩ := hrel
          obtain ⟨wk, rfl⟩ : ∃ wk : World, wk = wr := ⟨_, rfl⟩
          rcases Nat.lt_or_ge k (mahRow q).length with hk2 | hk2
          · have hrk := hrd.below hbK
            obtain ⟨b, off, rfl, hbb, hc⟩ := hrk (by omega)
            have hck := hc k hk2
            clear hc hrk
            go_wp2
            go_loopw [35] (fun i wi => ∃ l : Nat, l ≤ q + 1 ∧ i = .int .i64 l ∧ wi.ownsRow w.heap.size 3 1 (.slice (some ⟨wo.heap.size, 0, none⟩) L L) L ((mahL (mahK (mahRow q) (q + 1) k) k ((mahRow q)[k]) l).map (Value.int .i64)) ∧ Below wo.heap.size wo wi) (fun i _ => q + 1 - (intOf i).toNat)
            case atStart => exact ⟨0, Nat.zero_le _, rfl, hownK, hbK⟩
            case round =>
              clear hownK hbK hck
              obtain ⟨l, hl, rfl, hownL, hbL⟩ := hrel
              rcases Nat.lt_or_ge l (q + 1) with hl2 | hl2
              · have hlen : (mahL (mahK (mahRow q) (q + 1) k) k ((mahRow q)[k]) l).length = L := by rw [mahL_length, mahK_length, ← HL.out]
                obtain ⟨T, hT⟩ : ∃ T, T = mahL (mahK (mahRow q) (q + 1) k) k ((mahRow q)[k]) l := ⟨_, rfl⟩
                rw [← hT] at hownL hlen
                have hkl : k + l < T.length := by omega
                obtain ⟨p1, p2, p3⟩ := own_put hownL (k + l) hkl (wrap64 (T[k + l] + (mahRow q)[k]))
                have hS := Lib.hid (show mahL (mahK (mahRow q) (q + 1) k) k ((mahRow q)[k]) (l + 1) = T.set (k + l) (wrap64 (T[k + l] + (mahRow q)[k])) by rw [mahL, ← hT, addAt, List.getElem?_eq_getElem hkl]; rfl)
                have hb2 := Lib.hid (hbL.setCell (p := ⟨wo.heap.size, k + l, none⟩) (Nat.le_refl _) (.int .i64 (wrap64 (T[k + l] + (mahRow q)[k]))))
                have P3 := Lib.hid p3
                have hT2 := Lib.hid hT
                have hkL : k + l < L := by omega
                clear p3 hT hlen hownL hbL
                go_wp2
                go_roundw
                case rel => exact ⟨l + 1, by omega, by go_num, by rw [hS.out]; exact P3.out, hb2.out⟩
                case measure => simp [intOf]; omega
              · obtain rfl : l = q + 1 := by omega
                have hS := Lib.hid (show mahK (mahRow q) (q + 1) (k + 1) = mahL (mahK (mahRow q) (q + 1) k) k ((mahRow q)[k]) (q + 1) by rw [mahK, List.getElem?_eq_getElem hk2]; rfl)
                go_wp2
                go_roundw
                case rel => exact ⟨k + 1, by omega, by go_num, by rw [hS.out]; exact hownL, hbL⟩
                case measure => simp [intOf]; omega
          · obtain rfl : k = (mahRow q).length := by omega
            have hS := Lib.hid (mahRow_succ q hq1)
            have hLs := Lib.hid (show (mahRow (q + 1)).length = L by rw [mahRow_succ q hq1, mahK_length, ← HL.out])
            have hbw := Lib.hid (hb.trans (hbK.mono hsz))
            go_wp2
            go_roundw
            case rel => exact ⟨q + 1, _, _, by omega, by omega, by go_num, by rw [hLs.out], by rw [hLs.out, hS.out]; exact hownK, hbw.out⟩
            case measure => simp [intOf]; omega
      · obtain rfl : q = m := by omega
        have hL := mahRow_length_le q (by omega)
        go_wp2
        go_ret
        rw [HG.out]
        have := (own_shape hown)
        obtain ⟨_, _, he, h1, h2⟩ := this
        injection he with _ _ hcc
        subst hcc
        exact ⟨_, _, rfl, h1, h2, hown, hb⟩
  · have HV := Lib.hid (show mahG n = [] by rw [mahG, if_neg h])
    by_cases h1 : n < 1
    · clear h
      go_enter Try.func27, Try.ntmps27
      go_wp2
      go_ret
      rw [HV.out]
      exact ⟨none, 0, rfl, Nat.le_refl _, Nat.zero_le _, World.ownsRow_nil _ _ _ _, Below.refl _ _⟩
    · have h2 : 10 < n := by omega
      clear h
      go_enter Try.func27, Try.ntmps27
      go_wp2
      go_ret
      rw [HV.out]
      exact ⟨none, 0, rfl, Nat.le_refl _, Nat.zero_le _, World.ownsRow_nil _ _ _ _, Below.refl _ _⟩

set_option maxHeartbeats 800000 in
theorem mahon_spec (n : Int) (_ : -9223372036854775808 ≤ n ∧ n ≤ 9223372036854775807) (w : World) : Calls Try.prog 46 #[.int .i64 n] w (Ret (Value.int .i64) 3 w (mahG n)) := by
  obtain ⟨i0, hi, hz0, hz1, hz2⟩ := info_parts infoI
  by_cases h : 1 ≤ n ∧ n ≤ 10
  · obtain ⟨a1, a2⟩ := h
    obtain ⟨m, rfl⟩ := Int.eq_ofNat_of_zero_le (show 0 ≤ n by omega)
    have hG : mahG m = mahRow m := by rw [mahG, if_pos ⟨a1, a2⟩]; rfl
    have HG := Lib.hid hG
    have hd1 : decide (1 ≤ (m : Int) ∧ (m : Int) ≤ 10) = true := by simp [a1, a2]
    clear hG
    go_enter Try.func46, Try.ntmps46
    go_wp2_with (go_at_call 87; refine (l1In_any _ _ _ _).mono ?_; rintro e w' ⟨rfl, rfl⟩)
    clear hd1
    have hown0 : (w.alloc (.cells #[.int .i64 1] 3)).ownsRow w.heap.size 3 1 (.slice (some ⟨w.heap.size, 0, none⟩) 1 1) 1 ((mahRow 1).map (Value.int .i64)) := World.ownsRow_lit w _ 1 (Nat.le_refl _) (by unfold maxLen; omega) rfl
    have hb0 := (Below.refl w.heap.size w).alloc (Nat.le_refl _) (.cells #[.int .i64 1] 3)
    go_loopw [3, 4] (fun v i wr => ∃ (q : Nat) (A : Option Addr) (c : Nat), 1 ≤ q ∧ q ≤ m ∧ i = .int .i64 ((q : Int) + 1) ∧ v = .slice A (mahRow q).length c ∧ wr.ownsRow w.heap.size 3 1 (.slice A (mahRow q).length c) (mahRow q).length ((mahRow q).map (Value.int .i64)) ∧ Below w.heap.size w wr) (fun _ i _ => m + 1 - (intOf i).toNat)
    case atStart => exact ⟨1, _, _, Nat.le_refl _, by omega, rfl, rfl, hown0, hb0⟩
    case round =>
      clear hown0 hb0
      obtain ⟨q, A, c, hq1, hq, rfl, rfl, hown, hb⟩ := hrel
      have hsz := hb.size
      rcases Nat.lt_or_ge q m with hlt | hge
      · have hL := mahRow_length_le q (by omega)
        obtain ⟨hL1, hL2⟩ := hL
        have hrd := Rd.of_own hown
        obtain ⟨wo, rfl⟩ : ∃ wo : World, wo = wr := ⟨_, rfl⟩
        obtain ⟨L, hLe⟩ : ∃ L, L = (mahRow q).length + (q + 1) - 1 := ⟨_, rfl⟩
        have HL := Lib.hid hLe
        have hLb : L ≤ 1000 := by omega
        have hLq : (mahRow q).length + q ≤ L := by omega
        have hLr : L ≤ (mahRow q).length + q := by omega
        clear hLe
        go_wp2_with (at_make; refine wpList_make_full _ rfl _ _ 24 rfl (w.heap.size) 3 i0 (.int .i64 0) 1 Try.underlying24 hi hz0 hz1 .i64 .i64 _ _ (L) rfl rfl (by omega) (by omega) (by rw [hz2]; omega) (by unfold maxLen; omega) (by omega) ?_; intro w1 hown1 hgrow1)
        have hownZ := made_zeros hown1
        have hbo := below_none hgrow1
        clear hown1 hgrow1
        go_wp2
        go_loopw [6] (fun i wi => ∃ k : Nat, k ≤ (mahRow q).length ∧ i = .int .i64 k ∧ wi.ownsRow w.heap.size 3 1 (.slice (some ⟨wo.heap.size, 0, none⟩) L L) L ((mahK (mahRow q) (q + 1) k).map (Value.int .i64)) ∧ Below wo.heap.size wo wi) (fun i _ => (mahRow q).length - (intOf i).toNat)
        case atStart => exact ⟨0, Nat.zero_le _, rfl, by rw [mahK, ← HL.out]; exact hownZ, hbo⟩
        case round =>
          clear hownZ hbo
          obtain ⟨k, hk, rfl, hownK, hbK⟩ := hrel
          obtain ⟨wk, rfl⟩ : ∃ wk : World, wk = wr := ⟨_, rfl⟩
          rcases Nat.lt_or_ge k (mahRow q).length with hk2 | hk2
          · have hrk := hrd.below hbK
            obtain ⟨b, off, rfl, hbb, _⟩ := hrk (by omega)
            clear hrk
            go_wp2
            go_loopw [7] (fun i wi => ∃ l : Nat, l ≤ q + 1 ∧ i = .int .i64 l ∧ wi.ownsRow w.heap.size 3 1 (.slice (some ⟨wo.heap.size, 0, none⟩) L L) L ((mahL (mahK (mahRow q) (q + 1) k) k ((mahRow q)[k]) l).map (Value.int .i64)) ∧ Below wo.heap.size wo wi) (fun i _ => q + 1 - (intOf i).toNat)
            case atStart => exact ⟨0, Nat.zero_le _, rfl, hownK, hbK⟩
            case round =>
              clear hownK hbK
              obtain ⟨l, hl, rfl, hownL, hbL⟩ := hrel
              rcases Nat.lt_or_ge l (q + 1) with hl2 | hl2
              · have hlen : (mahL (mahK (mahRow q) (q + 1) k) k ((mahRow q)[k]) l).length = L := by rw [mahL_length, mahK_length, ← HL.out]
                obtain ⟨T, hT⟩ : ∃ T, T = mahL (mahK (mahRow q) (q + 1) k) k ((mahRow q)[k]) l := ⟨_, rfl⟩
                rw [← hT] at hownL hlen
                have hkl : k + l < T.length := by omega
                obtain ⟨p1, p2, p3⟩ := own_put hownL (k + l) hkl (wrap64 (T[k + l] + (mahRow q)[k]))
                have hS := Lib.hid (show mahL (mahK (mahRow q) (q + 1) k) k ((mahRow q)[k]) (l + 1) = T.set (k + l) (wrap64 (T[k + l] + (mahRow q)[k])) by rw [mahL, ← hT, addAt, List.getElem?_eq_getElem hkl]; rfl)
                have hb2 := Lib.hid (hbL.setCell (p := ⟨wo.heap.size, k + l, none⟩) (Nat.le_refl _) (.int .i64 (wrap64 (T[k + l] + (mahRow q)[k]))))
                have P3 := Lib.hid p3
                have hT2 := Lib.hid hT
                have hkL : k + l < L := by omega
                have hrk := hrd.below hbL
                obtain ⟨b', off', hAA, _, hc⟩ := hrk (by omega)
                simp only [Option.some.injEq, Addr.mk.injEq, and_true] at hAA
                obtain ⟨rfl, rfl⟩ := hAA
                have hck := hc k hk2
                have e1 : IntKind.i64.wrap ((k : Int) + (l : Int)) = (k : Int) + (l : Int) := IntWalk.i64_in _ (by omega)
                have e2 : 0 ≤ (k : Int) + (l : Int) := by omega
                have e3 : ((k : Int) + (l : Int)).toNat = k + l := by omega
                have e4 : (k : Int) + (l : Int) < (L : Int) := by omega
                clear p3 hT hlen hownL hbL hc hrk
                go_wp2
                go_still_tail 16, (by kernel_rfl)
                go_wp2
                go_roundw
                case rel => exact ⟨l + 1, by omega, by go_num, by rw [hS.out]; exact P3.out, below_dr hb2.out (Dr.of _ 1)⟩
                case measure => simp [intOf]; omega
              · obtain rfl : l = q + 1 := by omega
                have hS := Lib.hid (show mahK (mahRow q) (q + 1) (k + 1) = mahL (mahK (mahRow q) (q + 1) k) k ((mahRow q)[k]) (q + 1) by rw [mahK, List.getElem?_eq_getElem hk2]; rfl)
                go_wp2
                go_roundw
                case rel => exact ⟨k + 1, by omega, by go_num, by rw [hS.out]; exact hownL, hbL⟩
                case measure => simp [intOf]; omega
          · obtain rfl : k = (mahRow q).length := by omega
            have hS := Lib.hid (mahRow_succ q hq1)
            have hLs := Lib.hid (show (mahRow (q + 1)).length = L by rw [mahRow_succ q hq1, mahK_length, ← HL.out])
            have hbw := Lib.hid (hb.trans (hbK.mono hsz))
            go_wp2
            go_roundw
            case rel => exact ⟨q + 1, _, _, by omega, by omega, by go_num, by rw [hLs.out], by rw [hLs.out, hS.out]; exact hownK, hbw.out⟩
            case measure => simp [intOf]; omega
      · obtain rfl : q = m := by omega
        have hL := mahRow_length_le q (by omega)
        go_wp2
        go_ret
        rw [HG.out]
        have := (own_shape hown)
        obtain ⟨_, _, he, h1, h2⟩ := this
        injection he with _ _ hcc
        subst hcc
        exact ⟨_, _, rfl, h1, h2, hown, hb⟩
  · have HV := Lib.hid (show mahG n = [] by rw [mahG, if_neg h])
    have hd1 : decide (1 ≤ n ∧ n ≤ 10) = false := by rw [decide_eq_false_iff_not]; exact h
    clear h
    go_enter Try.func46, Try.ntmps46
    go_wp2_with (go_at_call 87; refine (l1In_any _ _ _ _).mono ?_; rintro e w' ⟨rfl, rfl⟩)
    go_ret
    rw [HV.out]
    exact ⟨_, _, rfl, Nat.le_refl _, Nat.zero_le _, World.ownsRow_lit w #[] 0 (Nat.le_refl _) (Nat.zero_le _) rfl, (Below.refl _ _).alloc (Nat.le_refl _) _⟩
theorem mahG_length (n : Int) : (mahG n).length ≤ 1000 := by
  unfold mahG
  split
  · have := mahRow_length_le n.toNat (by omega)
    omega
  · simp


end Go.Proofs.Ythipikllgpnlhaa

/- The draws of permutations: a list of as many numbers as was asked. -/
namespace Go.Proofs.Ythipikllgpnlhaa
set_option maxRecDepth 100000
open Go Go.RowKit

section
variable {w w' wa wb : World} {q : Nat} {A : Option Addr} {c : Nat} {bs : List Int}
theorem own_drawn {base e n : Nat} {v : Value} {vs : List Value} (h : w.ownsRow base e 1 v n vs) (k : Drawn w w' q A c bs) (hq : q < base) : w'.ownsRow base e 1 v n vs :=
  own_span h k.span fun g hg => by have := (h.lt g hg).1; omega
theorem Drawn.next (h : Drawn wa wb q A c bs) (hb : Below wa.heap.size wb w') (hq : q < wa.heap.size) : Drawn wa w' q A c bs :=
  ⟨h.cur.below hb hq, ⟨hb.os.trans h.span.os, hb.tape.trans h.span.tape, hb.output.trans h.span.output, Nat.le_trans h.span.size hb.size, fun k hk hlh => (hb.block k hk).trans (h.span.block k hk hlh)⟩⟩
theorem Rd.drawn {α : Type} {f : α → Value} {B : Nat} {D : Option Addr} {xs : List α} (h : Rd f w B D xs) (k : Drawn w w' q A c bs) (hB : B ≤ q) (hw : B ≤ w.heap.size) : Rd f w' B D xs := h.below (k.span.below hB hw)
end
/-- 1, 2, .., m. -/
def upToL (m : Nat) : List Int := (List.range m).map fun i => ((i : Nat) : Int) + 1
theorem upToL_succ (m : Nat) : upToL (m + 1) = upToL m ++ [(m : Int) + 1] := by simp [upToL, List.range_succ]
theorem upToL_length (m : Nat) : (upToL m).length = m := by simp [upToL]
theorem ins_perm (xs : List Int) (t : Nat) (x : Int) : (xs.take t ++ [x] ++ xs.drop t).Perm (xs ++ [x]) := by
  have h : (xs.take t ++ [x] ++ xs.drop t).Perm (xs.take t ++ (xs.drop t ++ [x])) := by
    rw [List.append_assoc]
    exact List.Perm.append_left _ List.perm_append_comm
  rwa [← List.append_assoc, List.take_append_drop] at h
/-- A list of the call's own was drawn. -/
def RetD (w : World) (q : Nat) (A : Option Addr) (c : Nat) (bs : List Int) (ok : List Int → Prop) (en : Ending) (w' : World) : Prop :=
  ∃ D k ys, en = .returned (.slice D ys.length k) ∧ ok ys ∧ w'.ownsRow w.heap.size 3 1 (.slice D ys.length k) ys.length (ys.map (Value.int .i64)) ∧ Drawn w w' q A c bs

set_option maxHeartbeats 2000000 in
theorem l2Draw_any (w : World) (q : Nat) (A : Option Addr) (c : Nat) (bs : List Int) (n : Nat) (hn : n ≤ 1000000) (hc : Cur w q A c bs) :
    Calls Try.prog 104 #[.pointer (some ⟨q, 0, none⟩), .int .i64 n] w (RetD w q A c bs fun ys => ys.Perm (upToL n)) := by
  obtain ⟨i0, hi, hz0, hz1, hz2⟩ := info_parts infoI
  have hq := hc.lt
  have own0 : (w.alloc (.cells #[] 3)).ownsRow w.heap.size 3 1 (.slice (some ⟨w.heap.size, 0, none⟩) 0 0) 0 [] := World.ownsRow_lit w #[] 0 (Nat.le_refl _) (by unfold maxLen; omega) rfl
  have k0 := (Drawn.refl hc).next ((Below.refl w.heap.size w).alloc (Nat.le_refl _) (.cells #[] 3)) hq
  go_enter Try.func104, Try.ntmps104
  go_wp2_with fail
  go_loopw [5, 6] (fun o i wr => ∃ (m : Nat) (A1 : Option Addr) (c1 : Nat) (ys : List Int), m ≤ n ∧ i = .int .i64 ((m : Int) + 1) ∧ o = .slice A1 ys.length c1 ∧ Hid (ys.Perm (upToL m)) ∧
    wr.ownsRow w.heap.size 3 1 (.slice A1 ys.length c1) ys.length (ys.map (Value.int .i64)) ∧ Drawn w wr q A c bs) (fun _ i _ => n + 1 - (intOf i).toNat)
  case atStart => exact ⟨0, _, _, [], Nat.zero_le _, rfl, rfl, Lib.hid (by rw [show upToL 0 = [] from rfl]), own0, k0⟩
  case round =>
    clear own0 k0
    obtain ⟨m, A1, c1, ys, hm, rfl, rfl, HP, own1, k1⟩ := hrel
    have hyl : ys.length = m := by rw [HP.out.length_eq, upToL_length]
    have hsz := k1.span.size
    rcases Nat.lt_or_ge m n with hlt | hge
    · have hy1 : ys.length ≤ 1000000 := by omega
      have HYL := Lib.hid hyl
      have e1 : IntKind.i64.wrap ((ys.length : Int) + 1) = (ys.length : Int) + 1 := IntWalk.i64_in _ (by omega)
      have l1 : (m : Int) + 1 ≤ (n : Int) := by omega
      have HC := Lib.hid (l1Below_any wr q A c bs ((ys.length : Int) + 1) (by omega) k1.cur)
      clear hyl
      go_wp2_with fail
      (with_reducible refine HC.out.mono ?_)
      rintro e w0 ⟨x, rfl, hx, kx⟩
      obtain ⟨t, rfl⟩ := Int.eq_ofNat_of_zero_le hx.1
      have htl : t ≤ ys.length := by have := hx.2.1 (by omega); omega
      have own1 := own_drawn own1 kx hq
      have k1 := k1.trans kx
      have hsz0 := k1.span.size
      obtain ⟨cp1, cp2⟩ := own_caps own1
      clear hx kx HC
      have hsl1 := fun w => run_cut (P := Try.prog) (t := 24) Try.underlying24 sizeI A1 ys.length c1 t (t : Int) rfl htl w
      have hsl2 := fun w => run_slice_h (P := Try.prog) w 24 A1 ys.length c1 Try.underlying24 .i64 t (by omega) (by omega)
      have q2 : (t : Int) ≤ (ys.length : Int) := by omega
      have hown0 : (w0.alloc (.cells #[] 3)).ownsRow w0.heap.size 3 1 (.slice (some ⟨w0.heap.size, 0, none⟩) 0 0) 0 [] := World.ownsRow_lit w0 #[] 0 (Nat.le_refl _) (by unfold maxLen; omega) rfl
      have HX0 := Lib.hid ((((Rd.of_own own1).alloc (Nat.le_refl _) (.cells #[] 3)).cut (k := t) (c := c1) htl cp1))
      have HD1 := Lib.hid (show (ys.drop t).length = ys.length - t from List.length_drop)
      have HT1 := Lib.hid (show (ys.take t).length = t by simp; omega)
      have hbA := (Below.refl w0.heap.size w0).alloc (Nat.le_refl _) (.cells #[] 3)
      go_wp2_with (first
        | ((at_builtin; refine wpList_append_rd _ rfl _ _ 24 rfl (w0.heap.size) 3 i0 (.int .i64 0) 8 Try.underlying24 hi hz0 hz1 hz2 rfl _ _ _ rfl hown0 _ _ _ _ (ys.drop t) rfl HD1.out HX0.out (fun _ => rfl) (by unfold maxLen; omega) (by omega) (by first | omega | (simp; done) | (simp; omega)) ?_; intro v1 w1 hown1 hgrow1)
           simp only [Nat.zero_add, List.nil_append] at hown1
           obtain ⟨A3, c3, rfl, _, _⟩ := own_shape hown1
           have hbB := hbA.grown hgrow1 (by simp) (fun g hg => (hown0.lt g hg).1)
           have hszB := hbB.size
           have HT := own_take (own_below own1 hbB) htl)
        | ((at_builtin; refine wpList_append_own _ rfl _ _ 24 rfl (w.heap.size) 3 i0 (.int .i64 0) 1 8 Try.underlying24 hi hz0 hz1 hz2 rfl (by decide) _ _ _ rfl (World.ownsRow.alloc HT _) ⟨w1.heap.size, 0, none⟩ 1 1 [.int .i64 ((m : Int) + 1)] rfl rfl (cell_one_new _ _ _) (by intro u hu; simp at hu; subst hu; rfl) (by unfold maxLen; omega) (by omega) (by simp; omega) ?_; intro v2 w2 hown2 hgrow2 _)
           have hR2 := (hown1.alloc (Obj.cells #[Value.int .i64 ((m : Int) + 1)] 3)).kept hgrow2 (by
             rcases hv : (Value.slice A3 (ys.length - t) c3).ownBlock with _ | g
             · exact .inl rfl
             · refine .inr fun he => ?_
               have h1 := (hown1.lt g hv).1
               have h2 := ((own_take own1 htl).lt g he.symm).2
               omega)
           have HRR : Rd (Value.int .i64) w2 w2.heap.size A3 (ys.drop t) := Rd.of_own (c := c3) (by rw [HD1.out]; exact hR2)
           have hsz2 : w.heap.size ≤ w2.heap.size := by have := hgrow2.size; simp at this; omega)
        | (at_builtin; refine wpList_append_rd _ rfl _ _ 24 rfl (w.heap.size) 3 i0 (.int .i64 0) 8 Try.underlying24 hi hz0 hz1 hz2 rfl _ _ _ rfl hown2 _ _ _ _ (ys.drop t) rfl HD1.out HRR (fun _ => rfl) (by unfold maxLen; omega) (by omega) (by first | omega | (simp; done) | (simp; omega)) ?_; intro v4 w4 hown4 hgrow4))
      have hzl : (ys.take t ++ [(m : Int) + 1] ++ ys.drop t).length = t + 1 + (ys.length - t) := by simp only [List.length_append, List.length_singleton, HT1.out, HD1.out]
      have hown5 : w4.ownsRow w.heap.size 3 1 v4 (ys.take t ++ [(m : Int) + 1] ++ ys.drop t).length ((ys.take t ++ [(m : Int) + 1] ++ ys.drop t).map (Value.int .i64)) := by
        rw [hzl]
        simpa only [List.map_append, List.map_take, List.map_drop, List.map_cons, List.map_nil] using hown4
      obtain ⟨A5, c5, rfl, _, _⟩ := own_shape hown5
      have hbC := ((hbB.mono hsz0).alloc (by omega) (Obj.cells #[Value.int .i64 ((m : Int) + 1)] 3)).grown hgrow2 (by simp; omega) (fun g hg => (HT.lt g hg).1)
      have hbD := hbC.grown hgrow4 (by omega) (fun g hg => (hown2.lt g hg).1)
      have k5 := k1.next hbD hq
      have HP5 : Hid ((ys.take t ++ [(m : Int) + 1] ++ ys.drop t).Perm (upToL (m + 1))) := Lib.hid ((ins_perm ys t ((m : Int) + 1)).trans (by rw [upToL_succ]; exact List.Perm.append_right _ HP.out))
      exact ⟨⟨m + 1, A5, c5, _, by omega, by go_num, rfl, HP5, hown5, k5⟩, by simp [intOf]; omega⟩
    · obtain rfl : m = n := by omega
      go_wp2_with fail
      go_ret
      exact ⟨A1, c1, ys, rfl, HP.out, own1, k1⟩
set_option maxHeartbeats 2000000 in
theorem l2Any_any (w : World) (q : Nat) (A : Option Addr) (c : Nat) (bs : List Int) (hc : Cur w q A c bs) :
    Calls Try.prog 120 #[.pointer (some ⟨q, 0, none⟩)] w (RetD w q A c bs fun ys => ys.length ≤ 8 ∧ ys.Perm (upToL ys.length)) := by
  have hq := hc.lt
  have k0 := (Drawn.refl hc).next ((Below.refl w.heap.size w).alloc (Nat.le_refl _) (.cells #[.int .i64 0, .int .i64 1, .int .i64 2, .int .i64 3, .int .i64 4, .int .i64 5, .int .i64 5, .int .i64 6, .int .i64 6, .int .i64 7, .int .i64 8] 3)) hq
  have HC := Lib.hid (l1PickInt_any _ q A c bs w.heap.size 11 11 [0, 1, 2, 3, 4, 5, 5, 6, 6, 7, 8] rfl (by decide) (by decide) (by omega) (by simp) (fun j hj => (obj_cell (obj_new w _)).trans (by
    have hj : j < 11 := hj
    rcases j with _ | _ | _ | _ | _ | _ | _ | _ | _ | _ | _ | j
    all_goals first | rfl | omega)) k0.cur)
  go_enter Try.func120, Try.ntmps120
  go_wp2_with fail
  (with_reducible refine HC.out.mono ?_)
  rintro e w1 ⟨x, rfl, hx, k1⟩
  have hx8 : 0 ≤ x ∧ x ≤ 8 := by simp at hx; omega
  obtain ⟨n, rfl⟩ := Int.eq_ofNat_of_zero_le hx8.1
  have k1 := k0.trans k1
  have hsz := k1.span.size
  have HD := Lib.hid (l2Draw_any w1 q A c bs n (by omega) k1.cur)
  go_wp2_with fail
  (with_reducible refine HD.out.mono ?_)
  rintro e w2 ⟨D, k, ys, rfl, hp, ho, k2⟩
  go_wp2_with fail
  go_ret
  have hl : ys.length = n := by rw [hp.length_eq, upToL_length]
  exact ⟨D, k, ys, rfl, ⟨by omega, by rw [hl]; exact hp⟩, own_mono ho hsz, k1.trans k2⟩
set_option maxHeartbeats 2000000 in
theorem l2Bent_any (w : World) (q : Nat) (A : Option Addr) (c : Nat) (bs : List Int) (hc : Cur w q A c bs) :
    Calls Try.prog 72 #[.pointer (some ⟨q, 0, none⟩)] w (RetD w q A c bs fun ys => ys.length ≤ 9) := by
  obtain ⟨i0, hi, hz0, hz1, hz2⟩ := info_parts infoI
  have hq := hc.lt
  have HC := Lib.hid (l2Any_any w q A c bs hc)
  go_enter Try.func72, Try.ntmps72
  go_wp2_with fail
  (with_reducible refine HC.out.mono ?_)
  rintro e w1 ⟨D, k, ys, rfl, ⟨hl8, hp⟩, ho, k1⟩
  have HB := Lib.hid (l1Below_any w1 q A c bs 14 (by omega) k1.cur)
  have hsz := k1.span.size
  clear hp
  go_wp2_with fail
  (with_reducible refine HB.out.mono ?_)
  rintro e w2 ⟨x, rfl, hx, kx⟩
  have ho := own_drawn ho kx hq
  have k2 := k1.trans kx
  have hsz := k2.span.size
  by_cases hx0 : x = 0
  · subst hx0
    have HB := Lib.hid (l1Below_any w2 q A c bs 12 (by omega) k2.cur)
    clear hx
    go_wp2_with fail
    (with_reducible refine HB.out.mono ?_)
    rintro e w3 ⟨y, rfl, hy, ky⟩
    have ho := own_drawn ho ky hq
    have k3 := k2.trans ky
    have hsz := k3.span.size
    have e1 : IntKind.i64.wrap (y - 1) = y - 1 := IntWalk.i64_in _ (by omega)
    go_wp2_with (at_builtin; refine wpList_append_own _ rfl _ _ 24 rfl (w.heap.size) 3 i0 (.int .i64 0) 1 8 Try.underlying24 hi hz0 hz1 hz2 rfl (by decide) _ _ _ rfl (World.ownsRow.alloc ho _) ⟨w3.heap.size, 0, none⟩ 1 1 [.int .i64 (y - 1)] rfl rfl (cell_one_new _ _ _) (by intro u hu; simp at hu; subst hu; rfl) (by unfold maxLen; omega) (by omega) (by simp; omega) ?_; intro v1 w1 hown1 hgrow1 _)
    have hown5 : w1.ownsRow w.heap.size 3 1 v1 (ys ++ [y - 1]).length ((ys ++ [y - 1]).map (Value.int .i64)) := by simpa using hown1
    obtain ⟨A5, c5, rfl, _, _⟩ := own_shape hown5
    have hbC := ((Below.refl w.heap.size w3).alloc hsz (Obj.cells #[Value.int .i64 (y - 1)] 3)).grown hgrow1 (by simp; omega) (fun g hg => (ho.lt g hg).1)
    go_ret
    exact ⟨A5, c5, _, by simp, by simp; omega, hown5, k3.next hbC hq⟩
  by_cases hx1 : x = 1
  · subst hx1
    clear hx
    rcases Nat.eq_zero_or_pos ys.length with h0 | h0
    · obtain rfl : ys = [] := List.eq_nil_of_length_eq_zero h0
      go_wp2_with fail
      go_ret
      exact ⟨D, k, [], rfl, by simp, ho, k2⟩
    · have HB := Lib.hid (l1Below_any w2 q A c bs 11 (by omega) k2.cur)
      obtain ⟨g, cap, hv, hg1, hlt⟩ := ho.form (by simpa using h0)
      injection hv with hv1 hv2 hv3
      subst hv1 hv3
      go_wp2_with fail
      (with_reducible refine HB.out.mono ?_)
      rintro e w3 ⟨y, rfl, hy, ky⟩
      have ho := own_drawn ho ky hq
      have k3 := k2.trans ky
      have hsz := k3.span.size
      have e1 : IntKind.i64.wrap (y - 1) = y - 1 := IntWalk.i64_in _ (by omega)
      obtain ⟨f0, g0, ho5⟩ := own_put ho 0 h0 (y - 1)
      go_wp2_with fail
      go_ret
      exact ⟨some ⟨g, 0, none⟩, k, ys.set 0 (y - 1), by simp, by simp; omega, by simpa using ho5, k3.next ((Below.refl _ _).setCell (p := ⟨g, 0, none⟩) (ho.lt g rfl).1 _) hq⟩
  · go_wp2_with fail
    go_ret
    exact ⟨D, k, ys, rfl, by omega, ho, k2⟩
end Go.Proofs.Ythipikllgpnlhaa

/- What the great laws begin with: the size test, equal lists of numbers, the draws from the code. -/
namespace Go.Proofs.Ythipikllgpnlhaa
set_option maxRecDepth 100000
open Go Go.RowKit

/-- The code's bytes are read. -/
structure InY (w : World) (A : Option Addr) (c : Nat) (bs : List Int) : Prop where
  len : bs.length ≤ 1048576
  rd : Rd (Value.int .u8) w w.heap.size A bs
theorem InY.next {w w' : World} {A : Option Addr} {c : Nat} {bs : List Int} (h : InY w A c bs) (hb : Below w.heap.size w w') : InY w' A c bs := ⟨h.len, h.rd.next hb⟩

theorem big_ok (A : Option Addr) (c : Nat) (bs : List Int) (w : World) (hl : bs.length ≤ 1048576) :
    Calls Try.prog 7 #[.slice A bs.length c] w fun e w' => e = .returned (.bool false) ∧ w = w' := by
  have h1 : ¬ ((bs.length : Int) > 1048576) := by omega
  go_enter Try.func7, Try.ntmps7
  go_wp2_with fail
  go_ret
  exact ⟨by simp, rfl⟩
theorem big_no (A : Option Addr) (c : Nat) (bs : List Int) (w : World) (hl : 1048576 < bs.length) (hm : bs.length ≤ 9223372036854775807) :
    Calls Try.prog 7 #[.slice A bs.length c] w fun e w' => e = .returned (.bool true) ∧ w = w' := by
  have h1 : (bs.length : Int) > 1048576 := by omega
  go_enter Try.func7, Try.ntmps7
  go_wp2_with fail
  go_ret
  exact ⟨by simp, rfl⟩

set_option maxHeartbeats 800000 in
theorem sameInts_any (A A' : Option Addr) (c c' : Nat) (xs ys : List Int) (w : World) (hl : xs.length ≤ 1048576)
    (hx : Rd (Value.int .i64) w w.heap.size A xs) (hy : Rd (Value.int .i64) w w.heap.size A' ys) :
    Calls Try.prog 32 #[.slice A xs.length c, .slice A' ys.length c'] w (Rq w (.bool (decide (xs = ys)))) := by
  by_cases hlen : xs.length = ys.length
  · have hne : ((xs.length : Int) != (ys.length : Int)) = false := by simp [hlen]
    go_enter Try.func32, Try.ntmps32
    rw [← hlen]
    have hlH := Lib.hid hlen
    clear hne hlen
    go_wp2_with fail
    go_loopw [5] (fun i wr => ∃ k : Nat, k ≤ xs.length ∧ i = .int .i64 k ∧ Dr w wr ∧ Hid (xs.take k = ys.take k)) (fun i _ => xs.length - (intOf i).toNat)
    case atStart => exact ⟨0, Nat.zero_le _, rfl, Dr.refl _, Lib.hid rfl⟩
    case round =>
      obtain ⟨k, hk, rfl, hd, hT⟩ := hrel
      rcases Nat.lt_or_ge k xs.length with hlt | hge
      · have hly : k < ys.length := by have := hlH.out; omega
        obtain ⟨b, off, rfl, hb, hcx⟩ := hx (by omega)
        obtain ⟨b', off', rfl, hb', hcy⟩ := hy (by omega)
        have f1 : wr.cell? ⟨b, off + k, none⟩ = some (.int .i64 xs[k]) := (hd.cell _).trans (hcx k hlt)
        have f2 : wr.cell? ⟨b', off' + k, none⟩ = some (.int .i64 ys[k]) := (hd.cell _).trans (hcy k hly)
        have l1 : (k : Int) < (xs.length : Int) := by omega
        have l0 : (0 : Int) ≤ (k : Int) := Int.natCast_nonneg _
        by_cases he : xs[k] = ys[k]
        · have hbe : (xs[k] != ys[k]) = false := by simp [he]
          have HT := Lib.hid (show xs.take (k + 1) = ys.take (k + 1) by rw [List.take_succ_eq_append_getElem hlt, List.take_succ_eq_append_getElem hly, hT.out, he])
          have e1 : IntKind.i64.wrap ((k : Int) + 1) = (k : Int) + 1 := IntWalk.i64_in _ (by omega)
          generalize xs[k] = u at f1 hbe he
          clear he
          go_wp2_with fail
          go_quiet (fail)
          go_wp2_with fail
          go_roundw
          case rel => exact ⟨k + 1, by omega, by go_num, hd.drewN _, HT⟩
          case measure => simp [intOf]; omega
        · have hbe : (xs[k] != ys[k]) = true := by simp [he]
          have HE := Lib.hid (show xs ≠ ys from fun h => he (by subst h; rfl))
          clear he
          go_wp2_with fail
          go_quiet (fail)
          go_wp2_with fail
          go_ret
          exact ⟨ret_bool (decide_eq_false HE.out).symm, hd.drewN _⟩
      · have hkk : k = xs.length := by omega
        have HE := Lib.hid (show xs = ys by
          have h1 := hT.out
          have h2 := hlH.out
          rw [hkk, List.take_length, h2, List.take_length] at h1
          exact h1)
        have l1 : ¬ (k : Int) < (xs.length : Int) := by omega
        clear hkk
        go_wp2_with fail
        go_ret
        exact ⟨ret_bool (decide_eq_true HE.out).symm, hd⟩
  · have hne : ((xs.length : Int) != (ys.length : Int)) = true := by simp; omega
    have HE := Lib.hid (show xs ≠ ys from fun h => hlen (by rw [h]))
    clear hlen
    go_enter Try.func32, Try.ntmps32
    go_wp2_with fail
    go_ret
    exact ⟨ret_bool (decide_eq_false HE.out).symm, Dr.refl _⟩
theorem sameInts_eq (A A' : Option Addr) (c c' n n' : Nat) (xs ys : List Int) (w : World) (he : xs = ys) (hn : xs.length = n) (hn' : xs.length = n') (hl : n ≤ 1048576)
    (hx : Rd (Value.int .i64) w w.heap.size A xs) (hy : Rd (Value.int .i64) w w.heap.size A' ys) :
    Calls Try.prog 32 #[.slice A n c, .slice A' n' c'] w (Rq w (.bool true)) := by
  subst he hn hn'
  have := sameInts_any A A' c c' xs xs w hl hx hy
  rwa [decide_eq_true rfl] at this

/-- A draw of a list from the code. -/
def RetDL (w : World) (ok : List Int → Prop) (en : Ending) (w' : World) : Prop :=
  ∃ D k ys, en = .returned (.slice D ys.length k) ∧ ok ys ∧ w'.ownsRow w.heap.size 3 1 (.slice D ys.length k) ys.length (ys.map (Value.int .i64)) ∧ Below w.heap.size w w'
theorem Drawn.below {w w' : World} {q B : Nat} {A : Option Addr} {c : Nat} {bs : List Int} (k : Drawn w w' q A c bs) (hB : B ≤ q) (hw : B ≤ w.heap.size) : Below B w w' := k.span.below hB hw
set_option maxHeartbeats 800000 in
theorem drawInversions (A : Option Addr) (c : Nat) (bs : List Int) (w : World) (h : InY w A c bs) :
    Calls Try.prog 23 #[.slice A bs.length c] w (RetDL w fun ys => ys.length ≤ 9) := by
  have HC := Lib.hid (l1New_any A c bs w h.len h.rd)
  go_enter Try.func23, Try.ntmps23
  go_wp2_with fail
  (with_reducible refine HC.out.mono ?_)
  rintro e w1 ⟨q, rfl, hq, hc, hb⟩
  have HD := Lib.hid (l2Bent_any w1 q A c bs hc)
  go_wp2_with fail
  (with_reducible refine HD.out.mono ?_)
  rintro e w2 ⟨D, k, ys, rfl, hl, ho, k1⟩
  go_wp2_with fail
  go_ret
  exact ⟨D, k, ys, rfl, hl, own_mono ho hb.size, hb.trans (k1.below hq hb.size)⟩
set_option maxHeartbeats 800000 in
theorem drawEuler (A : Option Addr) (c : Nat) (bs : List Int) (w : World) (h : InY w A c bs) :
    Calls Try.prog 24 #[.slice A bs.length c] w fun en w' => ∃ x : Int, en = .returned (.int .i64 x) ∧ -1 ≤ x ∧ x ≤ 13 ∧ Below w.heap.size w w' := by
  have HC := Lib.hid (l1New_any A c bs w h.len h.rd)
  go_enter Try.func24, Try.ntmps24
  go_wp2_with fail
  (with_reducible refine HC.out.mono ?_)
  rintro e w1 ⟨q, rfl, hq, hc, hb⟩
  have HD := Lib.hid (l1Below_any w1 q A c bs 15 (by omega) hc)
  go_wp2_with fail
  (with_reducible refine HD.out.mono ?_)
  rintro e w2 ⟨x, rfl, hx, k1⟩
  have e1 : IntKind.i64.wrap (x - 1) = x - 1 := IntWalk.i64_in _ (by omega)
  go_wp2_with fail
  go_ret
  exact ⟨x - 1, by first | rfl | (simp only [e1]), by omega, by omega, hb.trans (k1.below hq hb.size)⟩
set_option maxHeartbeats 800000 in
theorem drawMahon (A : Option Addr) (c : Nat) (bs : List Int) (w : World) (h : InY w A c bs) :
    Calls Try.prog 26 #[.slice A bs.length c] w fun en w' => ∃ x : Int, en = .returned (.int .i64 x) ∧ -1 ≤ x ∧ x ≤ 11 ∧ Below w.heap.size w w' := by
  have HC := Lib.hid (l1New_any A c bs w h.len h.rd)
  go_enter Try.func26, Try.ntmps26
  go_wp2_with fail
  (with_reducible refine HC.out.mono ?_)
  rintro e w1 ⟨q, rfl, hq, hc, hb⟩
  have HD := Lib.hid (l1Below_any w1 q A c bs 13 (by omega) hc)
  go_wp2_with fail
  (with_reducible refine HD.out.mono ?_)
  rintro e w2 ⟨x, rfl, hx, k1⟩
  have e1 : IntKind.i64.wrap (x - 1) = x - 1 := IntWalk.i64_in _ (by omega)
  go_wp2_with fail
  go_ret
  exact ⟨x - 1, by first | rfl | (simp only [e1]), by omega, by omega, hb.trans (k1.below hq hb.size)⟩
end Go.Proofs.Ythipikllgpnlhaa

/- A list from its end: slices.Reverse in place, reverse, l3Reverse; ascending and descending lists. -/
namespace Go.Proofs.Ythipikllgpnlhaa
set_option maxRecDepth 100000
open Go Go.RowKit

/-- The cell of a list's row, the list's address known. -/
theorem Read.cellAt {w : World} {B b off c : Nat} {rs : List Row} (h : Read w B rs [⟨some ⟨b, off, none⟩, c, rs.map Row.v⟩]) (j : Nat) (hj : j < rs.length) : w.cell? ⟨b, off + j, none⟩ = some (Value.slice rs[j].A rs[j].xs.length rs[j].c) := by
  obtain ⟨b', off', he, _, hc⟩ := h.at (by omega)
  injection he with he
  injection he with he1 he2 _
  subst he1 he2
  exact hc j hj
/-- The first and the last i places are exchanged. -/
def revTo (xs : List Int) (i : Nat) : List Int := (List.range xs.length).map fun t => if t < i ∨ xs.length ≤ t + i then xs[xs.length - 1 - t]?.getD 0 else xs[t]?.getD 0
theorem revTo_length (xs : List Int) (i : Nat) : (revTo xs i).length = xs.length := by simp [revTo]
theorem revTo_get (xs : List Int) (i t : Nat) (h : t < xs.length) : (revTo xs i)[t]? = some (if t < i ∨ xs.length ≤ t + i then xs[xs.length - 1 - t]?.getD 0 else xs[t]?.getD 0) := by
  simp [revTo, h]
theorem revTo_zero (xs : List Int) : revTo xs 0 = xs := by
  apply List.ext_getElem?
  intro t
  by_cases h : t < xs.length
  · rw [revTo_get xs 0 t h, if_neg (by omega), List.getElem?_eq_getElem h]; rfl
  · rw [List.getElem?_eq_none (by rw [revTo_length]; omega), List.getElem?_eq_none (by omega)]
theorem revTo_all (xs : List Int) (i : Nat) (h : xs.length ≤ 2 * i + 1) : revTo xs i = xs.reverse := by
  apply List.ext_getElem?
  intro t
  by_cases ht : t < xs.length
  · rw [revTo_get xs i t ht, List.getElem?_reverse ht]
    by_cases hc : t < i ∨ xs.length ≤ t + i
    · rw [if_pos hc, List.getElem?_eq_getElem (by omega)]; rfl
    · rw [if_neg hc]
      have : xs.length - 1 - t = t := by omega
      rw [this, List.getElem?_eq_getElem ht]; rfl
  · rw [List.getElem?_eq_none (by rw [revTo_length]; omega), List.getElem?_eq_none (by rw [List.length_reverse]; omega)]
theorem revTo_succ (xs : List Int) (i : Nat) (h : 2 * i + 1 < xs.length) : ((revTo xs i).set i (xs[xs.length - 1 - i]?.getD 0)).set (xs.length - 1 - i) (xs[i]?.getD 0) = revTo xs (i + 1) := by
  apply List.ext_getElem?
  intro t
  by_cases ht : t < xs.length
  · rw [revTo_get xs (i + 1) t ht, List.getElem?_set, List.getElem?_set, List.length_set, revTo_length, revTo_get xs i t ht]
    by_cases h1 : xs.length - 1 - i = t
    · subst h1
      rw [if_pos rfl, if_pos (by omega), if_pos (by omega)]
      rw [show xs.length - 1 - (xs.length - 1 - i) = i by omega]
    · rw [if_neg h1]
      by_cases h2 : i = t
      · subst h2
        rw [if_pos rfl, if_pos (by omega), if_pos (by omega)]
      · rw [if_neg h2]
        by_cases h3 : t < i ∨ xs.length ≤ t + i
        · rw [if_pos h3, if_pos (by omega)]
        · rw [if_neg h3, if_neg (by omega)]
  · rw [List.getElem?_eq_none (by rw [List.length_set, List.length_set, revTo_length]; omega), List.getElem?_eq_none (by rw [revTo_length]; omega)]
theorem revTo_at (xs : List Int) (i t : Nat) (h : t < xs.length) (h1 : i ≤ t) (h2 : t + i < xs.length) : ((revTo xs i).map (Value.int .i64))[t]? = some (.int .i64 xs[t]) := by
  rw [List.getElem?_map, revTo_get xs i t h, if_neg (by omega), List.getElem?_eq_getElem h]; rfl

theorem rev_take (xs : List Int) (k : Nat) (h : k < xs.length) : (xs.drop k).reverse = (xs.drop (k + 1)).reverse ++ [xs[k]] := by
  rw [List.drop_eq_getElem_cons h, List.reverse_cons]
set_option maxHeartbeats 1000000 in
theorem l3Reverse_any (A : Option Addr) (c n : Nat) (xs : List Int) (w : World) (hn : xs.length = n) (hl : n ≤ 1048576) (hx : Rd (Value.int .i64) w w.heap.size A xs) :
    Calls Try.prog 115 #[.slice A n c] w (Ret (Value.int .i64) 3 w xs.reverse) := by
  obtain ⟨i0, hi, hz0, hz1, hz2⟩ := info_parts infoI
  have HN := Lib.hid hn
  have hn1 : xs.length ≤ n := by omega
  have hn2 : n ≤ xs.length := by omega
  clear hn
  have hown0 : (w.alloc (.cells #[] 3)).ownsRow w.heap.size 3 1 (.slice (some ⟨w.heap.size, 0, none⟩) 0 0) 0 (((xs.drop n).reverse).map (Value.int .i64)) := by
    rw [List.drop_of_length_le hn1]
    exact World.ownsRow_lit w #[] 0 (Nat.le_refl _) (by unfold maxLen; omega) rfl
  have hb0 := (Below.refl w.heap.size w).alloc (Nat.le_refl _) (.cells #[] 3)
  go_enter Try.func115, Try.ntmps115
  go_wp2_with fail
  go_loopw [3, 4] (fun v i wr => ∃ (k m : Nat) (A1 : Option Addr) (c1 : Nat), k ≤ n ∧ m = n - k ∧ i = .int .i64 ((k : Int) - 1) ∧ v = .slice A1 m c1 ∧ wr.ownsRow w.heap.size 3 1 (.slice A1 m c1) m (((xs.drop k).reverse).map (Value.int .i64)) ∧ Below w.heap.size w wr) (fun _ i _ => (intOf i + 1).toNat)
  case atStart => exact ⟨n, 0, _, _, Nat.le_refl _, by omega, rfl, rfl, hown0, hb0⟩
  case round =>
    clear hown0 hb0
    obtain ⟨k, m, A1, c1, hk, hm, rfl, rfl, hown, hb⟩ := hrel
    have hmn : m ≤ n := by omega
    have HM := Lib.hid hm
    have hsz := hb.size
    clear hm
    rcases Nat.eq_zero_or_pos k with h0 | h0
    · subst h0
      have hneg : ¬ ((0 : Int) ≤ ((0 : Nat) : Int) - 1) := by omega
      have HE := Lib.hid (show m = xs.reverse.length by rw [List.length_reverse]; have := HM.out; omega)
      rw [List.drop_zero] at hown
      go_wp2_with fail
      go_ret
      exact ⟨A1, c1, by rw [← HE.out]; rfl, by rw [← HE.out]; exact (own_caps hown).1, (own_caps hown).2, by rw [← HE.out]; first | exact hown | simpa using hown, hb⟩
    · obtain ⟨j, hj⟩ : ∃ j : Nat, (j : Int) = (k : Int) - 1 := ⟨k - 1, by omega⟩
      have hjx : j < xs.length := by omega
      obtain ⟨b, off, rfl, _, hc⟩ := (hx.next hb) (by omega)
      have cc := hc j hjx
      have HT := Lib.hid (show (xs.drop j).reverse = (xs.drop k).reverse ++ [xs[j]] by rw [rev_take xs j hjx, show j + 1 = k by omega])
      have HJ := Lib.hid hj
      have hjn : j < n := by omega
      have hjk : j < k := by omega
      have HMJ := Lib.hid (show m + 1 = n - j by have := HM.out; omega)
      rw [← hj]
      clear hc hj
      go_wp2_with (at_builtin; refine wpList_append_own _ rfl _ _ 24 rfl (w.heap.size) 3 i0 (.int .i64 0) 1 8 Try.underlying24 hi hz0 hz1 hz2 rfl (by decide) _ _ _ rfl (World.ownsRow.alloc hown _) ⟨wr.heap.size, 0, none⟩ 1 1 [.int .i64 (xs[j])] rfl rfl (cell_one_new _ _ _) (by intro u hu; simp at hu; subst hu; rfl) (by unfold maxLen; omega) (by omega) (by simp; omega) ?_; intro v1 w1 hown1 hgrow1 _)
      have hS2 : w1.ownsRow w.heap.size 3 1 v1 (m + 1) (((xs.drop j).reverse).map (Value.int .i64)) := by rw [HT.out]; simpa using hown1
      have hb1 := (hb.alloc hsz (Obj.cells #[Value.int .i64 xs[j]] 3)).grown hgrow1 (by simp; omega) (by intro g hg; exact ((hown.lt g hg).1))
      obtain ⟨A2, c2, rfl, _, _⟩ := own_shape hS2
      have H1 := Lib.hid hS2
      have H2 := Lib.hid hb1
      clear hS2 hown1 hgrow1 hb1 hown hb
      go_wp2
      go_roundw
      case rel => exact ⟨j, m + 1, A2, c2, by omega, HMJ.out, by go_num, rfl, H1.out, H2.out⟩
      case measure => (simp [intOf]) <;> omega
/-- Ascending by neighbors. -/
def sortB (xs : List Int) : Bool := (List.range (xs.length - 1)).all fun i => decide (xs[i]?.getD 0 ≤ xs[i + 1]?.getD 0)
theorem nums_get (n i : Nat) (h : i < n) : (nums n)[i]? = some ((i : Int) + 1) := by simp [nums, h]
theorem sort_perm {xs : List Int} (h : permB xs = true) : sortB xs = decide (xs = nums xs.length) := by
  obtain ⟨_, hr, hn⟩ := permB_true h
  rw [Bool.eq_iff_iff, decide_eq_true_eq]
  constructor
  · intro hs
    have hlt : ∀ i (h1 : i + 1 < xs.length), xs[i] < xs[i + 1] := fun i h1 => by
      have h2 := List.all_eq_true.1 hs i (List.mem_range.2 (by omega))
      rw [List.getElem?_eq_getElem (show i < xs.length by omega), List.getElem?_eq_getElem h1] at h2
      have h3 : xs[i] ≤ xs[i + 1] := by simpa using h2
      rcases Int.lt_or_eq_of_le h3 with h4 | h4
      · exact h4
      · have := nodup_inj hn _ _ h4
        omega
    have hge : ∀ i (h1 : i < xs.length), (i : Int) + 1 ≤ xs[i] := by
      intro i
      induction i with
      | zero => intro h1; have := (hr xs[0] (List.getElem_mem h1)).1; omega
      | succ i ih => intro h1; have h2 := ih (by omega); have h3 := hlt i h1; push_cast; omega
    have hle : ∀ d i (h1 : i < xs.length), xs.length - 1 - i = d → xs[i] ≤ (i : Int) + 1 := by
      intro d
      induction d with
      | zero => intro i h1 hd; have := (hr xs[i] (List.getElem_mem h1)).2; omega
      | succ d ih => intro i h1 hd; have h2 := ih (i + 1) (by omega) (by omega); have h3 := hlt i (by omega); push_cast at h2; omega
    apply List.ext_getElem?
    intro i
    by_cases hi : i < xs.length
    · rw [nums_get _ _ hi, List.getElem?_eq_getElem hi]
      have h1 := hge i hi
      have h2 := hle _ i hi rfl
      congr 1
      omega
    · rw [List.getElem?_eq_none (by omega), List.getElem?_eq_none (by rw [nums_length]; omega)]
  · intro he
    unfold sortB
    rw [List.all_eq_true]
    intro i hi
    have hi := List.mem_range.1 hi
    have h1 : xs[i]? = some ((i : Int) + 1) := by rw [he]; exact nums_get _ _ (by omega)
    have h2 : xs[i + 1]? = some (((i + 1 : Nat) : Int) + 1) := by rw [he]; exact nums_get _ _ (by omega)
    rw [h1, h2]
    simp only [Option.getD_some, decide_eq_true_eq]
    push_cast
    omega
end Go.Proofs.Ythipikllgpnlhaa

/- slices.IndexFunc, slices.ContainsFunc: the function value by its contract. -/
namespace Go.Proofs.Ythipikllgpnlhaa
set_option maxRecDepth 100000
open Go Go.RowKit

/-- A call's result: a number that is not below zero just where something holds. -/
def IdxPost (w : World) (b : Bool) (e : Ending) (w' : World) : Prop := ∃ i : Int, e = .returned (.int .i64 i) ∧ decide (i ≥ 0) = b ∧ Below w.heap.size w w'
theorem any_take_false {α : Type} {H : α → Bool} {l : List α} {k : Nat} (h : (l.take k).any H = false) (hk : k < l.length) (h1 : H l[k] = false) : (l.take (k + 1)).any H = false := by
  rw [List.take_succ_eq_append_getElem hk, List.any_append, h]
  simp [h1]
theorem any_at {α : Type} {H : α → Bool} {l : List α} {k : Nat} (hk : k < l.length) (h1 : H l[k] = true) : l.any H = true := List.any_eq_true.2 ⟨l[k], List.getElem_mem hk, h1⟩



set_option maxHeartbeats 800000 in
theorem indexFuncL1 (A : Option Addr) (c : Nat) (rs : List Row) (F : Nat) (g : Nat) (H : List Int → Bool) (w : World) (hl : rs.length ≤ 4611686018427387904) (hx : Read w w.heap.size rs [⟨A, c, rs.map Row.v⟩])
    (hF : ∀ args w', (callFunc F args).run Try.prog w' = .ok (.enter F args) w')
    (hcl : ∀ (w' : World) (k : Nat) (hk : k < rs.length), Below w.heap.size w w' → Calls Try.prog F #[.slice rs[k].A rs[k].xs.length rs[k].c, .pointer (some ⟨g, 0, none⟩)] w' (Rb w' (.bool (H rs[k].xs)))) :
    Calls Try.prog 148 #[.slice A rs.length c, .func (.func F) #[] #[.pointer (some ⟨g, 0, none⟩)]] w (IdxPost w (rs.any (fun r : Row => H r.xs))) := by
  go_enter Try.func148, Try.ntmps148
  go_wp2_with fail
  go_loopw [8] (fun i wr => ∃ k : Nat, k ≤ rs.length ∧ i = .int .i64 k ∧ Hid ((rs.take k).any (fun r : Row => H r.xs) = false) ∧ Below w.heap.size w wr) (fun i _ => rs.length - (intOf i).toNat)
  case atStart => exact ⟨0, Nat.zero_le _, rfl, Lib.hid rfl, Below.refl _ _⟩
  case round =>
    obtain ⟨k, hk, rfl, HN, hb⟩ := hrel
    have hsz := hb.size
    rcases Nat.lt_or_ge k rs.length with hlt | hge
    · have hcall := hcl wr k hlt hb
      obtain ⟨b, off, rfl, _, hc⟩ := (hx.below hb).at (by omega)
      have c1 := hc k hlt
      clear hc
      go_wp2_with fail
      (with_reducible refine hcall.mono ?_)
      rintro e w1 ⟨rfl, hb1⟩
      have hbz := hb.trans (hb1.mono hsz)
      by_cases hh : H rs[k].xs = true
      · have HT := Lib.hid (show rs.any (fun r : Row => H r.xs) = true from any_at hlt hh)
        rw [hh]
        clear hh hcall
        go_wp2_with fail
        go_ret
        exact ⟨k, rfl, by rw [HT.out]; exact decide_eq_true (by omega), hbz⟩
      · have hhf : H rs[k].xs = false := by simpa using hh
        have HT := Lib.hid (show (rs.take (k + 1)).any (fun r : Row => H r.xs) = false from any_take_false HN.out hlt hhf)
        rw [hhf]
        clear hh hhf hcall
        go_wp2_with fail
        go_roundw
        case rel => exact ⟨k + 1, by omega, by go_num, HT, hbz⟩
        case measure => simp [intOf]; omega
    · have HT := Lib.hid (show rs.any (fun r : Row => H r.xs) = false by have := HN.out; rwa [List.take_of_length_le hge] at this)
      go_wp2_with fail
      go_ret
      exact ⟨-1, rfl, by rw [HT.out]; rfl, hb⟩
theorem containsFuncL1 (A : Option Addr) (c : Nat) (rs : List Row) (F : Nat) (g : Nat) (H : List Int → Bool) (w : World) (hl : rs.length ≤ 4611686018427387904) (hx : Read w w.heap.size rs [⟨A, c, rs.map Row.v⟩])
    (hF : ∀ args w', (callFunc F args).run Try.prog w' = .ok (.enter F args) w')
    (hcl : ∀ (w' : World) (k : Nat) (hk : k < rs.length), Below w.heap.size w w' → Calls Try.prog F #[.slice rs[k].A rs[k].xs.length rs[k].c, .pointer (some ⟨g, 0, none⟩)] w' (Rb w' (.bool (H rs[k].xs)))) (b : Bool) (hb : rs.any (fun r : Row => H r.xs) = b) :
    Calls Try.prog 130 #[.slice A rs.length c, .func (.func F) #[] #[.pointer (some ⟨g, 0, none⟩)]] w (Rb w (.bool b)) := by
  subst hb
  have HI := Lib.hid (indexFuncL1 A c rs F g H w hl hx hF hcl)
  go_enter Try.func130, Try.ntmps130
  go_wp2_with fail
  (with_reducible refine HI.out.mono ?_)
  rintro e w1 ⟨i, rfl, hd, hb1⟩
  have HD := Lib.hid hd
  clear hd
  go_wp2_with fail
  go_ret
  exact ⟨ret_bool (by rw [← HD.out]), hb1⟩

set_option maxHeartbeats 800000 in
theorem indexFuncL0 (A : Option Addr) (c : Nat) (rs : List Row) (F : Nat) (H : List Int → Bool) (w : World) (hl : rs.length ≤ 4611686018427387904) (hx : Read w w.heap.size rs [⟨A, c, rs.map Row.v⟩])
    (hF : ∀ args w', (callFunc F args).run Try.prog w' = .ok (.enter F args) w')
    (hcl : ∀ (w' : World) (k : Nat) (hk : k < rs.length), Below w.heap.size w w' → Calls Try.prog F #[.slice rs[k].A rs[k].xs.length rs[k].c] w' (Rb w' (.bool (H rs[k].xs)))) :
    Calls Try.prog 148 #[.slice A rs.length c, .func (.func F) #[] #[]] w (IdxPost w (rs.any (fun r : Row => H r.xs))) := by
  go_enter Try.func148, Try.ntmps148
  go_wp2_with fail
  go_loopw [8] (fun i wr => ∃ k : Nat, k ≤ rs.length ∧ i = .int .i64 k ∧ Hid ((rs.take k).any (fun r : Row => H r.xs) = false) ∧ Below w.heap.size w wr) (fun i _ => rs.length - (intOf i).toNat)
  case atStart => exact ⟨0, Nat.zero_le _, rfl, Lib.hid rfl, Below.refl _ _⟩
  case round =>
    obtain ⟨k, hk, rfl, HN, hb⟩ := hrel
    have hsz := hb.size
    rcases Nat.lt_or_ge k rs.length with hlt | hge
    · have hcall := hcl wr k hlt hb
      obtain ⟨b, off, rfl, _, hc⟩ := (hx.below hb).at (by omega)
      have c1 := hc k hlt
      clear hc
      go_wp2_with fail
      (with_reducible refine hcall.mono ?_)
      rintro e w1 ⟨rfl, hb1⟩
      have hbz := hb.trans (hb1.mono hsz)
      by_cases hh : H rs[k].xs = true
      · have HT := Lib.hid (show rs.any (fun r : Row => H r.xs) = true from any_at hlt hh)
        rw [hh]
        clear hh hcall
        go_wp2_with fail
        go_ret
        exact ⟨k, rfl, by rw [HT.out]; exact decide_eq_true (by omega), hbz⟩
      · have hhf : H rs[k].xs = false := by simpa using hh
        have HT := Lib.hid (show (rs.take (k + 1)).any (fun r : Row => H r.xs) = false from any_take_false HN.out hlt hhf)
        rw [hhf]
        clear hh hhf hcall
        go_wp2_with fail
        go_roundw
        case rel => exact ⟨k + 1, by omega, by go_num, HT, hbz⟩
        case measure => simp [intOf]; omega
    · have HT := Lib.hid (show rs.any (fun r : Row => H r.xs) = false by have := HN.out; rwa [List.take_of_length_le hge] at this)
      go_wp2_with fail
      go_ret
      exact ⟨-1, rfl, by rw [HT.out]; rfl, hb⟩
theorem containsFuncL0 (A : Option Addr) (c : Nat) (rs : List Row) (F : Nat) (H : List Int → Bool) (w : World) (hl : rs.length ≤ 4611686018427387904) (hx : Read w w.heap.size rs [⟨A, c, rs.map Row.v⟩])
    (hF : ∀ args w', (callFunc F args).run Try.prog w' = .ok (.enter F args) w')
    (hcl : ∀ (w' : World) (k : Nat) (hk : k < rs.length), Below w.heap.size w w' → Calls Try.prog F #[.slice rs[k].A rs[k].xs.length rs[k].c] w' (Rb w' (.bool (H rs[k].xs)))) (b : Bool) (hb : rs.any (fun r : Row => H r.xs) = b) :
    Calls Try.prog 130 #[.slice A rs.length c, .func (.func F) #[] #[]] w (Rb w (.bool b)) := by
  subst hb
  have HI := Lib.hid (indexFuncL0 A c rs F H w hl hx hF hcl)
  go_enter Try.func130, Try.ntmps130
  go_wp2_with fail
  (with_reducible refine HI.out.mono ?_)
  rintro e w1 ⟨i, rfl, hd, hb1⟩
  have HD := Lib.hid hd
  clear hd
  go_wp2_with fail
  go_ret
  exact ⟨ret_bool (by rw [← HD.out]), hb1⟩

set_option maxHeartbeats 800000 in
theorem indexFuncL2 (A : Option Addr) (c : Nat) (rs : List Row) (F : Nat) (g g2 : Nat) (H : List Int → Bool) (w : World) (hl : rs.length ≤ 4611686018427387904) (hx : Read w w.heap.size rs [⟨A, c, rs.map Row.v⟩])
    (hF : ∀ args w', (callFunc F args).run Try.prog w' = .ok (.enter F args) w')
    (hcl : ∀ (w' : World) (k : Nat) (hk : k < rs.length), Below w.heap.size w w' → Calls Try.prog F #[.slice rs[k].A rs[k].xs.length rs[k].c, .pointer (some ⟨g, 0, none⟩), .pointer (some ⟨g2, 0, none⟩)] w' (Rb w' (.bool (H rs[k].xs)))) :
    Calls Try.prog 148 #[.slice A rs.length c, .func (.func F) #[] #[.pointer (some ⟨g, 0, none⟩), .pointer (some ⟨g2, 0, none⟩)]] w (IdxPost w (rs.any (fun r : Row => H r.xs))) := by
  go_enter Try.func148, Try.ntmps148
  go_wp2_with fail
  go_loopw [8] (fun i wr => ∃ k : Nat, k ≤ rs.length ∧ i = .int .i64 k ∧ Hid ((rs.take k).any (fun r : Row => H r.xs) = false) ∧ Below w.heap.size w wr) (fun i _ => rs.length - (intOf i).toNat)
  case atStart => exact ⟨0, Nat.zero_le _, rfl, Lib.hid rfl, Below.refl _ _⟩
  case round =>
    obtain ⟨k, hk, rfl, HN, hb⟩ := hrel
    have hsz := hb.size
    rcases Nat.lt_or_ge k rs.length with hlt | hge
    · have hcall := hcl wr k hlt hb
      obtain ⟨b, off, rfl, _, hc⟩ := (hx.below hb).at (by omega)
      have c1 := hc k hlt
      clear hc
      go_wp2_with fail
      (with_reducible refine hcall.mono ?_)
      rintro e w1 ⟨rfl, hb1⟩
      have hbz := hb.trans (hb1.mono hsz)
      by_cases hh : H rs[k].xs = true
      · have HT := Lib.hid (show rs.any (fun r : Row => H r.xs) = true from any_at hlt hh)
        rw [hh]
        clear hh hcall
        go_wp2_with fail
        go_ret
        exact ⟨k, rfl, by rw [HT.out]; exact decide_eq_true (by omega), hbz⟩
      · have hhf : H rs[k].xs = false := by simpa using hh
        have HT := Lib.hid (show (rs.take (k + 1)).any (fun r : Row => H r.xs) = false from any_take_false HN.out hlt hhf)
        rw [hhf]
        clear hh hhf hcall
        go_wp2_with fail
        go_roundw
        case rel => exact ⟨k + 1, by omega, by go_num, HT, hbz⟩
        case measure => simp [intOf]; omega
    · have HT := Lib.hid (show rs.any (fun r : Row => H r.xs) = false by have := HN.out; rwa [List.take_of_length_le hge] at this)
      go_wp2_with fail
      go_ret
      exact ⟨-1, rfl, by rw [HT.out]; rfl, hb⟩
theorem containsFuncL2 (A : Option Addr) (c : Nat) (rs : List Row) (F : Nat) (g g2 : Nat) (H : List Int → Bool) (w : World) (hl : rs.length ≤ 4611686018427387904) (hx : Read w w.heap.size rs [⟨A, c, rs.map Row.v⟩])
    (hF : ∀ args w', (callFunc F args).run Try.prog w' = .ok (.enter F args) w')
    (hcl : ∀ (w' : World) (k : Nat) (hk : k < rs.length), Below w.heap.size w w' → Calls Try.prog F #[.slice rs[k].A rs[k].xs.length rs[k].c, .pointer (some ⟨g, 0, none⟩), .pointer (some ⟨g2, 0, none⟩)] w' (Rb w' (.bool (H rs[k].xs)))) (b : Bool) (hb : rs.any (fun r : Row => H r.xs) = b) :
    Calls Try.prog 130 #[.slice A rs.length c, .func (.func F) #[] #[.pointer (some ⟨g, 0, none⟩), .pointer (some ⟨g2, 0, none⟩)]] w (Rb w (.bool b)) := by
  subst hb
  have HI := Lib.hid (indexFuncL2 A c rs F g g2 H w hl hx hF hcl)
  go_enter Try.func130, Try.ntmps130
  go_wp2_with fail
  (with_reducible refine HI.out.mono ?_)
  rintro e w1 ⟨i, rfl, hd, hb1⟩
  have HD := Lib.hid hd
  clear hd
  go_wp2_with fail
  go_ret
  exact ⟨ret_bool (by rw [← HD.out]), hb1⟩

end Go.Proofs.Ythipikllgpnlhaa

/- Avoiding a list; InClass, IsWithin. -/
namespace Go.Proofs.Ythipikllgpnlhaa
set_option maxRecDepth 100000
open Go Go.RowKit

def avoidB (X : List (List Int)) (p : List Int) : Bool := !X.any fun q => hasB p q
theorem basis_perm {X : List (List Int)} (h : basisB X = true) : ∀ q ∈ X, permB q = true := fun q hq => by
  unfold basisB at h
  rw [Bool.and_eq_true] at h
  obtain ⟨i, hi, rfl⟩ := List.mem_iff_getElem.1 hq
  exact basTo_perm h.2 hi hi
theorem basis_len {X : List (List Int)} (h : basisB X = true) : X.length ≤ 8 := by
  unfold basisB at h
  rw [Bool.and_eq_true, decide_eq_true_eq] at h
  exact h.1
theorem rows_8 {rs : List Row} (h : ∀ q ∈ rs.map Row.xs, permB q = true) : ∀ r ∈ rs, r.xs.length ≤ 8 := fun r hr => (permB_true (h r.xs (List.mem_map.2 ⟨r, hr, rfl⟩))).1
theorem any_rows (rs : List Row) (H : List Int → Bool) : (rs.any fun r : Row => H r.xs) = (rs.map Row.xs).any H := by rw [List.any_map]; rfl

def inClassB (X : List (List Int)) (p : List Int) : Bool := basisB X && permB p && avoidB X p
end Go.Proofs.Ythipikllgpnlhaa

/- A list of rows that is sifted: some of its rows go into another list. -/
namespace Go.Proofs.Ythipikllgpnlhaa
set_option maxRecDepth 100000
open Go Go.RowKit

/-- The rows of a list (blocks from a to b), and another outer slice beside them. -/
structure Sift (w : World) (lo a b : Nat) (rs : List Row) (o : Outer) (A : Option Addr) (c : Nat) (vs : List Value) : Prop where
  rows : Own w a b rs [o]
  out : w.ownsRow lo 24 1 (.slice A vs.length c) vs.length vs
  off : ∀ g, (Value.slice A vs.length c).ownBlock = some g → g < a ∨ b ≤ g

section
variable {w w' : World} {lo a b : Nat} {rs : List Row} {o : Outer} {A : Option Addr} {c : Nat} {vs : List Value}
theorem Sift.below (h : Sift w lo a b rs o A c vs) (hb : Below w.heap.size w w') : Sift w' lo a b rs o A c vs := ⟨h.rows.below hb, own_below h.out hb, h.off⟩
theorem Sift.dr (h : Sift w lo a b rs o A c vs) (hd : Dr w w') : Sift w' lo a b rs o A c vs := ⟨h.rows.dr hd, hd.own h.out, h.off⟩
theorem Sift.outN {n : Nat} (h : Sift w lo a b rs o A c vs) (hn : vs.length = n) : w.ownsRow lo 24 1 (.slice A n c) n vs := by subst hn; exact h.out
theorem Sift.grow {n : Nat} {u v1 : Value} {ob : Obj} (h : Sift w lo a b rs o A c vs) (hb : b ≤ w.heap.size) (hn : vs.length = n)
    (h1 : w'.ownsRow lo 24 1 v1 (n + 1) (vs ++ [u])) (hg : (w.alloc ob).grownBy w' (Value.slice A n c).ownBlock) (hat : v1.ownBlock = (Value.slice A n c).ownBlock ∨ v1.ownBlock = some (w.alloc ob).heap.size) :
    ∃ A1 c1, v1 = .slice A1 (n + 1) c1 ∧ Sift w' lo a b rs o A1 c1 (vs ++ [u]) ∧ w.grownBy w' (Value.slice A n c).ownBlock := by
  subst hn
  obtain ⟨A1, c1, rfl, _, _⟩ := own_shape h1
  have hg2 : w.grownBy w' (Value.slice A vs.length c).ownBlock := grown_trans (World.grownBy_alloc w ob _) hg
  refine ⟨A1, c1, rfl, ⟨?_, by simpa using h1, fun g hgg => ?_⟩, hg2⟩
  · rcases hv : (Value.slice A vs.length c).ownBlock with _ | g
    · rw [hv] at hg2
      exact h.rows.below (below_none hg2)
    · rw [hv] at hg2
      have hoff := h.off g hv
      exact h.rows.span (Span.of_grown (lo := g) (hi := g + 1) hg2 (fun q hq => by injection hq with hq; omega)) (by omega)
  · have hgg' : (Value.slice A1 (vs.length + 1) c1).ownBlock = some g := by simpa [Value.ownBlock] using hgg
    rcases hat with e | e
    · rw [e] at hgg'; exact h.off g hgg'
    · rw [e] at hgg'
      injection hgg' with hgg'
      simp at hgg'
      exact .inr (by omega)
theorem Sift.olim {n : Nat} (h : Sift w lo a b rs o A c vs) (hn : vs.length = n) : ∀ g, (Value.slice A n c).ownBlock = some g → lo ≤ g := fun g hg => by
  subst hn
  exact (h.out.lt g hg).1
theorem Sift.done {rs' : List Row} (h : Sift w lo a b rs o A c vs) (hv : vs = rs'.map Row.v) (hs : rs'.Sublist rs) (hlo : lo ≤ a) (hb : b ≤ w.heap.size) : Own w lo w.heap.size rs' [⟨A, c, rs'.map Row.v⟩] := by
  subst hv
  exact ((h.rows.bare.sub hs).wider hlo hb).with_ h.out (Nat.le_refl _)
/-- The list is there; the other one is the empty literal that lay before it. -/
theorem Sift.start {w0 : World} (h : Own w a b rs [o]) (ho : w0.ownsRow lo 24 1 (.slice A 0 c) 0 []) (hb : Below w0.heap.size w0 w) (ha : w0.heap.size ≤ a) : Sift w lo a b rs o A c [] :=
  ⟨h, own_below ho hb, fun g hg => .inl (by have := (ho.lt g hg).2; omega)⟩
end
end Go.Proofs.Ythipikllgpnlhaa

/- IsSumClosed, program and reference. -/
namespace Go.Proofs.Ythipikllgpnlhaa
set_option maxRecDepth 100000
open Go Go.RowKit

/-- The greatest of the first k. -/
def pmax (p : List Int) (k : Nat) : Int := (p.take k).foldl max 0
theorem pmax_succ (p : List Int) (k : Nat) (h : k < p.length) : pmax p (k + 1) = max (pmax p k) p[k] := by
  unfold pmax
  rw [List.take_succ_eq_append_getElem h, List.foldl_append]; rfl
theorem pmax_bd {p : List Int} (hb : ∀ v ∈ p, 1 ≤ v ∧ v ≤ 8) (k : Nat) : 0 ≤ pmax p k ∧ pmax p k ≤ 8 := by
  induction k with
  | zero => simp [pmax]
  | succ k ih =>
    by_cases h : k < p.length
    · rw [pmax_succ p k h]
      have := hb p[k] (List.getElem_mem h)
      omega
    · unfold pmax at ih ⊢
      rw [List.take_of_length_le (by omega)] at ih ⊢
      exact ih
/-- How many sum parts end within the first k. -/
def sumN (p : List Int) (k : Nat) : Nat := ((List.range k).filter fun i => decide (pmax p (i + 1) = (i : Int) + 1)).length
theorem sumN_succ (p : List Int) (k : Nat) : sumN p (k + 1) = if pmax p (k + 1) = (k : Int) + 1 then sumN p k + 1 else sumN p k := by
  unfold sumN
  rw [List.range_succ, List.filter_append]
  by_cases h : pmax p (k + 1) = (k : Int) + 1 <;> simp [h]
theorem sumN_le (p : List Int) (k : Nat) : sumN p k ≤ k := Nat.le_trans (List.length_filter_le _ _) (by simp)
def scG (X : List (List Int)) : Bool := basisB X && !X.any fun p => decide (1 < sumN p p.length)
/-- A call's result: a list of n rows, whatever they are. -/
def RetLen (w : World) (n : Nat) (e : Ending) (w' : World) : Prop := ∃ A c, e = .returned (.slice A n c) ∧ Below w.heap.size w w'


theorem l1Max_b (a b m : Int) (w : World) (hm : max a b = m) : Calls Try.prog 108 #[.int .i64 a, .int .i64 b] w fun e w' => e = .returned (.int .i64 m) ∧ w = w' := by
  have HM := Lib.hid hm
  clear hm
  by_cases h : b < a
  · have HE := Lib.hid (show m = a by rw [← HM.out]; omega)
    go_enter Try.func108, Try.ntmps108
    go_wp2
    go_ret
    exact ⟨by rw [HE.out]; rfl, rfl⟩
  · have HE := Lib.hid (show m = b by rw [← HM.out]; omega)
    go_enter Try.func108, Try.ntmps108
    go_wp2
    go_ret
    exact ⟨by rw [HE.out]; rfl, rfl⟩
def sumG (p : List Int) : Nat := if permB p = true then sumN p p.length else 0

end Go.Proofs.Ythipikllgpnlhaa

/- The draws of FnRuns: pairs of lists, numbers. -/
namespace Go.Proofs.Ythipikllgpnlhaa
set_option maxRecDepth 100000
open Go Go.RowKit

/-- Two lists were drawn, both read. -/
def RetII (w : World) (ok : List Int → List Int → Prop) (en : Ending) (w' : World) : Prop :=
  ∃ D k xs E m ys, en = .returned (.tuple #[.slice D xs.length k, .slice E ys.length m]) ∧ ok xs ys ∧ In w' D k xs ∧ In w' E m ys ∧ Below w.heap.size w w'
theorem In.of_own {w : World} {base e c : Nat} {A : Option Addr} {xs : List Int} (h : w.ownsRow base e 1 (.slice A xs.length c) xs.length (xs.map (Value.int .i64))) (hl : xs.length ≤ 1048576) : In w A c xs := ⟨hl, (own_caps h).1, Rd.of_own h⟩
set_option maxHeartbeats 2000000 in
theorem l7Case_any (A : Option Addr) (c : Nat) (bs : List Int) (w : World) (h : InY w A c bs) :
    Calls Try.prog 102 #[.slice A bs.length c] w (RetII w fun xs ys => xs.length ≤ 9 ∧ ys.length ≤ 9) := by
  have HC := Lib.hid (l1New_any A c bs w h.len h.rd)
  go_enter Try.func102, Try.ntmps102
  go_wp2_with fail
  (with_reducible refine HC.out.mono ?_)
  rintro e w1 ⟨q, rfl, hq, hc, hb⟩
  have HD := Lib.hid (l2Bent_any w1 q A c bs hc)
  clear HC
  go_wp2_with fail
  (with_reducible refine HD.out.mono ?_)
  rintro e w2 ⟨D, k, xs, rfl, hl, ho, k1⟩
  have HO := Lib.hid (l1Once_any w2 q A c bs 14 (by omega) k1.cur)
  clear HD
  go_wp2_with fail
  (with_reducible refine HO.out.mono ?_)
  rintro e w3 ⟨b, rfl, kb⟩
  have hq1 := hc.lt
  have ho := own_drawn ho kb hq1
  have k2 := k1.trans kb
  have hsz := k2.span.size
  clear HO k1 kb
  rcases b with _ | _
  · have kA := k2.next (((Below.refl w3.heap.size w3).alloc (Nat.le_refl _) (.cells #[.int .i64 0, .int .i64 1, .int .i64 2, .int .i64 3, .int .i64 3, .int .i64 4] 3)).mono hsz) hq1
    have hoA := own_below ho ((Below.refl w3.heap.size w3).alloc (Nat.le_refl _) (.cells #[.int .i64 0, .int .i64 1, .int .i64 2, .int .i64 3, .int .i64 3, .int .i64 4] 3))
    have HP := Lib.hid (l1PickInt_any _ q A c bs w3.heap.size 6 6 [0, 1, 2, 3, 3, 4] rfl (by decide) (by decide) (by omega) (by simp) (fun j hj => (obj_cell (obj_new w3 _)).trans (by
      have hj : j < 6 := hj
      rcases j with _ | _ | _ | _ | _ | _ | j
      all_goals first | rfl | omega)) kA.cur)
    go_wp2_with fail
    (with_reducible refine HP.out.mono ?_)
    rintro e w4 ⟨x, rfl, hx, k3⟩
    have hx8 : 0 ≤ x ∧ x ≤ 4 := by simp at hx; omega
    obtain ⟨n, rfl⟩ := Int.eq_ofNat_of_zero_le hx8.1
    have ho := own_drawn hoA k3 hq1
    have k4 := kA.trans k3
    have HD := Lib.hid (l2Draw_any w4 q A c bs n (by omega) k4.cur)
    clear HP hx
    go_wp2_with fail
    (with_reducible refine HD.out.mono ?_)
    rintro e w5 ⟨E, m, ys, rfl, hp, ho2, k5⟩
    have hyl : ys.length = n := by rw [hp.length_eq, upToL_length]
    have ho := own_drawn ho k5 hq1
    have HR := Lib.hid (show ys.length ≤ 9 by omega)
    have k6 := k4.trans k5
    clear hyl hp
    go_wp2_with fail
    go_ret2
    exact ⟨D, k, xs, E, m, ys, rfl, ⟨hl, HR.out⟩, In.of_own ho (by omega), In.of_own ho2 (by have := HR.out; omega), hb.trans (k6.below hq hb.size)⟩
  · have HD := Lib.hid (l2Bent_any w3 q A c bs k2.cur)
    go_wp2_with fail
    (with_reducible refine HD.out.mono ?_)
    rintro e w4 ⟨E, m, ys, rfl, hl2, ho2, k4⟩
    have ho := own_drawn ho k4 hq1
    go_wp2_with fail
    go_ret2
    exact ⟨D, k, xs, E, m, ys, rfl, ⟨hl, hl2⟩, In.of_own ho (by omega), In.of_own ho2 (by omega), hb.trans ((k2.trans k4).below hq hb.size)⟩
set_option maxHeartbeats 800000 in
theorem drawCountRuns (A : Option Addr) (c : Nat) (bs : List Int) (w : World) (h : InY w A c bs) :
    Calls Try.prog 48 #[.slice A bs.length c] w (RetII w fun xs ys => xs.length ≤ 9 ∧ ys.length ≤ 9) := by
  have HC := Lib.hid (l7Case_any A c bs w h)
  go_enter Try.func48, Try.ntmps48
  go_wp2_with fail
  (with_reducible refine HC.out.mono ?_)
  rintro e w1 ⟨D, k, xs, E, m, ys, rfl, hok, h1, h2, hb⟩
  go_wp2_with fail
  go_ret2
  exact ⟨D, k, xs, E, m, ys, rfl, hok, h1, h2, hb⟩
set_option maxHeartbeats 800000 in
theorem drawOverlaps (A : Option Addr) (c : Nat) (bs : List Int) (w : World) (h : InY w A c bs) :
    Calls Try.prog 50 #[.slice A bs.length c] w (RetDL w fun ys => ys.length ≤ 9) := by
  have HC := Lib.hid (l1New_any A c bs w h.len h.rd)
  go_enter Try.func50, Try.ntmps50
  go_wp2_with fail
  (with_reducible refine HC.out.mono ?_)
  rintro e w1 ⟨q, rfl, hq, hc, hb⟩
  have HD := Lib.hid (l2Bent_any w1 q A c bs hc)
  go_wp2_with fail
  (with_reducible refine HD.out.mono ?_)
  rintro e w2 ⟨D, k, ys, rfl, hl, ho, k1⟩
  go_wp2_with fail
  go_ret
  exact ⟨D, k, ys, rfl, hl, own_mono ho hb.size, hb.trans (k1.below hq hb.size)⟩
set_option maxHeartbeats 800000 in
theorem drawAlternatingN (A : Option Addr) (c : Nat) (bs : List Int) (w : World) (h : InY w A c bs) :
    Calls Try.prog 53 #[.slice A bs.length c] w fun en w' => ∃ x : Int, en = .returned (.int .i64 x) ∧ -1 ≤ x ∧ x ≤ 13 ∧ Below w.heap.size w w' := by
  have HC := Lib.hid (l1New_any A c bs w h.len h.rd)
  go_enter Try.func53, Try.ntmps53
  go_wp2_with fail
  (with_reducible refine HC.out.mono ?_)
  rintro e w1 ⟨q, rfl, hq, hc, hb⟩
  have HD := Lib.hid (l1Below_any w1 q A c bs 15 (by omega) hc)
  go_wp2_with fail
  (with_reducible refine HD.out.mono ?_)
  rintro e w2 ⟨x, rfl, hx, k1⟩
  have e1 : IntKind.i64.wrap (x - 1) = x - 1 := IntWalk.i64_in _ (by omega)
  go_wp2_with fail
  go_ret
  exact ⟨x - 1, by first | rfl | (simp only [e1]), by omega, by omega, hb.trans (k1.below hq hb.size)⟩
set_option maxHeartbeats 800000 in
theorem drawAvoidRuns (A : Option Addr) (c : Nat) (bs : List Int) (w : World) (h : InY w A c bs) :
    Calls Try.prog 49 #[.slice A bs.length c] w fun en w' => ∃ (x : Int) (E : Option Addr) (m : Nat) (ys : List Int), en = .returned (.tuple #[.int .i64 x, .slice E ys.length m]) ∧ -1 ≤ x ∧ x ≤ 5 ∧ ys.length ≤ 4 ∧ ys.Perm (upToL ys.length) ∧
      In w' E m ys ∧ Below w.heap.size w w' := by
  have HC := Lib.hid (l1New_any A c bs w h.len h.rd)
  go_enter Try.func49, Try.ntmps49
  go_wp2_with fail
  (with_reducible refine HC.out.mono ?_)
  rintro e w1 ⟨q, rfl, hq, hc, hb⟩
  have HD := Lib.hid (l1Below_any w1 q A c bs 6 (by omega) hc)
  clear HC
  go_wp2_with fail
  (with_reducible refine HD.out.mono ?_)
  rintro e w2 ⟨x, rfl, hx, k1⟩
  have HO := Lib.hid (l1Once_any w2 q A c bs 12 (by omega) k1.cur)
  clear HD
  go_wp2_with fail
  (with_reducible refine HO.out.mono ?_)
  rintro e w3 ⟨b, rfl, kb⟩
  have k2 := k1.trans kb
  obtain ⟨y, hy⟩ : ∃ y : Int, (if b = true then (1 : Int) else 0) = y := ⟨_, rfl⟩
  have hyb : 0 ≤ y ∧ y ≤ 1 := by rcases b with _ | _ <;> simp at hy <;> omega
  have HB := Lib.hid (l1Bit_b b y w3 hy)
  clear HO k1 kb hy
  go_wp2_with fail
  (with_reducible refine HB.out.mono ?_)
  rintro e w4 ⟨rfl, rfl⟩
  have e1 : IntKind.i64.wrap (x - y) = x - y := IntWalk.i64_in _ (by omega)
  have hx1 : -1 ≤ x - y ∧ x - y ≤ 5 := by omega
  have HD := Lib.hid (l1Below_any w3 q A c bs 5 (by omega) k2.cur)
  clear HB
  go_wp2_with fail
  (with_reducible refine HD.out.mono ?_)
  rintro e w4 ⟨z, rfl, hz, k3⟩
  obtain ⟨n, rfl⟩ := Int.eq_ofNat_of_zero_le hz.1
  have k4 := k2.trans k3
  have HE := Lib.hid (l2Draw_any w4 q A c bs n (by omega) k4.cur)
  clear HD
  go_wp2_with fail
  (with_reducible refine HE.out.mono ?_)
  rintro e w5 ⟨E, m, ys, rfl, hp, ho2, k5⟩
  have hyl : ys.length = n := by rw [hp.length_eq, upToL_length]
  have HP := Lib.hid hp
  have HR := Lib.hid (show ys.length ≤ 4 by omega)
  have HQ := Lib.hid hyl
  clear hyl hp
  have k6 := k4.trans k5
  go_wp2_with fail
  go_ret2
  exact ⟨x - y, E, m, ys, by first | rfl | (simp only [e1]), hx1.1, hx1.2, HR.out, by rw [HQ.out]; exact HP.out, In.of_own ho2 (by have := HR.out; omega), hb.trans (k6.below hq hb.size)⟩
set_option maxHeartbeats 800000 in
theorem drawChoose (A : Option Addr) (c : Nat) (bs : List Int) (w : World) (h : InY w A c bs) :
    Calls Try.prog 54 #[.slice A bs.length c] w fun en w' => ∃ x y : Int, en = .returned (.tuple #[.int .i64 x, .int .i64 y]) ∧ -1 ≤ x ∧ x ≤ 41 ∧ -1 ≤ y ∧ y ≤ 43 ∧ Below w.heap.size w w' := by
  have HC := Lib.hid (l1New_any A c bs w h.len h.rd)
  go_enter Try.func54, Try.ntmps54
  go_wp2_with fail
  (with_reducible refine HC.out.mono ?_)
  rintro e w1 ⟨q, rfl, hq, hc, hb⟩
  have HD := Lib.hid (l1Below_any w1 q A c bs 12 (by omega) hc)
  clear HC
  go_wp2_with fail
  (with_reducible refine HD.out.mono ?_)
  rintro e w2 ⟨x, rfl, hx, k1⟩
  have HD := Lib.hid (l1Below_any w2 q A c bs 41 (by omega) k1.cur)
  go_wp2_with fail
  (with_reducible refine HD.out.mono ?_)
  rintro e w3 ⟨y, rfl, hy, k2⟩
  have k2 := k1.trans k2
  have kA := k2.next (((Below.refl w3.heap.size w3).alloc (Nat.le_refl _) (.cells #[.int .i64 x, .int .i64 y, .int .i64 (-1), .int .i64 40, .int .i64 41] 3)).mono k2.span.size) hc.lt
  have HP := Lib.hid (l1PickInt_any _ q A c bs w3.heap.size 5 5 [x, y, -1, 40, 41] rfl (by simp) (by simp) (by have := hc.lt; have := k2.span.size; omega) (by simp) (fun j hj => (obj_cell (obj_new w3 _)).trans (by
    have hj : j < 5 := hj
    rcases j with _ | _ | _ | _ | _ | j
    all_goals first | rfl | omega)) kA.cur)
  clear HD
  go_wp2_with fail
  (with_reducible refine HP.out.mono ?_)
  rintro e w4 ⟨z, rfl, hz, k3⟩
  have hz8 : -1 ≤ z ∧ z ≤ 41 := by simp at hz; omega
  have k4 := kA.trans k3
  have e1 : IntKind.i64.wrap (z + 2) = z + 2 := IntWalk.i64_in _ (by omega)
  obtain ⟨u, hu⟩ : ∃ u, max 1 (z + 2) = u := ⟨_, rfl⟩
  have hub : 1 ≤ u ∧ u ≤ 43 := by omega
  have HM := Lib.hid (l1Max_b 1 (z + 2) u w4 hu)
  clear HP hu hz hx hy
  go_wp2_with fail
  (with_reducible refine HM.out.mono ?_)
  rintro e w5 ⟨rfl, rfl⟩
  have HD := Lib.hid (l1Below_any w4 q A c bs u (by omega) k4.cur)
  clear HM
  go_wp2_with fail
  (with_reducible refine HD.out.mono ?_)
  rintro e w5 ⟨v, rfl, hv, k5⟩
  have k5 := k4.trans k5
  have hvb : 0 ≤ v ∧ v ≤ 43 := by have := hv.2.1 (by omega); omega
  have HO := Lib.hid (l1Once_any w5 q A c bs 10 (by omega) k5.cur)
  clear HD hv
  go_wp2_with fail
  (with_reducible refine HO.out.mono ?_)
  rintro e w6 ⟨b, rfl, kb⟩
  have k6 := k5.trans kb
  obtain ⟨t, ht⟩ : ∃ y : Int, (if b = true then (1 : Int) else 0) = y := ⟨_, rfl⟩
  have htb : 0 ≤ t ∧ t ≤ 1 := by rcases b with _ | _ <;> simp at ht <;> omega
  have HB := Lib.hid (l1Bit_b b t w6 ht)
  clear HO ht
  go_wp2_with fail
  (with_reducible refine HB.out.mono ?_)
  rintro e w7 ⟨rfl, rfl⟩
  have e2 : IntKind.i64.wrap (v - t) = v - t := IntWalk.i64_in _ (by omega)
  go_wp2_with fail
  go_ret2
  exact ⟨z, v - t, by first | rfl | (simp only [e2]), hz8.1, hz8.2, by omega, by omega, hb.trans (k6.below hq hb.size)⟩
end Go.Proofs.Ythipikllgpnlhaa

/- An outer slice of a call's own whose rows are only read, or are the call's own: it grows by append. -/
namespace Go.Proofs.Ythipikllgpnlhaa
set_option maxRecDepth 100000
open Go Go.RowKit

/-- A row that lies below lo, or is owned. -/
def RowOk (w : World) (lo : Nat) (r : Row) : Prop := r.xs.length ≤ r.c ∧ (Rd (Value.int .i64) w lo r.A r.xs ∨ w.ownsRow lo 3 1 r.v r.xs.length (r.xs.map (Value.int .i64)))
structure OutL (w : World) (lo : Nat) (A : Option Addr) (c : Nat) (rs : List Row) : Prop where
  out : w.ownsRow lo 24 1 (.slice A rs.length c) rs.length (rs.map Row.v)
  rows : ∀ r ∈ rs, RowOk w lo r
theorem own_typesO {w : World} {b1 e1 n1 b2 e2 n2 : Nat} {v1 v2 : Value} {x1 x2 : List Value} (h1 : w.ownsRow b1 e1 1 v1 n1 x1) (h2 : w.ownsRow b2 e2 1 v2 n2 x2) (he : e1 ≠ e2) : v1.ownBlock = none ∨ v1.ownBlock ≠ v2.ownBlock := by
  rcases h1.2 with ⟨e, _⟩ | ⟨g1, c1, cur1, e1', _, hh1, _⟩
  · exact .inl (by rw [e]; rfl)
  · refine .inr fun h => ?_
    rcases h2.2 with ⟨e, _⟩ | ⟨g2, c2, cur2, e2', _, hh2, _⟩
    · rw [e, e1'] at h; cases h
    · rw [e1', e2'] at h
      injection h with h
      simp only at h
      subst h
      rw [hh1] at hh2
      injection hh2 with hh2
      injection hh2 with _ ht _
      exact he ht
section
variable {w w' : World} {lo : Nat} {A : Option Addr} {c : Nat} {rs : List Row} {r : Row}
theorem RowOk.in_ (h : RowOk w lo r) (hl : r.xs.length ≤ 1048576) (hlo : lo ≤ w.heap.size) : In w r.A r.c r.xs := ⟨hl, h.1, by
  rcases h.2 with h2 | h2
  · exact h2.more hlo
  · exact Rd.of_own (c := r.c) h2⟩
theorem RowOk.of_in {A : Option Addr} {c : Nat} {xs : List Int} (h : In w A c xs) (hlo : w.heap.size ≤ lo) : RowOk w lo ⟨A, c, xs⟩ := ⟨h.cap, .inl (h.rd.more hlo)⟩
theorem RowOk.below (h : RowOk w lo r) (hb : Below w.heap.size w w') (hlo : lo ≤ w.heap.size) : RowOk w' lo r := ⟨h.1, by
  rcases h.2 with h2 | h2
  · exact .inl (h2.below (hb.mono hlo))
  · exact .inr (own_below h2 hb)⟩
theorem RowOk.dr (h : RowOk w lo r) (hd : Dr w w') : RowOk w' lo r := ⟨h.1, h.2.imp (fun h => h.dr hd) fun h => hd.own h⟩
/-- A cell of another kind is written. -/
theorem RowOk.span {a b : Nat} (h : RowOk w lo r) (hs : Span a b w w') (ha : lo ≤ a) (hlo : lo ≤ w.heap.size) (hg : ∀ g, r.v.ownBlock = some g → g < a ∨ b ≤ g) : RowOk w' lo r := ⟨h.1, by
  rcases h.2 with h2 | h2
  · exact .inl (h2.below (hs.below ha hlo))
  · exact .inr (own_span h2 hs hg)⟩
theorem OutL.below (h : OutL w lo A c rs) (hb : Below w.heap.size w w') (hlo : lo ≤ w.heap.size) : OutL w' lo A c rs := ⟨own_below h.out hb, fun r hr => (h.rows r hr).below hb hlo⟩
theorem OutL.dr (h : OutL w lo A c rs) (hd : Dr w w') : OutL w' lo A c rs := ⟨hd.own h.out, fun r hr => (h.rows r hr).dr hd⟩
/-- A block that is no row of whole numbers and not the outer slice's is written. -/
theorem OutL.box {g i : Nat} {cs : Array Value} {t : TypeId} (h : OutL w lo A c rs) (hlo : lo ≤ g) (hls : lo ≤ w.heap.size) (ho : w.heap[g]? = some (Obj.cells cs t (0, 0))) (h1 : t ≠ 3) (h2 : t ≠ 24) (v : Value) : OutL (w.setCell ⟨g, i, none⟩ v) lo A c rs := by
  have hs : Span g (g + 1) w (w.setCell ⟨g, i, none⟩ v) := Span.set (p := ⟨g, i, none⟩) (Nat.le_refl _) (Nat.lt_succ_self _) _
  have key : ∀ {b e n : Nat} {u : Value} {xs : List Value}, w.ownsRow b e 1 u n xs → t ≠ e → ∀ q, u.ownBlock = some q → q < g ∨ g + 1 ≤ q := by
    intro b e n u xs ho2 hne q hq
    rcases ho2.2 with ⟨e1, _⟩ | ⟨g1, c1, cur1, e1', _, hh1, _⟩
    · rw [e1] at hq; cases hq
    · rw [e1'] at hq
      injection hq with hq
      have hq : g1 = q := hq
      subst hq
      by_cases hgq : g1 = g
      · subst hgq
        rw [ho] at hh1
        injection hh1 with hh1
        injection hh1 with _ ht _
        exact absurd ht hne
      · omega
  refine ⟨own_span h.out hs (key h.out h2), fun r hr => ?_⟩
  have hr := h.rows r hr
  refine ⟨hr.1, ?_⟩
  rcases hr.2 with h3 | h3
  · exact .inl (h3.below (hs.below hlo hls))
  · exact .inr (own_span h3 hs (key h3 h1))
theorem OutL.inL (h : OutL w lo A c rs) (hlo : lo ≤ w.heap.size) (hs : rs.length + sizeR rs ≤ 1048576) : InL w A c rs := by
  refine ⟨hs, ⟨fun r hr => (h.rows r hr).1, fun r hr => ((h.rows r hr).in_ (by have := sizeR_mem hr; omega) hlo).rd, fun o ho => ?_, fun o ho => ?_⟩⟩
  · obtain rfl := List.mem_singleton.1 ho
    have := (own_caps (A := A) (n := rs.length) (c := c) h.out).1
    simpa using this
  · obtain rfl := List.mem_singleton.1 ho
    exact Rd.of_own (f := id) (e := 24) (c := c) (by rw [List.map_id, List.length_map]; exact h.out)
/-- append of a row's header. -/
theorem OutL.push {o : Obj} {v1 : Value} {n : Nat} (h : OutL w lo A c rs) (hn : rs.length = n) (hlo : lo ≤ w.heap.size) (hr : RowOk w lo r)
    (h1 : w'.ownsRow lo 24 1 v1 (n + 1) (rs.map Row.v ++ [r.v])) (hg : (w.alloc o).grownBy w' (Value.slice A n c).ownBlock) :
    ∃ A1 c1, v1 = .slice A1 (n + 1) c1 ∧ OutL w' lo A1 c1 (rs ++ [r]) ∧ w.grownBy w' (Value.slice A n c).ownBlock ∧ w.heap.size < w'.heap.size := by
  subst hn
  obtain ⟨A1, c1, rfl, _, _⟩ := own_shape h1
  have hgg := grown_trans (World.grownBy_alloc w o _) hg
  have hsz : w.heap.size < w'.heap.size := by have := hg.size; simp at this; omega
  have key : ∀ s, RowOk w lo s → RowOk w' lo s := fun s hs => by
    refine ⟨hs.1, ?_⟩
    rcases hs.2 with h3 | h3
    · exact .inl (h3.grown hgg hlo fun g hgq => (h.out.lt g hgq).1)
    · exact .inr (h3.kept hgg (own_typesO h3 h.out (by decide)))
  refine ⟨A1, c1, rfl, ⟨by simpa using h1, fun s hs => ?_⟩, hgg, hsz⟩
  rcases List.mem_append.1 hs with hs | hs
  · exact key s (h.rows s hs)
  · obtain rfl := List.mem_singleton.1 hs
    exact key _ hr
/-- append of rows' headers. -/
theorem OutL.pushes {v1 : Value} {n m : Nat} {qs : List Row} (h : OutL w lo A c rs) (hn : rs.length = n) (hm : qs.length = m) (hlo : lo ≤ w.heap.size) (hr : ∀ r ∈ qs, RowOk w lo r)
    (h1 : w'.ownsRow lo 24 1 v1 (n + m) (rs.map Row.v ++ qs.map Row.v)) (hgg : w.grownBy w' (Value.slice A n c).ownBlock) :
    ∃ A1 c1, v1 = .slice A1 (n + m) c1 ∧ OutL w' lo A1 c1 (rs ++ qs) := by
  subst hn hm
  obtain ⟨A1, c1, rfl, _, _⟩ := own_shape h1
  have key : ∀ s, RowOk w lo s → RowOk w' lo s := fun s hs => by
    refine ⟨hs.1, ?_⟩
    rcases hs.2 with h3 | h3
    · exact .inl (h3.grown hgg hlo fun g hgq => (h.out.lt g hgq).1)
    · exact .inr (h3.kept hgg (own_typesO h3 h.out (by decide)))
  refine ⟨A1, c1, rfl, ⟨by simpa using h1, fun s hs => ?_⟩⟩
  rcases List.mem_append.1 hs with hs | hs
  · exact key s (h.rows s hs)
  · exact key s (hr s hs)
theorem OutL.nil (w : World) (lo : Nat) : OutL w lo none 0 [] := ⟨⟨rfl, .inl ⟨rfl, rfl⟩⟩, fun _ hr => (List.not_mem_nil hr).elim⟩
theorem OutL.lt (h : OutL w lo A c rs) {n : Nat} (hn : rs.length = n) : ∀ g, (Value.slice A n c).ownBlock = some g → lo ≤ g ∧ g < w.heap.size := fun g hg => by subst hn; exact h.out.lt g hg
end
/-- The row [x, y] that was laid down by a literal. -/
theorem RowOk.two {w : World} {lo bl : Nat} {x y : Int} (h : w.heap[bl]? = some (Obj.cells #[.int .i64 x, .int .i64 y] 3 (0, 0))) (hl : lo ≤ bl) : RowOk w lo ⟨some ⟨bl, 0, none⟩, 2, [x, y]⟩ := by
  exact ⟨Nat.le_refl _, .inr ⟨rfl, .inr ⟨bl, 2, #[.int .i64 x, .int .i64 y], rfl, hl, h, Nat.le_refl _, by unfold maxLen; omega, rfl, rfl⟩⟩⟩
end Go.Proofs.Ythipikllgpnlhaa
