/- IsSumClosed, program and reference. -/
import Derived.Test.YtmkaelefljjamaaV1
import Derived.Test.YtmkaelefljjamaaG2
import Derived.Test.YtmkaelefljjamaaS1
namespace Go.Proofs.Ytmkaelefljjamaa
set_option maxRecDepth 100000
open Go Go.RowKit

/-- The greatest of the first k. -/
def pmax (p : List Int) (k : Nat) : Int := (p.take k).foldl max 0
theorem pmax_succ (p : List Int) (k : Nat) (h : k < p.length) : pmax p (k + 1) = max (pmax p k) p[k] := by
  unfold pmax
  rw [List.take_succ_eq_append_getElem h, List.foldl_append]; rfl
theorem pmax_bd {p : List Int} (hb : ∀ v ∈ p, 1 ≤ v ∧ v ≤ 8) (k : Nat) : 0 ≤ pmax p k ∧ pmax p k ≤ 8 := by
  induction k with
  | zero => simp [pmax]
  | succ k ih =>
    by_cases h : k < p.length
    · rw [pmax_succ p k h]
      have := hb p[k] (List.getElem_mem h)
      omega
    · unfold pmax at ih ⊢
      rw [List.take_of_length_le (by omega)] at ih ⊢
      exact ih
/-- How many sum parts end within the first k. -/
def sumN (p : List Int) (k : Nat) : Nat := ((List.range k).filter fun i => decide (pmax p (i + 1) = (i : Int) + 1)).length
theorem sumN_succ (p : List Int) (k : Nat) : sumN p (k + 1) = if pmax p (k + 1) = (k : Int) + 1 then sumN p k + 1 else sumN p k := by
  unfold sumN
  rw [List.range_succ, List.filter_append]
  by_cases h : pmax p (k + 1) = (k : Int) + 1 <;> simp [h]
theorem sumN_le (p : List Int) (k : Nat) : sumN p k ≤ k := Nat.le_trans (List.length_filter_le _ _) (by simp)
def scG (X : List (List Int)) : Bool := basisB X && !X.any fun p => decide (1 < sumN p p.length)
/-- A call's result: a list of n rows, whatever they are. -/
def RetLen (w : World) (n : Nat) (e : Ending) (w' : World) : Prop := ∃ A c, e = .returned (.slice A n c) ∧ Below w.heap.size w w'

set_option maxHeartbeats 800000 in
theorem raised_any (A : Option Addr) (c n : Nat) (xs : List Int) (x : Int) (w : World) (hn : xs.length = n) (hl : n ≤ 1048576) (hx : Rd (Value.int .i64) w w.heap.size A xs) (hv : ∀ v ∈ xs, 1 ≤ v ∧ v ≤ 1048576) (hx1 : -1048576 ≤ x ∧ x ≤ 1048576) :
    Calls Try.prog 108 #[.slice A n c, .int .i64 x] w (Ret (Value.int .i64) 3 w (xs.map (· + x))) := by
  obtain ⟨i0, hi, hz0, hz1, hz2⟩ := info_parts infoI
  have HN := Lib.hid hn
  have hn1 : xs.length ≤ n := by omega
  have hn2 : n ≤ xs.length := by omega
  clear hn
  have hown0 : (w.alloc (.cells #[] 3)).ownsRow w.heap.size 3 1 (.slice (some ⟨w.heap.size, 0, none⟩) 0 0) 0 (((xs.take 0).map (· + x)).map (Value.int .i64)) := World.ownsRow_lit w #[] 0 (Nat.le_refl _) (by unfold maxLen; omega) rfl
  have hb0 := (Below.refl w.heap.size w).alloc (Nat.le_refl _) (.cells #[] 3)
  go_enter Try.func108, Try.ntmps108
  go_wp2_with fail
  go_loopw [5, 11] (fun v i wr => ∃ (k : Nat) (A1 : Option Addr) (c1 : Nat), k ≤ n ∧ i = .int .i64 k ∧ v = .slice A1 k c1 ∧ wr.ownsRow w.heap.size 3 1 (.slice A1 k c1) k (((xs.take k).map (· + x)).map (Value.int .i64)) ∧ Below w.heap.size w wr) (fun _ i _ => n - (intOf i).toNat)
  case atStart => exact ⟨0, _, _, Nat.zero_le _, rfl, rfl, hown0, hb0⟩
  case round =>
    clear hown0 hb0
    obtain ⟨k, A1, c1, hk, rfl, rfl, hown, hb⟩ := hrel
    have hsz := hb.size
    rcases Nat.lt_or_ge k n with hlt | hge
    · have hkx : k < xs.length := by omega
      obtain ⟨b, off, rfl, _, hc⟩ := (hx.next hb) (by omega)
      have cc := hc k hkx
      have hvk := hv xs[k] (List.getElem_mem hkx)
      have HT := Lib.hid (show (xs.take (k + 1)).map (· + x) = (xs.take k).map (· + x) ++ [xs[k] + x] by rw [List.take_succ_eq_append_getElem hkx, List.map_append]; rfl)
      clear hc
      go_wp2_with (at_builtin; refine wpList_append_own _ rfl _ _ 22 rfl (w.heap.size) 3 i0 (.int .i64 0) 1 8 Try.underlying22 hi hz0 hz1 hz2 rfl (by decide) _ _ _ rfl (World.ownsRow.alloc hown _) ⟨wr.heap.size, 0, none⟩ 1 1 [.int .i64 (xs[k] + x)] rfl rfl (cell_one_new _ _ _) (by intro u hu; simp at hu; subst hu; rfl) (by unfold maxLen; omega) (by omega) (by simp; omega) ?_; intro v1 w1 hown1 hgrow1 _)
      have hS2 : w1.ownsRow w.heap.size 3 1 v1 (k + 1) (((xs.take (k + 1)).map (· + x)).map (Value.int .i64)) := by rw [HT.out]; simpa using hown1
      have hb1 := (hb.alloc hsz (Obj.cells #[Value.int .i64 (xs[k] + x)] 3)).grown hgrow1 (by simp; omega) (by intro g hg; exact ((hown.lt g hg).1))
      obtain ⟨A2, c2, rfl, _, _⟩ := own_shape hS2
      have H1 := Lib.hid hS2
      have H2 := Lib.hid hb1
      clear hS2 hown1 hgrow1 hb1 hown hb
      go_wp2
      go_roundw
      case rel => exact ⟨k + 1, A2, c2, by omega, by go_num, rfl, H1.out, H2.out⟩
      case measure => simp [intOf]; omega
    · obtain rfl : k = n := by omega
      have HE := Lib.hid (show k = (xs.map (· + x)).length by rw [List.length_map]; exact HN.out.symm)
      rw [List.take_of_length_le hn1] at hown
      go_wp2
      go_ret
      exact ⟨A1, c1, by rw [← HE.out]; rfl, by rw [← HE.out]; exact (own_caps hown).1, (own_caps hown).2, by rw [← HE.out]; first | exact hown | simpa using hown, hb⟩

set_option maxHeartbeats 4000000 in
theorem sumParts_impl (A : Option Addr) (c : Nat) (p : List Int) (w : World) (h : In w A c p) (hp : permB p = true) :
    Calls Try.prog 71 #[.slice A p.length c] w (RetLen w (sumN p p.length)) := by
  obtain ⟨j0, hj, hy0, hy1, hy2⟩ := info_parts infoL
  obtain ⟨h8, hr, _⟩ := permB_true hp
  have hbd : ∀ v ∈ p, 1 ≤ v ∧ v ≤ 8 := fun v hv => by have := hr v hv; omega
  have hcap := h.cap
  have HP := Lib.hid hp
  have hown0 : (w.alloc (.cells #[] 22)).ownsRow w.heap.size 22 1 (.slice (some ⟨w.heap.size, 0, none⟩) 0 0) 0 [] := World.ownsRow_lit w #[] 0 (Nat.le_refl _) (by unfold maxLen; omega) rfl
  have hb0 := (Below.refl w.heap.size w).alloc (Nat.le_refl _) (.cells #[] 22)
  clear hp hr
  go_enter Try.func71, Try.ntmps71
  go_wp2_with fail
  go_loopw [3, 4, 5, 11] (fun v s t i wr => ∃ (k st : Nat) (A1 : Option Addr) (c1 : Nat) (vs : List Value), k ≤ p.length ∧ st ≤ k ∧ i = .int .i64 k ∧ s = .int .i64 st ∧ t = .int .i64 (pmax p k) ∧ v = .slice A1 (sumN p k) c1 ∧ wr.ownsRow w.heap.size 22 1 (.slice A1 (sumN p k) c1) (sumN p k) vs ∧ Below w.heap.size w wr) (fun _ _ _ i _ => p.length - (intOf i).toNat)
  case atStart => exact ⟨0, 0, _, _, [], Nat.zero_le _, Nat.le_refl _, rfl, rfl, rfl, rfl, hown0, hb0⟩
  case round =>
    clear hown0 hb0
    obtain ⟨k, st, A1, c1, vs, hk, hst, rfl, rfl, rfl, rfl, hown, hb⟩ := hrel
    have hsz := hb.size
    have hpm := pmax_bd hbd k
    have hpm2 := pmax_bd hbd (k + 1)
    have hsn := sumN_le p k
    rcases Nat.lt_or_ge k p.length with hlt | hge
    · obtain ⟨b, off, rfl, hbb, hc⟩ := (h.next hb).rd (by omega)
      have cc := hc k hlt
      have hvk := hbd p[k] (List.getElem_mem hlt)
      have HM := Lib.hid (pmax_succ p k hlt)
      have HS := Lib.hid (sumN_succ p k)
      have HCUT := Lib.hid (((h.next hb).rd.take (k + 1)).cut (k := st) (c := c) (by simp; omega) (by simp; omega))
      have hsl := fun w => run_cut2 (P := Try.prog) (t := 22) Try.underlying22 sizeI (some ⟨b, off, none⟩) p.length c st (k + 1) (st : Int) ((k : Int) + 1) rfl (by omega) (by omega) (by omega) w
      clear hc
      have HLN := Lib.hid (show ((p.take (k + 1)).drop st).length = k + 1 - st by simp; omega)
      have HVV := Lib.hid (show ∀ v ∈ (p.take (k + 1)).drop st, 1 ≤ v ∧ v ≤ 1048576 from fun v hv => by
        have := hbd v ((List.take_sublist _ _).subset ((List.drop_sublist _ _).subset hv))
        omega)
      by_cases heq : pmax p (k + 1) = (k : Int) + 1
      · have HE := Lib.hid (show sumN p (k + 1) = sumN p k + 1 by rw [HS.out, if_pos heq])
        by_cases hmx : pmax p k < p[k]
        · have HV := Lib.hid (show pmax p (k + 1) = p[k] by rw [HM.out]; omega)
          have dq : (p[k] == (k : Int) + 1) = true := by rw [← HV.out, heq]; simp
          clear heq
          go_wp2_with fail
          (with_reducible refine (raised_any _ _ (k + 1 - st) ((p.take (k + 1)).drop st) (-(st : Int)) wr HLN.out (by omega) HCUT.out HVV.out (by omega)).mono ?_)
          rintro e w2 ⟨A2, c2, rfl, _, _, own2, hb2⟩
          have hown2 := own_below hown hb2
          have hbw := hb.trans (hb2.mono hsz)
          have hwz : w.heap.size ≤ w2.heap.size := hbw.size
          clear own2 hown hb2
          generalize (((p.take (k + 1)).drop st).map (· + -(st : Int))).length = L
          go_wp2_with (at_builtin; refine wpList_append_own _ rfl _ _ 33 rfl (w.heap.size) 22 j0 (.slice none 0 0) 1 24 Try.underlying33 hj hy0 hy1 hy2 rfl (by decide) _ _ _ rfl (World.ownsRow.alloc hown2 _) ⟨w2.heap.size, 0, none⟩ 1 1 [Value.slice A2 L c2] rfl rfl (cell_one_at _ _ (by simp)) (by intro u hu; simp at hu; subst hu; rfl) (by unfold maxLen; omega) (by omega) (by simp; omega) ?_; intro v9 w9 hown9 hgrow9 _)
          obtain ⟨A3, c3, rfl, _, _⟩ := own_shape hown9
          have hb3 := (hbw.alloc hwz _).grown hgrow9 (by simp; omega) (fun g hg => (hown2.lt g hg).1)
          have K := Lib.hid (And.intro hown9 hb3)
          clear hown9 hgrow9 hb3 hown2 hbw
          go_wp2_with fail
          go_roundw
          case rel => exact ⟨k + 1, k + 1, A3, c3, _, by omega, Nat.le_refl _, by go_num, by go_num, by rw [HV.out], by rw [HE.out], by rw [HE.out]; exact K.out.1, K.out.2⟩
          case measure => simp [intOf]; omega
        · have HV := Lib.hid (show pmax p (k + 1) = pmax p k by rw [HM.out]; omega)
          have dq : (pmax p k == (k : Int) + 1) = true := by rw [← HV.out, heq]; simp
          clear heq
          go_wp2_with fail
          (with_reducible refine (raised_any _ _ (k + 1 - st) ((p.take (k + 1)).drop st) (-(st : Int)) wr HLN.out (by omega) HCUT.out HVV.out (by omega)).mono ?_)
          rintro e w2 ⟨A2, c2, rfl, _, _, own2, hb2⟩
          have hown2 := own_below hown hb2
          have hbw := hb.trans (hb2.mono hsz)
          have hwz : w.heap.size ≤ w2.heap.size := hbw.size
          clear own2 hown hb2
          generalize (((p.take (k + 1)).drop st).map (· + -(st : Int))).length = L
          go_wp2_with (at_builtin; refine wpList_append_own _ rfl _ _ 33 rfl (w.heap.size) 22 j0 (.slice none 0 0) 1 24 Try.underlying33 hj hy0 hy1 hy2 rfl (by decide) _ _ _ rfl (World.ownsRow.alloc hown2 _) ⟨w2.heap.size, 0, none⟩ 1 1 [Value.slice A2 L c2] rfl rfl (cell_one_at _ _ (by simp)) (by intro u hu; simp at hu; subst hu; rfl) (by unfold maxLen; omega) (by omega) (by simp; omega) ?_; intro v9 w9 hown9 hgrow9 _)
          obtain ⟨A3, c3, rfl, _, _⟩ := own_shape hown9
          have hb3 := (hbw.alloc hwz _).grown hgrow9 (by simp; omega) (fun g hg => (hown2.lt g hg).1)
          have K := Lib.hid (And.intro hown9 hb3)
          clear hown9 hgrow9 hb3 hown2 hbw
          go_wp2_with fail
          go_roundw
          case rel => exact ⟨k + 1, k + 1, A3, c3, _, by omega, Nat.le_refl _, by go_num, by go_num, by rw [HV.out], by rw [HE.out], by rw [HE.out]; exact K.out.1, K.out.2⟩
          case measure => simp [intOf]; omega
      · have HE := Lib.hid (show sumN p (k + 1) = sumN p k by rw [HS.out, if_neg heq])
        by_cases hmx : pmax p k < p[k]
        · have HV := Lib.hid (show pmax p (k + 1) = p[k] by rw [HM.out]; omega)
          have dq : (p[k] == (k : Int) + 1) = false := by rw [← HV.out]; simpa using heq
          clear heq
          go_wp2_with fail
          go_roundw
          case rel => exact ⟨k + 1, st, A1, c1, vs, by omega, by omega, by go_num, rfl, by rw [HV.out], by rw [HE.out], by rw [HE.out]; exact hown, hb⟩
          case measure => simp [intOf]; omega
        · have HV := Lib.hid (show pmax p (k + 1) = pmax p k by rw [HM.out]; omega)
          have dq : (pmax p k == (k : Int) + 1) = false := by rw [← HV.out]; simpa using heq
          clear heq
          go_wp2_with fail
          go_roundw
          case rel => exact ⟨k + 1, st, A1, c1, vs, by omega, by omega, by go_num, rfl, by rw [HV.out], by rw [HE.out], by rw [HE.out]; exact hown, hb⟩
          case measure => simp [intOf]; omega
    · obtain rfl : k = p.length := by omega
      go_wp2_with fail
      go_ret
      exact ⟨A1, c1, rfl, hb⟩
theorem l1Max_b (a b m : Int) (w : World) (hm : max a b = m) : Calls Try.prog 106 #[.int .i64 a, .int .i64 b] w fun e w' => e = .returned (.int .i64 m) ∧ w = w' := by
  have HM := Lib.hid hm
  clear hm
  by_cases h : b < a
  · have HE := Lib.hid (show m = a by rw [← HM.out]; omega)
    go_enter Try.func106, Try.ntmps106
    go_wp2
    go_ret
    exact ⟨by rw [HE.out]; rfl, rfl⟩
  · have HE := Lib.hid (show m = b by rw [← HM.out]; omega)
    go_enter Try.func106, Try.ntmps106
    go_wp2
    go_ret
    exact ⟨by rw [HE.out]; rfl, rfl⟩
def sumG (p : List Int) : Nat := if permB p = true then sumN p p.length else 0
set_option maxHeartbeats 4000000 in
theorem sumParts_spec (A : Option Addr) (c : Nat) (p : List Int) (w : World) (h : In w A c p) :
    Calls Try.prog 69 #[.slice A p.length c] w (RetLen w (sumG p)) := by
  obtain ⟨j0, hj, hy0, hy1, hy2⟩ := info_parts infoL
  have hcap := h.cap
  have hb00 := (Below.refl w.heap.size w).alloc (Nat.le_refl _) (.cells #[] 22)
  have hown00 : (w.alloc (.cells #[] 22)).ownsRow w.heap.size 22 1 (.slice (some ⟨w.heap.size, 0, none⟩) 0 0) 0 [] := World.ownsRow_lit w #[] 0 (Nat.le_refl _) (by unfold maxLen; omega) rfl
  by_cases hp : permB p = true
  · obtain ⟨h8, hr, _⟩ := permB_true hp
    have hbd : ∀ v ∈ p, 1 ≤ v ∧ v ≤ 8 := fun v hv => by have := hr v hv; omega
    have HP := Lib.hid hp
    have HG := Lib.hid (show sumG p = sumN p p.length by unfold sumG; rw [if_pos hp])
    clear hp hr
    go_enter Try.func69, Try.ntmps69
    go_wp2_with fail
    (with_reducible refine (isPerm_sb A c p _ true (h.next hb00) HP.out).mono ?_)
    rintro e w1 ⟨rfl, hd1⟩
    have hb0 := below_dr hb00 hd1
    have hown0 := hd1.own hown00
    clear hb00 hown00
    go_wp2_with fail
    go_loopw [3, 4, 5, 6] (fun v s t i wr => ∃ (k st : Nat) (A1 : Option Addr) (c1 : Nat) (vs : List Value), k ≤ p.length ∧ st ≤ k ∧ i = .int .i64 k ∧ s = .int .i64 st ∧ t = .int .i64 (pmax p k) ∧ v = .slice A1 (sumN p k) c1 ∧ wr.ownsRow w.heap.size 22 1 (.slice A1 (sumN p k) c1) (sumN p k) vs ∧ Below w.heap.size w wr) (fun _ _ _ i _ => p.length - (intOf i).toNat)
    case atStart => exact ⟨0, 0, _, _, [], Nat.zero_le _, Nat.le_refl _, rfl, rfl, rfl, rfl, hown0, hb0⟩
    case round =>
      clear hown0 hb0
      obtain ⟨k, st, A1, c1, vs, hk, hst, rfl, rfl, rfl, rfl, hown, hb⟩ := hrel
      have hsz := hb.size
      have hpm := pmax_bd hbd k
      have hpm2 := pmax_bd hbd (k + 1)
      have hsn := sumN_le p k
      rcases Nat.lt_or_ge k p.length with hlt | hge
      · obtain ⟨b, off, rfl, hbb, hc⟩ := (h.next hb).rd (by omega)
        have cc := hc k hlt
        have hvk := hbd p[k] (List.getElem_mem hlt)
        have HM := Lib.hid (pmax_succ p k hlt)
        have HS := Lib.hid (sumN_succ p k)
        have HCUT := Lib.hid (((h.next hb).rd.take (k + 1)).cut (k := st) (c := c) (by simp; omega) (by simp; omega))
        have hsl := fun w => run_cut2 (P := Try.prog) (t := 22) Try.underlying22 sizeI (some ⟨b, off, none⟩) p.length c st (k + 1) (st : Int) ((k : Int) + 1) rfl (by omega) (by omega) (by omega) w
        clear hc
        have HLN := Lib.hid (show ((p.take (k + 1)).drop st).length = k + 1 - st by simp; omega)
        by_cases heq : pmax p (k + 1) = (k : Int) + 1
        · have HE := Lib.hid (show sumN p (k + 1) = sumN p k + 1 by rw [HS.out, if_pos heq])
          have dq : (pmax p (k + 1) == (k : Int) + 1) = true := by rw [heq]; simp
          clear heq
          go_wp2_with fail
          (with_reducible refine (l1Max_b (pmax p k) p[k] (pmax p (k + 1)) wr HM.out.symm).mono ?_)
          rintro e w' ⟨rfl, rfl⟩
          go_wp2_with fail
          (with_reducible refine (pattern_spec _ _ (k + 1 - st) ((p.take (k + 1)).drop st) wr HLN.out (by omega) HCUT.out).mono ?_)
          rintro e w2 ⟨A2, c2, rfl, _, _, own2, hb2⟩
          have hown2 := own_below hown hb2
          have hbw := hb.trans (hb2.mono hsz)
          have hwz : w.heap.size ≤ w2.heap.size := hbw.size
          clear own2 hown hb2
          generalize (patL ((p.take (k + 1)).drop st)).length = L
          go_wp2_with (at_builtin; refine wpList_append_own _ rfl _ _ 33 rfl (w.heap.size) 22 j0 (.slice none 0 0) 1 24 Try.underlying33 hj hy0 hy1 hy2 rfl (by decide) _ _ _ rfl (World.ownsRow.alloc hown2 _) ⟨w2.heap.size, 0, none⟩ 1 1 [Value.slice A2 L c2] rfl rfl (cell_one_at _ _ (by simp)) (by intro u hu; simp at hu; subst hu; rfl) (by unfold maxLen; omega) (by omega) (by simp; omega) ?_; intro v9 w9 hown9 hgrow9 _)
          obtain ⟨A3, c3, rfl, _, _⟩ := own_shape hown9
          have hb3 := (hbw.alloc hwz _).grown hgrow9 (by simp; omega) (fun g hg => (hown2.lt g hg).1)
          have K := Lib.hid (And.intro hown9 hb3)
          clear hown9 hgrow9 hb3 hown2 hbw
          go_wp2_with fail
          go_roundw
          case rel => exact ⟨k + 1, k + 1, A3, c3, _, by omega, Nat.le_refl _, by go_num, by go_num, rfl, by rw [HE.out], by rw [HE.out]; exact K.out.1, K.out.2⟩
          case measure => simp [intOf]; omega
        · have HE := Lib.hid (show sumN p (k + 1) = sumN p k by rw [HS.out, if_neg heq])
          have dq : (pmax p (k + 1) == (k : Int) + 1) = false := by simpa using heq
          clear heq
          go_wp2_with fail
          (with_reducible refine (l1Max_b (pmax p k) p[k] (pmax p (k + 1)) wr HM.out.symm).mono ?_)
          rintro e w' ⟨rfl, rfl⟩
          go_wp2_with fail
          go_roundw
          case rel => exact ⟨k + 1, st, A1, c1, vs, by omega, by omega, by go_num, rfl, rfl, by rw [HE.out], by rw [HE.out]; exact hown, hb⟩
          case measure => simp [intOf]; omega
      · obtain rfl : k = p.length := by omega
        go_wp2_with fail
        go_ret
        rw [HG.out]
        exact ⟨A1, c1, rfl, hb⟩
  · have hpf : permB p = false := by simpa using hp
    have HP := Lib.hid hpf
    have HG := Lib.hid (show sumG p = 0 by unfold sumG; rw [if_neg hp])
    clear hp hpf
    go_enter Try.func69, Try.ntmps69
    go_wp2_with fail
    (with_reducible refine (isPerm_sb A c p _ false (h.next hb00) HP.out).mono ?_)
    rintro e w1 ⟨rfl, hd1⟩
    go_wp2_with fail
    go_ret
    rw [HG.out]
    exact ⟨_, _, rfl, below_dr hb00 hd1⟩

theorem call_sc (args : Array Value) (w : World) : (callFunc 70 args).run Try.prog w = .ok (.enter 70 args) w := by kernel_rfl
set_option maxHeartbeats 800000 in
theorem sc_cl (A : Option Addr) (c : Nat) (p : List Int) (w : World) (h : In w A c p) (hp : permB p = true) :
    Calls Try.prog 70 #[.slice A p.length c] w (Rb w (.bool (decide (1 < sumN p p.length)))) := by
  have HR := Lib.hid (sumParts_impl A c p w h hp)
  have hsn := sumN_le p p.length
  have h8 := (permB_true hp).1
  clear hp
  go_enter Try.func70, Try.ntmps70
  go_wp2_with fail
  (with_reducible refine HR.out.mono ?_)
  rintro e w1 ⟨A1, c1, rfl, hb1⟩
  go_wp2_with fail
  go_ret
  exact ⟨ret_bool (by rw [decide_eq_decide]; omega), hb1⟩
set_option maxHeartbeats 1000000 in
theorem sumClosed_impl (A : Option Addr) (c : Nat) (rs : List Row) (w : World) (h : InL w A c rs) :
    Calls Try.prog 29 #[.slice A rs.length c] w (Rb w (.bool (scG (rs.map Row.xs)))) := by
  have hlen := h.len
  by_cases hB : basisB (rs.map Row.xs) = true
  · have H1 := Lib.hid hB
    have hperm := basis_perm hB
    have HP := Lib.hid (show ∀ r ∈ rs, permB r.xs = true from fun r hr => hperm _ (List.mem_map.2 ⟨r, hr, rfl⟩))
    have HG := Lib.hid (show scG (rs.map Row.xs) = !(rs.any fun r : Row => decide (1 < sumN r.xs r.xs.length)) by
      unfold scG; rw [hB, any_rows rs (fun p => decide (1 < sumN p p.length))]; rfl)
    clear hB hperm
    go_enter Try.func29, Try.ntmps29
    go_wp2_with fail
    (with_reducible refine (basis_ib A c rs w true h H1.out).mono ?_)
    rintro e w1 ⟨rfl, hb1⟩
    have h1 := h.next hb1
    go_wp2_with fail
    refine (containsFuncL0 A c rs 70 (fun p => decide (1 < sumN p p.length)) w1 (by omega) h1.read (fun args w' => call_sc args w') (fun w' k hk hb => sc_cl _ _ _ _ ((h1.next hb).row (List.getElem_mem hk)) (HP.out _ (List.getElem_mem hk))) _ rfl).mono ?_
    rintro e w2 ⟨rfl, hb2⟩
    go_wp2_with fail
    go_ret
    exact ⟨ret_bool (by rw [HG.out]), hb1.trans (hb2.mono hb1.size)⟩
  · have hBf : basisB (rs.map Row.xs) = false := by simpa using hB
    have H1 := Lib.hid hBf
    have HG := Lib.hid (show scG (rs.map Row.xs) = false by unfold scG; rw [hBf]; rfl)
    clear hB hBf
    go_enter Try.func29, Try.ntmps29
    go_wp2_with fail
    (with_reducible refine (basis_ib A c rs w false h H1.out).mono ?_)
    rintro e w1 ⟨rfl, hb1⟩
    go_wp2_with fail
    go_ret
    exact ⟨ret_bool (by rw [HG.out]), hb1⟩
theorem sc_bad {X : List (List Int)} {p : List Int} (hp : p ∈ X) (h : decide (1 < sumG p) = true) : scG X = false := by
  unfold scG
  rcases hB : basisB X with _ | _
  · rfl
  have h1 := basis_perm hB p hp
  unfold sumG at h
  rw [if_pos h1] at h
  have : (X.any fun p => decide (1 < sumN p p.length)) = true := List.any_eq_true.2 ⟨p, hp, h⟩
  rw [this]; rfl
theorem sc_good {X : List (List Int)} (h : X.any (fun p => decide (1 < sumG p)) = false) : scG X = basisB X := by
  unfold scG
  rcases hB : basisB X with _ | _
  · rfl
  have : (X.any fun p => decide (1 < sumN p p.length)) = false := by
    rw [List.any_eq_false] at h ⊢
    intro p hp
    have := h p hp
    unfold sumG at this
    rwa [if_pos (basis_perm hB p hp)] at this
  rw [this]; rfl
theorem sumG_le (p : List Int) : sumG p ≤ 8 := by
  unfold sumG
  split
  · rename_i h; have := sumN_le p p.length; have := (permB_true h).1; omega
  · omega
set_option maxHeartbeats 1000000 in
theorem sumClosed_spec (A : Option Addr) (c : Nat) (rs : List Row) (w : World) (h : InL w A c rs) :
    Calls Try.prog 28 #[.slice A rs.length c] w (Rb w (.bool (scG (rs.map Row.xs)))) := by
  have hlen := h.len
  go_enter Try.func28, Try.ntmps28
  go_wp2_with fail
  go_loopw [3] (fun i wr => ∃ k : Nat, k ≤ rs.length ∧ i = .int .i64 k ∧ Hid ((rs.take k).any (fun r : Row => decide (1 < sumG r.xs)) = false) ∧ Below w.heap.size w wr) (fun i _ => rs.length - (intOf i).toNat)
  case atStart => exact ⟨0, Nat.zero_le _, rfl, Lib.hid rfl, Below.refl _ _⟩
  case round =>
    obtain ⟨k, hk, rfl, HN, hb⟩ := hrel
    rcases Nat.lt_or_ge k rs.length with hlt | hge
    · obtain ⟨b, off, rfl, _, hc⟩ := (h.next hb).read.at (by omega)
      have cc := hc k hlt
      have hin := (h.next hb).row (List.getElem_mem hlt)
      have HMEM := Lib.hid (show rs[k].xs ∈ rs.map Row.xs from List.mem_map.2 ⟨rs[k], List.getElem_mem hlt, rfl⟩)
      have HR := Lib.hid (sumParts_spec rs[k].A rs[k].c rs[k].xs wr hin)
      have hs8 := sumG_le rs[k].xs
      clear hc
      go_wp2_with fail
      (with_reducible refine HR.out.mono ?_)
      rintro e w1 ⟨A1, c1, rfl, hb1⟩
      have hb1 := hb.trans (hb1.mono hb.size)
      by_cases hs : 1 < sumG rs[k].xs
      · have HF := Lib.hid (sc_bad HMEM.out (decide_eq_true hs))
        have d1 : decide ((sumG rs[k].xs : Int) > 1) = true := decide_eq_true (by omega)
        go_wp2_with fail
        go_ret
        exact ⟨ret_bool HF.out.symm, hb1⟩
      · have HT := Lib.hid (show (rs.take (k + 1)).any (fun r : Row => decide (1 < sumG r.xs)) = false from any_take_false HN.out hlt (decide_eq_false hs))
        have d1 : decide ((sumG rs[k].xs : Int) > 1) = false := decide_eq_false (by omega)
        have d2 : sumG rs[k].xs ≤ 1 := by omega
        go_wp2_with fail
        go_roundw
        case rel => exact ⟨k + 1, by omega, by go_num, HT, hb1⟩
        case measure => simp [intOf]; omega
    · have HG := Lib.hid (sc_good (X := rs.map Row.xs) (by have := HN.out; rw [List.take_of_length_le hge, any_rows rs (fun p => decide (1 < sumG p))] at this; exact this))
      go_wp2_with fail
      (with_reducible refine (basis_sb A c rs wr _ (h.next hb) rfl).mono ?_)
      rintro e w1 ⟨rfl, hb1⟩
      go_wp2_with fail
      go_ret
      exact ⟨ret_bool (by rw [HG.out]), hb.trans (hb1.mono hb.size)⟩
end Go.Proofs.Ytmkaelefljjamaa
