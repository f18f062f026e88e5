/- Contracts of OverlapsOf, IsLoose, CountRuns. -/
import Derived.Test.YthipikllgpnlhaaQ1
import Derived.Test.YthipikllgpnlhaaP3
import Derived.Deep.RegionHeld3
namespace Go.Proofs.Ythipikllgpnlhaa
set_option maxRecDepth 100000
open Go Go.RowKit

theorem In.own {w : World} {base e c : Nat} {A : Option Addr} {xs : List Int} (h : w.ownsRow base e 1 (.slice A xs.length c) xs.length (xs.map (Value.int .i64))) (hl : xs.length ≤ 1048576) : In w A c xs :=
  ⟨hl, (own_caps h).1, Rd.of_own h⟩
theorem sizeI (w : World) : (sizeOf (Try.prog.elem 24)).run Try.prog w = .ok 1 w := by kernel_rfl

def ovH (xs : List Int) (k : Nat) : Bool := decide (patL (xs.take k) = patL (xs.drop (xs.length - k)))
def ovTo (xs : List Int) (k : Nat) : List Int := ((List.range k).filter fun i => decide (1 ≤ i) && ovH xs i).map fun i : Nat => (i : Int)
theorem ovTo_succ (xs : List Int) (k : Nat) (h : 1 ≤ k) : ovTo xs (k + 1) = if ovH xs k = true then ovTo xs k ++ [(k : Int)] else ovTo xs k := by
  unfold ovTo
  rw [List.range_succ, List.filter_append]
  have : decide (1 ≤ k) = true := by simpa using h
  by_cases hk : ovH xs k = true <;> simp [hk, h]
theorem ovTo_length (xs : List Int) (k : Nat) : (ovTo xs k).length ≤ k := by
  unfold ovTo
  rw [List.length_map]
  exact Nat.le_trans (List.length_filter_le _ _) (by simp)
def ovG (xs : List Int) : List Int := if permB xs = true then ovTo xs xs.length else []
theorem ovG_length (xs : List Int) : (ovG xs).length ≤ 8 := by
  unfold ovG
  split
  · rename_i h
    have := ovTo_length xs xs.length
    have := (permB_true h).1
    omega
  · simp

set_option maxHeartbeats 1600000 in
theorem overlaps_impl (A : Option Addr) (c : Nat) (xs : List Int) (w : World) (h : In w A c xs) :
    Calls Try.prog 51 #[.slice A xs.length c] w (Ret (Value.int .i64) 3 w (ovG xs)) := by
  obtain ⟨i0, hi, hz0, hz1, hz2⟩ := info_parts infoI
  by_cases hp : permB xs = true
  · have HG := Lib.hid (show ovG xs = ovTo xs xs.length by rw [ovG, if_pos hp])
    have HP := Lib.hid hp
    have h8 := (permB_true hp).1
    have hcap := h.cap
    clear hp
    go_enter Try.func51, Try.ntmps51
    go_wp2_with fail
    refine (isPerm_impl _ _ _ _ h).mono ?_
    rintro e w1 ⟨rfl, hb1⟩
    rw [HP.out]
    have hsz1 := hb1.size
    go_wp2_with fail
    have hown0 : (w1.alloc (.cells #[] 3)).ownsRow w.heap.size 3 1 (.slice (some ⟨w1.heap.size, 0, none⟩) 0 0) (ovTo xs 1).length ((ovTo xs 1).map (Value.int .i64)) := World.ownsRow_lit w1 #[] 0 hsz1 (by unfold maxLen; omega) rfl
    have hb2 := hb1.alloc hsz1 (.cells #[] 3)
    go_loopw [3, 4] (fun v i wr => ∃ (k : Nat) (A' : Option Addr) (c' : Nat), 1 ≤ k ∧ (k ≤ xs.length ∨ k = 1) ∧ i = .int .i64 k ∧ v = .slice A' (ovTo xs k).length c' ∧ wr.ownsRow w.heap.size 3 1 (.slice A' (ovTo xs k).length c') (ovTo xs k).length ((ovTo xs k).map (Value.int .i64)) ∧ Below w.heap.size w wr) (fun _ i _ => xs.length - (intOf i).toNat)
    case atStart => exact ⟨1, _, _, Nat.le_refl _, .inr rfl, rfl, rfl, hown0, hb2⟩
    case round =>
      clear hown0 hb2
      obtain ⟨k, A', c', hk1, hk, rfl, rfl, hown, hb⟩ := hrel
      have HK := Lib.hid hk
      have hpl := ovTo_length xs k
      have hIn := h.next hb
      clear hk
      by_cases hlt : k < xs.length
      · have hd1 : decide ((k : Int) < (xs.length : Int)) = true := by simp; omega
        obtain ⟨wp, rfl⟩ : ∃ wp : World, wp = wr := ⟨_, rfl⟩
        have hxr := hIn.rd
        have HS0 := Lib.hid (ovTo_succ xs k hk1)
        have hsl1 := fun w => run_slice_h (P := Try.prog) w 24 A xs.length c Try.underlying24 .i64 k (by omega) (by omega)
        have hsl2 := fun w => run_cut (P := Try.prog) (t := 24) Try.underlying24 sizeI A xs.length c (xs.length - k) ((xs.length : Int) - (k : Int)) (by omega) (by omega) w
        have e1 : IntKind.i64.wrap ((xs.length : Int) - (k : Int)) = (xs.length : Int) - (k : Int) := IntWalk.i64_in _ (by omega)
        have hr1 : Rd (Value.int .i64) wp.drew wp.drew.heap.size A (xs.take k) := hxr.take k
        have hk20 : k ≤ 1048576 := by omega
        have hr2 : Rd (Value.int .i64) wp.drew wp.drew.heap.size (cutA A c (xs.length - k)) (xs.drop (xs.length - k)) := hxr.cut (by omega) hcap
        have HL2 := Lib.hid (List.length_drop (i := xs.length - k) (l := xs))
        have hk21 : xs.length - (xs.length - k) ≤ 1048576 := by omega
        have HLp : (patL (xs.take k)).length ≤ 4611686018427387904 := by rw [patL_length, List.length_take]; omega
        have HL1 := Lib.hid (show (xs.take k).length = k by simp; omega)
        have e3 : 0 ≤ (xs.length : Int) - (k : Int) := by omega
        have e4 : (xs.length : Int) - (k : Int) ≤ (xs.length : Int) := by omega
        by_cases hH : patL (xs.take k) = patL (xs.drop (xs.length - k))
        · have HQ := Lib.hid (show decide (patL (xs.take k) = patL (xs.drop (xs.length - k))) = true by simpa using hH)
          have HS := Lib.hid (show ovTo xs (k + 1) = ovTo xs k ++ [(k : Int)] by rw [HS0.out, if_pos (show ovH xs k = true from HQ.out)])
          clear hH
          go_wp2_with fail
          go_region_held3 (fun _ => True) (trivial) ((first | (go_at_call 106; (with_reducible refine (pattern_impl A c k (xs.take k) _ HL1.out hk20 hr1).mono ?_); rintro e wq ⟨T1, t1, rfl, _, _, o1, b1⟩) | (go_at_call 106; (with_reducible refine (pattern_impl _ _ _ (xs.drop (xs.length - k)) _ HL2.out hk21 (hr2.next b1)).mono ?_); rintro e wq2 ⟨T2, t2, rfl, _, _, o2, b2⟩) | (go_at_call 105; (with_reducible refine (equal_b _ _ _ _ _ _ (patL (xs.take k)) (patL (xs.drop (xs.length - k))) _ true rfl rfl HLp ((Rd.of_own o1).next b2) (Rd.of_own o2) HQ.out).mono ?_); rintro e wr ⟨rfl, d3⟩)))
          have hb0 : Below w.heap.size w wp.drew := below_dr hb (Dr.of _ 1)
          have hszp : w.heap.size ≤ wp.drew.heap.size := hb0.size
          have hb := below_dr ((hb0.trans (b1.mono hszp)).trans (b2.mono (Nat.le_trans hszp b1.size))) d3
          have hown := d3.own (own_below (own_below (show wp.drew.ownsRow w.heap.size 3 1 (.slice A' (ovTo xs k).length c') (ovTo xs k).length ((ovTo xs k).map (Value.int .i64)) from hown) b1) b2)
          have hsz : w.heap.size ≤ wr.heap.size := hb.size
          clear b1 b2 d3 o1 o2 hb0 hszp hr1 hr2 hsl1 hsl2 hxr
          go_wp2_with (at_builtin; refine wpList_append_own _ rfl _ _ 24 rfl (w.heap.size) 3 i0 (.int .i64 0) 1 8 Try.underlying24 hi hz0 hz1 hz2 rfl (by decide) _ _ _ rfl (World.ownsRow.alloc hown _) ⟨wr.heap.size, 0, none⟩ 1 1 [.int .i64 ((k : Int))] rfl rfl (cell_one_new _ _ _) (by intro u hu; simp at hu; subst hu; rfl) (by unfold maxLen; omega) (by omega) (by simp; omega) ?_; intro v1 w1 hown1 hgrow1 _)
          have hb1 := (hb.alloc hsz (Obj.cells #[Value.int .i64 (k : Int)] 3)).grown hgrow1 (by simp; omega) (by intro g hg; exact ((hown.lt g hg).1))
          have hS2 : w1.ownsRow w.heap.size 3 1 v1 (ovTo xs (k + 1)).length ((ovTo xs (k + 1)).map (Value.int .i64)) := by rw [HS.out]; simpa using hown1
          obtain ⟨A1, cc, rfl, _, _⟩ := own_shape hS2
          have hH1 := Lib.hid hS2
          have hH2 := Lib.hid hb1
          clear hS2 hown1 hgrow1 hb1 hown hb
          go_wp2
          go_roundw
          case rel => exact ⟨k + 1, A1, cc, by omega, by omega, by go_num, rfl, hH1.out, hH2.out⟩
          case measure => simp [intOf]; omega
        · have HQ := Lib.hid (show decide (patL (xs.take k) = patL (xs.drop (xs.length - k))) = false by simpa using hH)
          have HS := Lib.hid (show ovTo xs (k + 1) = ovTo xs k by rw [HS0.out, if_neg (by rw [show ovH xs k = false from HQ.out]; simp)])
          clear hH
          go_wp2_with fail
          go_region_held3 (fun _ => True) (trivial) ((first | (go_at_call 106; (with_reducible refine (pattern_impl A c k (xs.take k) _ HL1.out hk20 hr1).mono ?_); rintro e wq ⟨T1, t1, rfl, _, _, o1, b1⟩) | (go_at_call 106; (with_reducible refine (pattern_impl _ _ _ (xs.drop (xs.length - k)) _ HL2.out hk21 (hr2.next b1)).mono ?_); rintro e wq2 ⟨T2, t2, rfl, _, _, o2, b2⟩) | (go_at_call 105; (with_reducible refine (equal_b _ _ _ _ _ _ (patL (xs.take k)) (patL (xs.drop (xs.length - k))) _ false rfl rfl HLp ((Rd.of_own o1).next b2) (Rd.of_own o2) HQ.out).mono ?_); rintro e wr ⟨rfl, d3⟩)))
          have hb0 : Below w.heap.size w wp.drew := below_dr hb (Dr.of _ 1)
          have hszp : w.heap.size ≤ wp.drew.heap.size := hb0.size
          have hb := below_dr ((hb0.trans (b1.mono hszp)).trans (b2.mono (Nat.le_trans hszp b1.size))) d3
          have hown := d3.own (own_below (own_below (show wp.drew.ownsRow w.heap.size 3 1 (.slice A' (ovTo xs k).length c') (ovTo xs k).length ((ovTo xs k).map (Value.int .i64)) from hown) b1) b2)
          have hsz : w.heap.size ≤ wr.heap.size := hb.size
          clear b1 b2 d3 o1 o2 hb0 hszp hr1 hr2 hsl1 hsl2 hxr
          go_wp2
          go_roundw
          case rel => exact ⟨k + 1, A', c', by omega, by omega, by go_num, by rw [HS.out], by rw [HS.out]; exact hown, hb⟩
          case measure => simp [intOf]; omega
      · have hd1 : decide ((k : Int) < (xs.length : Int)) = false := by rw [decide_eq_false_iff_not]; omega
        have HE := Lib.hid (show ovTo xs xs.length = ovTo xs k by
          rcases HK.out with h | h
          · rw [show xs.length = k by omega]
          · subst h
            rcases Nat.eq_zero_or_pos xs.length with h | h
            · rw [h]; rfl
            · rw [show xs.length = 1 by omega])
        go_wp2_with fail
        go_ret
        rw [HG.out, HE.out]
        exact ⟨A', c', rfl, (own_caps hown).1, (own_caps hown).2, hown, hb⟩
  · have hpf : permB xs = false := by simpa using hp
    have HG := Lib.hid (show ovG xs = [] by rw [ovG, if_neg hp])
    go_enter Try.func51, Try.ntmps51
    go_wp2_with fail
    refine (isPerm_impl _ _ _ _ h).mono ?_
    rintro e w1 ⟨rfl, hb1⟩
    rw [hpf]
    clear hp hpf
    go_wp2_with fail
    go_ret
    rw [HG.out]
    exact ⟨none, 0, rfl, Nat.le_refl _, Nat.zero_le _, World.ownsRow_nil _ _ _ _, hb1⟩

set_option maxHeartbeats 1600000 in
theorem overlaps_spec (A : Option Addr) (c : Nat) (xs : List Int) (w : World) (h : In w A c xs) :
    Calls Try.prog 59 #[.slice A xs.length c] w (Ret (Value.int .i64) 3 w (ovG xs)) := by
  obtain ⟨i0, hi, hz0, hz1, hz2⟩ := info_parts infoI
  by_cases hp : permB xs = true
  · have HG := Lib.hid (show ovG xs = ovTo xs xs.length by rw [ovG, if_pos hp])
    have HP := Lib.hid hp
    have h8 := (permB_true hp).1
    have hcap := h.cap
    clear hp
    go_enter Try.func59, Try.ntmps59
    go_wp2_with fail
    have hown0 : (w.alloc (.cells #[] 3)).ownsRow w.heap.size 3 1 (.slice (some ⟨w.heap.size, 0, none⟩) 0 0) (ovTo xs 1).length ((ovTo xs 1).map (Value.int .i64)) := World.ownsRow_lit w #[] 0 (Nat.le_refl _) (by unfold maxLen; omega) rfl
    have hb2 := (Below.refl w.heap.size w).alloc (Nat.le_refl _) (.cells #[] 3)
    go_loopw [3, 4] (fun v i wr => ∃ (k : Nat) (A' : Option Addr) (c' : Nat), 1 ≤ k ∧ (k ≤ xs.length ∨ k = 1) ∧ i = .int .i64 k ∧ v = .slice A' (ovTo xs k).length c' ∧ wr.ownsRow w.heap.size 3 1 (.slice A' (ovTo xs k).length c') (ovTo xs k).length ((ovTo xs k).map (Value.int .i64)) ∧ Below w.heap.size w wr) (fun _ i _ => xs.length - (intOf i).toNat)
    case atStart => exact ⟨1, _, _, Nat.le_refl _, .inr rfl, rfl, rfl, hown0, hb2⟩
    case round =>
      clear hown0 hb2
      obtain ⟨k, A', c', hk1, hk, rfl, rfl, hown, hb⟩ := hrel
      have HK := Lib.hid hk
      have hpl := ovTo_length xs k
      have hIn := h.next hb
      clear hk
      by_cases hlt : k < xs.length
      · have hd1 : decide ((k : Int) < (xs.length : Int)) = true := by simp; omega
        go_wp2_with fail
        refine (isPerm_spec _ _ _ _ hIn).mono ?_
        rintro e wp ⟨rfl, hd⟩
        rw [HP.out]
        have hown := hd.own hown
        have hb := below_dr hb hd
        have hIn := hIn.dr hd
        have hxr := hIn.rd
        have HS0 := Lib.hid (ovTo_succ xs k hk1)
        have hsl1 := fun w => run_slice_h (P := Try.prog) w 24 A xs.length c Try.underlying24 .i64 k (by omega) (by omega)
        have hsl2 := fun w => run_cut (P := Try.prog) (t := 24) Try.underlying24 sizeI A xs.length c (xs.length - k) ((xs.length : Int) - (k : Int)) (by omega) (by omega) w
        have e1 : IntKind.i64.wrap ((xs.length : Int) - (k : Int)) = (xs.length : Int) - (k : Int) := IntWalk.i64_in _ (by omega)
        have hr1 : Rd (Value.int .i64) wp.drew wp.drew.heap.size A (xs.take k) := hxr.take k
        have hk20 : k ≤ 1048576 := by omega
        have hr2 : Rd (Value.int .i64) wp.drew wp.drew.heap.size (cutA A c (xs.length - k)) (xs.drop (xs.length - k)) := hxr.cut (by omega) hcap
        have HL2 := Lib.hid (List.length_drop (i := xs.length - k) (l := xs))
        have hk21 : xs.length - (xs.length - k) ≤ 1048576 := by omega
        have HLp : (patL (xs.take k)).length ≤ 4611686018427387904 := by rw [patL_length, List.length_take]; omega
        have HL1 := Lib.hid (show (xs.take k).length = k by simp; omega)
        have e3 : 0 ≤ (xs.length : Int) - (k : Int) := by omega
        have e4 : (xs.length : Int) - (k : Int) ≤ (xs.length : Int) := by omega
        by_cases hH : patL (xs.take k) = patL (xs.drop (xs.length - k))
        · have HQ := Lib.hid (show decide (patL (xs.take k) = patL (xs.drop (xs.length - k))) = true by simpa using hH)
          have HS := Lib.hid (show ovTo xs (k + 1) = ovTo xs k ++ [(k : Int)] by rw [HS0.out, if_pos (show ovH xs k = true from HQ.out)])
          clear hH
          go_wp2_with fail
          go_region_held3 (fun _ => True) (trivial) ((first | (go_at_call 111; (with_reducible refine (pattern_spec A c k (xs.take k) _ HL1.out hk20 hr1).mono ?_); rintro e wq ⟨T1, t1, rfl, _, _, o1, b1⟩) | (go_at_call 111; (with_reducible refine (pattern_spec _ _ _ (xs.drop (xs.length - k)) _ HL2.out hk21 (hr2.next b1)).mono ?_); rintro e wq2 ⟨T2, t2, rfl, _, _, o2, b2⟩) | (go_at_call 110; (with_reducible refine (l2Same_b _ _ _ _ _ _ (patL (xs.take k)) (patL (xs.drop (xs.length - k))) _ true rfl rfl HLp ((Rd.of_own o1).next b2) (Rd.of_own o2) HQ.out).mono ?_); rintro e wr ⟨rfl, d3⟩)))
          have hb0 : Below w.heap.size w wp.drew := below_dr hb (Dr.of _ 1)
          have hszp : w.heap.size ≤ wp.drew.heap.size := hb0.size
          have hb := below_dr ((hb0.trans (b1.mono hszp)).trans (b2.mono (Nat.le_trans hszp b1.size))) d3
          have hown := d3.own (own_below (own_below (show wp.drew.ownsRow w.heap.size 3 1 (.slice A' (ovTo xs k).length c') (ovTo xs k).length ((ovTo xs k).map (Value.int .i64)) from hown) b1) b2)
          have hsz : w.heap.size ≤ wr.heap.size := hb.size
          clear b1 b2 d3 o1 o2 hb0 hszp hr1 hr2 hsl1 hsl2 hxr
          go_wp2_with (at_builtin; refine wpList_append_own _ rfl _ _ 24 rfl (w.heap.size) 3 i0 (.int .i64 0) 1 8 Try.underlying24 hi hz0 hz1 hz2 rfl (by decide) _ _ _ rfl (World.ownsRow.alloc hown _) ⟨wr.heap.size, 0, none⟩ 1 1 [.int .i64 ((k : Int))] rfl rfl (cell_one_new _ _ _) (by intro u hu; simp at hu; subst hu; rfl) (by unfold maxLen; omega) (by omega) (by simp; omega) ?_; intro v1 w1 hown1 hgrow1 _)
          have hb1 := (hb.alloc hsz (Obj.cells #[Value.int .i64 (k : Int)] 3)).grown hgrow1 (by simp; omega) (by intro g hg; exact ((hown.lt g hg).1))
          have hS2 : w1.ownsRow w.heap.size 3 1 v1 (ovTo xs (k + 1)).length ((ovTo xs (k + 1)).map (Value.int .i64)) := by rw [HS.out]; simpa using hown1
          obtain ⟨A1, cc, rfl, _, _⟩ := own_shape hS2
          have hH1 := Lib.hid hS2
          have hH2 := Lib.hid hb1
          clear hS2 hown1 hgrow1 hb1 hown hb
          go_wp2
          go_roundw
          case rel => exact ⟨k + 1, A1, cc, by omega, by omega, by go_num, rfl, hH1.out, hH2.out⟩
          case measure => simp [intOf]; omega
        · have HQ := Lib.hid (show decide (patL (xs.take k) = patL (xs.drop (xs.length - k))) = false by simpa using hH)
          have HS := Lib.hid (show ovTo xs (k + 1) = ovTo xs k by rw [HS0.out, if_neg (by rw [show ovH xs k = false from HQ.out]; simp)])
          clear hH
          go_wp2_with fail
          go_region_held3 (fun _ => True) (trivial) ((first | (go_at_call 111; (with_reducible refine (pattern_spec A c k (xs.take k) _ HL1.out hk20 hr1).mono ?_); rintro e wq ⟨T1, t1, rfl, _, _, o1, b1⟩) | (go_at_call 111; (with_reducible refine (pattern_spec _ _ _ (xs.drop (xs.length - k)) _ HL2.out hk21 (hr2.next b1)).mono ?_); rintro e wq2 ⟨T2, t2, rfl, _, _, o2, b2⟩) | (go_at_call 110; (with_reducible refine (l2Same_b _ _ _ _ _ _ (patL (xs.take k)) (patL (xs.drop (xs.length - k))) _ false rfl rfl HLp ((Rd.of_own o1).next b2) (Rd.of_own o2) HQ.out).mono ?_); rintro e wr ⟨rfl, d3⟩)))
          have hb0 : Below w.heap.size w wp.drew := below_dr hb (Dr.of _ 1)
          have hszp : w.heap.size ≤ wp.drew.heap.size := hb0.size
          have hb := below_dr ((hb0.trans (b1.mono hszp)).trans (b2.mono (Nat.le_trans hszp b1.size))) d3
          have hown := d3.own (own_below (own_below (show wp.drew.ownsRow w.heap.size 3 1 (.slice A' (ovTo xs k).length c') (ovTo xs k).length ((ovTo xs k).map (Value.int .i64)) from hown) b1) b2)
          have hsz : w.heap.size ≤ wr.heap.size := hb.size
          clear b1 b2 d3 o1 o2 hb0 hszp hr1 hr2 hsl1 hsl2 hxr
          go_wp2
          go_roundw
          case rel => exact ⟨k + 1, A', c', by omega, by omega, by go_num, by rw [HS.out], by rw [HS.out]; exact hown, hb⟩
          case measure => simp [intOf]; omega
      · have hd1 : decide ((k : Int) < (xs.length : Int)) = false := by rw [decide_eq_false_iff_not]; omega
        have HE := Lib.hid (show ovTo xs xs.length = ovTo xs k by
          rcases HK.out with h | h
          · rw [show xs.length = k by omega]
          · subst h
            rcases Nat.eq_zero_or_pos xs.length with h | h
            · rw [h]; rfl
            · rw [show xs.length = 1 by omega])
        go_wp2_with fail
        go_ret
        rw [HG.out, HE.out]
        exact ⟨A', c', rfl, (own_caps hown).1, (own_caps hown).2, hown, hb⟩
  · have hpf : permB xs = false := by simpa using hp
    have HG := Lib.hid (show ovG xs = [] by rw [ovG, if_neg hp])
    go_enter Try.func59, Try.ntmps59
    go_wp2_with fail
    have hb1 := (Below.refl w.heap.size w).alloc (Nat.le_refl _) (.cells #[] 3)
    have h1 := h.next hb1
    refine wp_loop_rounds 1 ?_
    rw [rounds_succ]
    by_cases hlt : 1 < xs.length
    · have hd1 : decide ((1 : Int) < (xs.length : Int)) = true := by simp; omega
      go_wp2_with fail
      refine (isPerm_spec _ _ _ _ h1).mono ?_
      rintro e w1 ⟨rfl, hd⟩
      rw [hpf]
      clear hp hpf
      go_wp2_with fail
      go_ret
      rw [HG.out]
      exact ⟨_, _, rfl, Nat.le_refl _, Nat.zero_le _, hd.own (World.ownsRow_lit w #[] 0 (Nat.le_refl _) (Nat.zero_le _) rfl), below_dr hb1 hd⟩
    · have hd1 : decide ((1 : Int) < (xs.length : Int)) = false := by rw [decide_eq_false_iff_not]; omega
      go_wp2_with fail
      go_ret
      rw [HG.out]
      exact ⟨_, _, rfl, Nat.le_refl _, Nat.zero_le _, World.ownsRow_lit w #[] 0 (Nat.le_refl _) (Nat.zero_le _) rfl, hb1⟩


theorem loose_impl (A : Option Addr) (c : Nat) (xs : List Int) (w : World) (h : In w A c xs) :
    Calls Try.prog 66 #[.slice A xs.length c] w (Rb w (.bool (decide ((ovG xs).length = 1)))) := by
  have hL := ovG_length xs
  go_enter Try.func66, Try.ntmps66
  go_wp2_with fail
  refine (overlaps_impl _ _ _ _ h).mono ?_
  rintro e w1 ⟨T, t, rfl, _, _, _, hb⟩
  have HB : (((ovG xs).length : Int) == 1) = decide ((ovG xs).length = 1) := by rw [Bool.eq_iff_iff]; simp; omega
  have HB2 := Lib.hid HB
  clear HB
  go_wp2_with fail
  go_ret
  exact ⟨ret_bool HB2.out, hb⟩


def runH (p q : List Int) (i : Nat) : Bool := decide (patL ((p.drop i).take q.length) = q)
def runsTo (p q : List Int) (k : Nat) : Nat := ((List.range k).filter (runH p q)).length
theorem runsTo_succ (p q : List Int) (k : Nat) : runsTo p q (k + 1) = runsTo p q k + (if runH p q k = true then 1 else 0) := by
  unfold runsTo
  rw [List.range_succ, List.filter_append, List.length_append]
  congr 1
  by_cases h : runH p q k = true <;> simp [h]
theorem runsTo_le (p q : List Int) (k : Nat) : runsTo p q k ≤ k := Nat.le_trans (List.length_filter_le _ _) (by simp)
def runsN (p q : List Int) : Nat := runsTo p q (p.length + 1 - q.length)
def runsG (p q : List Int) : Int := if permB p = true ∧ permB q = true ∧ q.length ≠ 0 then (runsN p q : Int) else -1

set_option maxRecDepth 100000 in
set_option maxHeartbeats 1000000 in
theorem countRuns_impl (A B : Option Addr) (c d : Nat) (p q : List Int) (w1 : World) (hp1 : In w1 A c p) (hq1 : In w1 B d q) (h8 : p.length ≤ 8) (hq8 : q.length ≤ 8) (hq0 : 0 < q.length) :
    Calls Try.prog 109 #[.slice A p.length c, .slice B q.length d] w1 (Rb w1 (.int .i64 (runsN p q : Int))) := by
  have hcap := hp1.cap
  · go_enter Try.func109, Try.ntmps109
    go_wp2_with fail
    go_loopw [5, 6] (fun s i wr => ∃ k : Nat, k ≤ p.length + 1 - q.length ∧ i = .int .i64 k ∧ s = .int .i64 (runsTo p q k : Int) ∧ Below w1.heap.size w1 wr) (fun _ i _ => p.length + 1 - q.length - (intOf i).toNat)
    case atStart => exact ⟨0, Nat.zero_le _, rfl, rfl, Below.refl _ _⟩
    case round =>
      obtain ⟨k, hk, rfl, rfl, hb⟩ := hrel
      have hle := runsTo_le p q k
      rcases Nat.lt_or_ge k (p.length + 1 - q.length) with hlt | hge
      · have hpr := (hp1.next hb).rd
        have hqr := (hq1.next hb).rd
        have hsl := fun w => run_cut2 (P := Try.prog) (t := 24) Try.underlying24 sizeI A p.length c k (k + q.length) (k : Int) ((k : Int) + (q.length : Int)) rfl (by omega) (by omega) (by omega) w
        have hr1 : Rd (Value.int .i64) wr wr.heap.size (cutA A c k) ((p.drop k).take q.length) := (hpr.cut (by omega) hcap).take _
        have HL1 := Lib.hid (show ((p.drop k).take q.length).length = q.length by simp; omega)
        have hk20 : q.length ≤ 1048576 := by omega
        have HLp : (patL ((p.drop k).take q.length)).length ≤ 4611686018427387904 := by rw [patL_length, List.length_take]; omega
        have HS0 := Lib.hid (runsTo_succ p q k)
        by_cases hH : runH p q k = true
        · have HQ := Lib.hid (show decide (patL ((p.drop k).take q.length) = q) = true from hH)
          have HS := Lib.hid (show runsTo p q (k + 1) = runsTo p q k + 1 by rw [HS0.out, if_pos hH])
          clear hH
          go_wp2_with fail
          (with_reducible refine (pattern_impl _ _ _ ((p.drop k).take q.length) _ HL1.out hk20 hr1).mono ?_)
          rintro e wq ⟨T1, t1, rfl, _, _, o1, b1⟩
          go_wp2_with fail
          (with_reducible refine (equal_b _ _ _ _ _ _ (patL ((p.drop k).take q.length)) q _ true rfl rfl HLp (Rd.of_own o1) (hqr.next b1) HQ.out).mono ?_)
          rintro e wr2 ⟨rfl, d3⟩
          have hb2 := Lib.hid (below_dr (hb.trans (b1.mono hb.size)) d3)
          clear b1 d3 o1 hr1 hsl hpr hqr hb
          go_wp2_with fail
          go_roundw
          case rel => exact ⟨k + 1, by omega, by go_num, by rw [HS.out]; go_num, hb2.out⟩
          case measure => simp [intOf]; omega
        · have HQ := Lib.hid (show decide (patL ((p.drop k).take q.length) = q) = false from Bool.eq_false_iff.2 hH)
          have HS := Lib.hid (show runsTo p q (k + 1) = runsTo p q k by rw [HS0.out, if_neg hH]; rfl)
          clear hH
          go_wp2_with fail
          (with_reducible refine (pattern_impl _ _ _ ((p.drop k).take q.length) _ HL1.out hk20 hr1).mono ?_)
          rintro e wq ⟨T1, t1, rfl, _, _, o1, b1⟩
          go_wp2_with fail
          (with_reducible refine (equal_b _ _ _ _ _ _ (patL ((p.drop k).take q.length)) q _ false rfl rfl HLp (Rd.of_own o1) (hqr.next b1) HQ.out).mono ?_)
          rintro e wr2 ⟨rfl, d3⟩
          have hb2 := Lib.hid (below_dr (hb.trans (b1.mono hb.size)) d3)
          clear b1 d3 o1 hr1 hsl hpr hqr hb
          go_wp2_with fail
          go_roundw
          case rel => exact ⟨k + 1, by omega, by go_num, by rw [HS.out], hb2.out⟩
          case measure => simp [intOf]; omega
      · obtain rfl : k = p.length + 1 - q.length := by omega
        go_wp2_with fail
        go_ret
        exact ⟨rfl, hb⟩

set_option maxHeartbeats 400000 in
theorem runs_impl (A : Option Addr) (c : Nat) (p : List Int) (B : Option Addr) (d : Nat) (q : List Int) (w : World) (hp1 : In w A c p) (hq1 : In w B d q) :
    Calls Try.prog 55 #[.slice A p.length c, .slice B q.length d] w (Rb w (.int .i64 (runsG p q))) := by
  by_cases hp : permB p = true
  · have h8 := (permB_true hp).1
    by_cases hq : permB q = true
    · have hq8 := (permB_true hq).1
      by_cases h0 : q.length = 0
      · have HG := Lib.hid (show runsG p q = -1 by rw [runsG, if_neg (fun h => h.2.2 h0)])
        have hz : (((q.length : Nat) : Int) == 0) = true := by simp [h0]
        clear h0
        go_enter Try.func55, Try.ntmps55
        go_wp2_with fail
        refine (isPerm_impl _ _ _ _ hp1).mono ?_
        rintro e w1 ⟨rfl, hb1⟩
        rw [hp]
        clear hp
        go_wp2_with fail
        refine (isPerm_impl _ _ _ _ (hq1.next hb1)).mono ?_
        rintro e w2 ⟨rfl, hb2⟩
        rw [hq]
        clear hq
        go_wp2_with fail
        go_ret
        exact ⟨ret_int HG.out.symm, hb1.trans (hb2.mono hb1.size)⟩
      · have HG := Lib.hid (show runsG p q = (runsN p q : Int) by rw [runsG, if_pos ⟨hp, hq, h0⟩])
        have hz : (((q.length : Nat) : Int) == 0) = false := by simp; exact fun h => h0 (by rw [h]; rfl)
        have h0' : 0 < q.length := by omega
        clear h0
        go_enter Try.func55, Try.ntmps55
        go_wp2_with fail
        refine (isPerm_impl _ _ _ _ hp1).mono ?_
        rintro e w1 ⟨rfl, hb1⟩
        rw [hp]
        clear hp
        go_wp2_with fail
        refine (isPerm_impl _ _ _ _ (hq1.next hb1)).mono ?_
        rintro e w2 ⟨rfl, hb2⟩
        rw [hq]
        clear hq
        go_wp2_with fail
        refine (countRuns_impl _ _ _ _ _ _ _ ((hp1.next hb1).next hb2) ((hq1.next hb1).next hb2) h8 hq8 h0').mono ?_
        rintro e w3 ⟨rfl, hb3⟩
        go_wp2_with fail
        go_ret
        exact ⟨ret_int HG.out.symm, (hb1.trans (hb2.mono hb1.size)).trans (hb3.mono (Nat.le_trans hb1.size hb2.size))⟩
    · have hqf : permB q = false := by simpa using hq
      have HG := Lib.hid (show runsG p q = -1 by rw [runsG, if_neg (fun h => hq h.2.1)])
      clear hq
      go_enter Try.func55, Try.ntmps55
      go_wp2_with fail
      refine (isPerm_impl _ _ _ _ hp1).mono ?_
      rintro e w1 ⟨rfl, hb1⟩
      rw [hp]
      clear hp
      go_wp2_with fail
      refine (isPerm_impl _ _ _ _ (hq1.next hb1)).mono ?_
      rintro e w2 ⟨rfl, hb2⟩
      rw [hqf]
      clear hqf
      go_wp2_with fail
      go_ret
      exact ⟨ret_int HG.out.symm, hb1.trans (hb2.mono hb1.size)⟩
  · have hpf : permB p = false := by simpa using hp
    have HG := Lib.hid (show runsG p q = -1 by rw [runsG, if_neg (fun h => hp h.1)])
    clear hp
    go_enter Try.func55, Try.ntmps55
    go_wp2_with fail
    refine (isPerm_impl _ _ _ _ hp1).mono ?_
    rintro e w1 ⟨rfl, hb1⟩
    rw [hpf]
    clear hpf
    go_wp2_with fail
    go_ret
    exact ⟨ret_int HG.out.symm, hb1⟩

set_option maxRecDepth 100000 in
set_option maxHeartbeats 1000000 in
theorem runs_spec (A : Option Addr) (c : Nat) (p : List Int) (B : Option Addr) (d : Nat) (q : List Int) (w : World) (hp1 : In w A c p) (hq1 : In w B d q) :
    Calls Try.prog 56 #[.slice A p.length c, .slice B q.length d] w (Rb w (.int .i64 (runsG p q))) := by
  have hcap := hp1.cap
  by_cases hp : permB p = true
  · by_cases hq : permB q = true
    · have h8 := (permB_true hp).1
      have hq8 := (permB_true hq).1
      by_cases h0 : q.length = 0
      · have HG := Lib.hid (show runsG p q = -1 by rw [runsG, if_neg (fun h => h.2.2 h0)])
        have hz : (((q.length : Nat) : Int) == 0) = true := by simp [h0]
        clear h0
        go_enter Try.func56, Try.ntmps56
        go_wp2_with fail
        refine (isPerm_spec _ _ _ _ hp1).mono ?_
        rintro e wa ⟨rfl, da⟩
        rw [hp]
        clear hp
        go_wp2_with fail
        refine (isPerm_spec _ _ _ _ (hq1.dr da)).mono ?_
        rintro e w1 ⟨rfl, db⟩
        rw [hq]
        clear hq
        go_wp2_with fail
        go_ret
        exact ⟨ret_int HG.out.symm, below_dr (Below.refl _ _) (da.trans db)⟩
      · have HG := Lib.hid (show runsG p q = (runsN p q : Int) by rw [runsG, if_pos ⟨hp, hq, h0⟩])
        have hz : (((q.length : Nat) : Int) == 0) = false := by simp; exact fun h => h0 (by rw [h]; rfl)
        have hq0 : 0 < q.length := by omega
        clear h0
        go_enter Try.func56, Try.ntmps56
        go_wp2_with fail
        refine (isPerm_spec _ _ _ _ hp1).mono ?_
        rintro e wa ⟨rfl, da⟩
        rw [hp]
        clear hp
        go_wp2_with fail
        refine (isPerm_spec _ _ _ _ (hq1.dr da)).mono ?_
        rintro e w1 ⟨rfl, db⟩
        rw [hq]
        clear hq
        have hp1 := (hp1.dr da).dr db
        have hq1 := (hq1.dr da).dr db
        have HD := Lib.hid (below_dr (Below.refl w.heap.size w) (da.trans db))
        clear da db
        go_wp2_with fail
        go_loopw [5, 6] (fun s i wr => ∃ k : Nat, k ≤ p.length + 1 - q.length ∧ i = .int .i64 k ∧ s = .int .i64 (runsTo p q k : Int) ∧ Below w1.heap.size w1 wr) (fun _ i _ => p.length + 1 - q.length - (intOf i).toNat)
        case atStart => exact ⟨0, Nat.zero_le _, rfl, rfl, Below.refl _ _⟩
        case round =>
          obtain ⟨k, hk, rfl, rfl, hb⟩ := hrel
          have hle := runsTo_le p q k
          rcases Nat.lt_or_ge k (p.length + 1 - q.length) with hlt | hge
          · have hpr := (hp1.next hb).rd
            have hqr := (hq1.next hb).rd
            have hsl := fun w => run_cut2 (P := Try.prog) (t := 24) Try.underlying24 sizeI A p.length c k (k + q.length) (k : Int) ((k : Int) + (q.length : Int)) rfl (by omega) (by omega) (by omega) w
            have hr1 : Rd (Value.int .i64) wr wr.heap.size (cutA A c k) ((p.drop k).take q.length) := (hpr.cut (by omega) hcap).take _
            have HL1 := Lib.hid (show ((p.drop k).take q.length).length = q.length by simp; omega)
            have hk20 : q.length ≤ 1048576 := by omega
            have HLp : (patL ((p.drop k).take q.length)).length ≤ 4611686018427387904 := by rw [patL_length, List.length_take]; omega
            have HS0 := Lib.hid (runsTo_succ p q k)
            by_cases hH : runH p q k = true
            · have HQ := Lib.hid (show decide (patL ((p.drop k).take q.length) = q) = true from hH)
              have HS := Lib.hid (show runsTo p q (k + 1) = runsTo p q k + 1 by rw [HS0.out, if_pos hH])
              clear hH
              go_wp2_with fail
              (with_reducible refine (pattern_spec _ _ _ ((p.drop k).take q.length) _ HL1.out hk20 hr1).mono ?_)
              rintro e wq ⟨T1, t1, rfl, _, _, o1, b1⟩
              go_wp2_with fail
              (with_reducible refine (l2Same_b _ _ _ _ _ _ (patL ((p.drop k).take q.length)) q _ true rfl rfl HLp (Rd.of_own o1) (hqr.next b1) HQ.out).mono ?_)
              rintro e wr2 ⟨rfl, d3⟩
              have hb2 := Lib.hid (below_dr (hb.trans (b1.mono hb.size)) d3)
              clear b1 d3 o1 hr1 hsl hpr hqr hb
              go_wp2_with (go_at_call 91; refine (l1Bit_q _ _).mono ?_; rintro e w' ⟨rfl, rfl⟩)
              go_roundw
              case rel => exact ⟨k + 1, by omega, by go_num, by rw [HS.out]; go_num, hb2.out⟩
              case measure => simp [intOf]; omega
            · have HQ := Lib.hid (show decide (patL ((p.drop k).take q.length) = q) = false from Bool.eq_false_iff.2 hH)
              have HS := Lib.hid (show runsTo p q (k + 1) = runsTo p q k by rw [HS0.out, if_neg hH]; rfl)
              clear hH
              go_wp2_with fail
              (with_reducible refine (pattern_spec _ _ _ ((p.drop k).take q.length) _ HL1.out hk20 hr1).mono ?_)
              rintro e wq ⟨T1, t1, rfl, _, _, o1, b1⟩
              go_wp2_with fail
              (with_reducible refine (l2Same_b _ _ _ _ _ _ (patL ((p.drop k).take q.length)) q _ false rfl rfl HLp (Rd.of_own o1) (hqr.next b1) HQ.out).mono ?_)
              rintro e wr2 ⟨rfl, d3⟩
              have hb2 := Lib.hid (below_dr (hb.trans (b1.mono hb.size)) d3)
              clear b1 d3 o1 hr1 hsl hpr hqr hb
              go_wp2_with (go_at_call 91; refine (l1Bit_q _ _).mono ?_; rintro e w' ⟨rfl, rfl⟩)
              go_roundw
              case rel => exact ⟨k + 1, by omega, by go_num, by rw [HS.out], hb2.out⟩
              case measure => simp [intOf]; omega
          · obtain rfl : k = p.length + 1 - q.length := by omega
            go_wp2_with fail
            go_ret
            exact ⟨ret_int HG.out.symm, HD.out.trans (hb.mono HD.out.size)⟩
    · have hqf : permB q = false := by simpa using hq
      have HG := Lib.hid (show runsG p q = -1 by rw [runsG, if_neg (fun h => hq h.2.1)])
      clear hq
      go_enter Try.func56, Try.ntmps56
      go_wp2_with fail
      refine (isPerm_spec _ _ _ _ hp1).mono ?_
      rintro e wa ⟨rfl, da⟩
      rw [hp]
      clear hp
      go_wp2_with fail
      refine (isPerm_spec _ _ _ _ (hq1.dr da)).mono ?_
      rintro e w1 ⟨rfl, db⟩
      rw [hqf]
      clear hqf
      go_wp2_with fail
      go_ret
      exact ⟨ret_int HG.out.symm, below_dr (Below.refl _ _) (da.trans db)⟩
  · have hpf : permB p = false := by simpa using hp
    have HG := Lib.hid (show runsG p q = -1 by rw [runsG, if_neg (fun h => hp h.1)])
    clear hp
    go_enter Try.func56, Try.ntmps56
    go_wp2_with fail
    refine (isPerm_spec _ _ _ _ hp1).mono ?_
    rintro e wa ⟨rfl, da⟩
    rw [hpf]
    clear hpf
    go_wp2_with fail
    go_ret
    exact ⟨ret_int HG.out.symm, below_dr (Below.refl _ _) da⟩
end Go.Proofs.Ythipikllgpnlhaa