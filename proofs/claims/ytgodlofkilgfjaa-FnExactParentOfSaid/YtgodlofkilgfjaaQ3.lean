/- Contracts of without and ParentOf. -/
import Derived.Test.YtgodlofkilgfjaaM1
import Derived.Test.YtgodlofkilgfjaaQ2
import Derived.Test.YtgodlofkilgfjaaShelf
import Derived.Lib.OwnBridge
namespace Go.Proofs.Ytgodlofkilgfjaa
open Go Go.RowKit

/-- A call's result of two: a slice of the call's own, and a bool. -/
def Ret2 {α : Type} (f : α → Value) (e : TypeId) (w : World) (ys : List α) (b : Bool) (en : Ending) (w' : World) : Prop :=
  ∃ A c, en = .returned (.tuple #[.slice A ys.length c, .bool b]) ∧ ys.length ≤ c ∧ c ≤ maxLen ∧ w'.ownsRow w.heap.size e 1 (.slice A ys.length c) ys.length (ys.map f) ∧ Below w.heap.size w w'

open Go.Lib Go.Sort in
theorem delete_own (g n c i base : Nat) (xs : List Int) (w : World) (h : w.ownsRow base 3 1 (.slice (some ⟨g, 0, none⟩) n c) n (xs.map (Value.int .i64))) (hi : i < n) :
    Calls Try.prog 88 #[.slice (some ⟨g, 0, none⟩) n c, .int .i64 i, .int .i64 ((i : Int) + 1)] w fun e w' => e = .returned (.slice (some ⟨g, 0, none⟩) (n - 1) c) ∧
      w'.ownsRow base 3 1 (.slice (some ⟨g, 0, none⟩) (n - 1) c) (n - 1) ((cutAt xs i).map (Value.int .i64)) ∧ ∀ B w0, Below B w0 w → B ≤ g → Below B w0 w' := by
  obtain ⟨g', cap, he, _, _, hc1, hc2, hl, hH⟩ := holds_of_ownsRow h (by simp)
  simp only [Value.slice.injEq, Option.some.injEq, Addr.mk.injEq, and_true, true_and] at he
  obtain ⟨rfl, rfl⟩ := he
  subst hl
  have hcc : c ≤ 9223372036854775807 := by unfold maxLen at hc2; omega
  have hD := Try.slices_Delete_int g 0 c i (i + 1) xs w hH hc1 hcc (by omega) (by omega)
  rw [show i + 1 - i = 1 by omega, show ((i + 1 : Nat) : Int) = (i : Int) + 1 from rfl] at hD
  refine hD.mono ?_
  rintro e w' ⟨rfl, q, rfl⟩
  have hlen : (xs.take i ++ xs.drop (i + 1) ++ List.replicate 1 0).length = xs.length := by
    rw [List.length_append, List.length_append, List.length_take, List.length_drop, List.length_replicate]; omega
  refine ⟨rfl, ?_, fun B w0 hb hB => below_putRow hb hB⟩
  have := ownsRow_putRow (q := q) (k := xs.length - 1) h hlen (by omega)
  have he : (xs.take i ++ xs.drop (i + 1) ++ List.replicate 1 0).take (xs.length - 1) = cutAt xs i := by
    rw [List.take_append_of_le_length (by rw [List.length_append, List.length_take, List.length_drop]; omega), List.take_of_length_le (by rw [List.length_append, List.length_take, List.length_drop]; omega)]
    rfl
  rw [he] at this
  exact this

set_option maxHeartbeats 400000 in
theorem without_impl (A : Option Addr) (c i : Nat) (xs : List Int) (w : World) (h : In w A c xs) (hi : i < xs.length) :
    Calls Try.prog 68 #[.slice A xs.length c, .int .i64 i] w (Ret (Value.int .i64) 3 w (patL (cutAt xs i))) := by
  have hl := h.len
  go_enter Try.func68, Try.ntmps68
  go_wp2_with fail
  (with_reducible refine (clone_any _ _ _ _ h).mono ?_)
  rintro e w1 ⟨T, t, rfl, _, _, o1, b1⟩
  obtain ⟨g, cap, hv, hg, _⟩ := o1.form (by omega)
  have hT : T = some ⟨g, 0, none⟩ := by injection hv
  subst hT
  clear hv
  go_wp2_with fail
  (with_reducible refine (delete_own g xs.length t i w.heap.size xs _ o1 hi).mono ?_)
  rintro e w2 ⟨rfl, o2, hB⟩
  have b2 := hB _ _ b1 hg
  have hlen := cutAt_length xs i hi
  have r2 : Rd (Value.int .i64) w2 w2.heap.size (some ⟨g, 0, none⟩) (cutAt xs i) := Rd.of_own (by rw [hlen]; exact o2)
  have hk : xs.length - 1 ≤ 1048576 := by omega
  clear hB
  go_wp2_with fail
  (with_reducible refine (pattern_impl _ _ _ (cutAt xs i) _ hlen hk r2).mono ?_)
  rintro e w3 ⟨T3, t3, rfl, k1, k2, o3, b3⟩
  go_wp2_with fail
  go_ret
  exact ⟨T3, t3, rfl, k1, k2, own_mono o3 b2.size, b2.trans (b3.mono b2.size)⟩

def parentL (xs : List Int) : List Int := xs.filter fun y => decide (y < (xs.length : Int))
def parentG (xs : List Int) : List Int := if permB xs = true ∧ xs.length ≠ 0 then parentL xs else []
def parentB (xs : List Int) : Bool := permB xs && decide (xs.length ≠ 0)
theorem parentG_length (xs : List Int) : (parentG xs).length ≤ 8 := by
  unfold parentG
  split
  · rename_i h
    have := (permB_true h.1).1
    exact Nat.le_trans (List.length_filter_le _ _) this
  · simp

set_option maxHeartbeats 400000 in
theorem parent_impl (A : Option Addr) (c : Nat) (xs : List Int) (w : World) (h : In w A c xs) :
    Calls Try.prog 35 #[.slice A xs.length c] w (Ret2 (Value.int .i64) 3 w (parentG xs) (parentB xs)) := by
  have hl := h.len
  by_cases hp : permB xs = true
  · by_cases h0 : xs.length = 0
    · have HG := Lib.hid (show parentG xs = [] by rw [parentG, if_neg (fun h => h.2 h0)])
      have HB := Lib.hid (show parentB xs = false by simp [parentB, h0])
      have hz : ((xs.length : Int) == 0) = true := by simp [h0]
      clear h0
      go_enter Try.func35, Try.ntmps35
      go_wp2_with fail
      (with_reducible refine (isPerm_impl _ _ _ _ h).mono ?_)
      rintro e w1 ⟨rfl, hb1⟩
      rw [hp]
      clear hp
      go_wp2_with fail
      go_ret2
      rw [HG.out, HB.out]
      exact ⟨none, 0, rfl, Nat.le_refl _, Nat.zero_le _, World.ownsRow_nil _ _ _ _, hb1⟩
    · have HG := Lib.hid (show parentG xs = parentL xs by rw [parentG, if_pos ⟨hp, h0⟩])
      have HB := Lib.hid (show parentB xs = true by simp [parentB, hp]; exact fun h => h0 (by rw [h]; rfl))
      obtain ⟨_, hr, hn⟩ := permB_true hp
      have hm := perm_mem hn hr rfl (xs.length : Int) ⟨by omega, Int.le_refl _⟩
      have hI := Lib.hid (show idxL xs (xs.length : Int) = ((xs.idxOf (xs.length : Int) : Nat) : Int) by rw [idxL, if_pos hm])
      obtain ⟨i, hiE⟩ : ∃ i, i = xs.idxOf (xs.length : Int) := ⟨_, rfl⟩
      have hi : i < xs.length := by rw [hiE]; exact List.idxOf_lt_length_of_mem hm
      have hxi : xs[i] = (xs.length : Int) := by subst hiE; exact List.getElem_idxOf _
      have HPA := Lib.hid (show patL (cutAt xs i) = parentL xs from parent_eq hp hi hxi)
      rw [← hiE] at hI
      have hz : ((xs.length : Int) == 0) = false := by simp; exact fun h => h0 (by rw [h]; rfl)
      have hl2 : xs.length ≤ 4611686018427387904 := by omega
      clear hiE hm hr hn h0 hxi
      go_enter Try.func35, Try.ntmps35
      go_wp2_with fail
      (with_reducible refine (isPerm_impl _ _ _ _ h).mono ?_)
      rintro e w1 ⟨rfl, hb1⟩
      rw [hp]
      clear hp
      go_wp2_with fail
      (with_reducible refine (index_any _ _ _ xs _ _ rfl hl2 (h.next hb1).rd).mono ?_)
      rintro e w2 ⟨rfl, rfl⟩
      rw [hI.out]
      go_wp2_with fail
      (with_reducible refine (without_impl _ _ i _ _ (h.next hb1) hi).mono ?_)
      rw [HPA.out]
      rintro e w3 ⟨T3, t3, rfl, k1, k2, o3, b3⟩
      go_wp2_with fail
      go_ret2
      rw [HG.out, HB.out]
      exact ⟨T3, t3, rfl, k1, k2, own_mono o3 hb1.size, hb1.trans (b3.mono hb1.size)⟩
  · have hpf : permB xs = false := by simpa using hp
    have HG := Lib.hid (show parentG xs = [] by rw [parentG, if_neg (fun h => hp h.1)])
    have HB := Lib.hid (show parentB xs = false by simp [parentB, hpf])
    clear hp
    go_enter Try.func35, Try.ntmps35
    go_wp2_with fail
    (with_reducible refine (isPerm_impl _ _ _ _ h).mono ?_)
    rintro e w1 ⟨rfl, hb1⟩
    rw [hpf]
    clear hpf
    go_wp2_with fail
    go_ret2
    rw [HG.out, HB.out]
    exact ⟨none, 0, rfl, Nat.le_refl _, Nat.zero_le _, World.ownsRow_nil _ _ _ _, hb1⟩

theorem parentTo_succ (xs : List Int) (k : Nat) (h : k < xs.length) : (xs.take (k + 1)).filter (fun y => decide (y < (xs.length : Int))) = (xs.take k).filter (fun y => decide (y < (xs.length : Int))) ++ (if xs[k] < (xs.length : Int) then [xs[k]] else []) := by
  rw [List.take_succ_eq_append_getElem h, List.filter_append]
  congr 1
  by_cases hp : xs[k] < (xs.length : Int) <;> simp [hp]
def parentTo (xs : List Int) (k : Nat) : List Int := (xs.take k).filter fun y => decide (y < (xs.length : Int))
set_option maxHeartbeats 800000 in
theorem parent_spec (A : Option Addr) (c : Nat) (xs : List Int) (w : World) (h : In w A c xs) :
    Calls Try.prog 34 #[.slice A xs.length c] w (Ret2 (Value.int .i64) 3 w (parentG xs) (parentB xs)) := by
  obtain ⟨i0, hi, hz0, hz1, hz2⟩ := info_parts infoI
  have hl := h.len
  by_cases hp : permB xs = true
  · by_cases h0 : xs.length = 0
    · have HG := Lib.hid (show parentG xs = [] by rw [parentG, if_neg (fun h => h.2 h0)])
      have HB := Lib.hid (show parentB xs = false by simp [parentB, h0])
      have hz : ((xs.length : Int) == 0) = true := by simp [h0]
      clear h0
      go_enter Try.func34, Try.ntmps34
      go_wp2_with fail
      (with_reducible refine (isPerm_spec _ _ _ _ h).mono ?_)
      rintro e w1 ⟨rfl, hd1⟩
      rw [hp]
      clear hp
      have hb1 := below_dr (Below.refl w.heap.size w) hd1
      go_wp2_with fail
      go_ret2
      rw [HG.out, HB.out]
      exact ⟨_, _, rfl, Nat.le_refl _, Nat.zero_le _, World.ownsRow_lit w1 #[] 0 hb1.size (Nat.zero_le _) rfl, hb1.alloc hb1.size _⟩
    · have HG := Lib.hid (show parentG xs = parentTo xs xs.length by rw [parentG, if_pos ⟨hp, h0⟩, parentTo, List.take_length]; rfl)
      have HB := Lib.hid (show parentB xs = true by simp [parentB, hp]; exact fun h => h0 (by rw [h]; rfl))
      have h8 := (permB_true hp).1
      have hz : ((xs.length : Int) == 0) = false := by simp; exact fun h => h0 (by rw [h]; rfl)
      clear h0
      go_enter Try.func34, Try.ntmps34
      go_wp2_with fail
      (with_reducible refine (isPerm_spec _ _ _ _ h).mono ?_)
      rintro e w1 ⟨rfl, hd1⟩
      rw [hp]
      clear hp
      have hb1 := below_dr (Below.refl w.heap.size w) hd1
      have hsz1 := hb1.size
      go_wp2_with fail
      have hown0 : (w1.alloc (.cells #[] 3)).ownsRow w.heap.size 3 1 (.slice (some ⟨w1.heap.size, 0, none⟩) 0 0) (parentTo xs 0).length ((parentTo xs 0).map (Value.int .i64)) := World.ownsRow_lit w1 #[] 0 hsz1 (by unfold maxLen; omega) rfl
      have hb2 := hb1.alloc hsz1 (.cells #[] 3)
      go_loopw [4, 5] (fun v i wr => ∃ (k : Nat) (A' : Option Addr) (c' : Nat), k ≤ xs.length ∧ (parentTo xs k).length ≤ k ∧ i = .int .i64 k ∧ v = .slice A' (parentTo xs k).length c' ∧ wr.ownsRow w.heap.size 3 1 (.slice A' (parentTo xs k).length c') (parentTo xs k).length ((parentTo xs k).map (Value.int .i64)) ∧ Below w.heap.size w wr) (fun _ i _ => xs.length - (intOf i).toNat)
      case atStart => exact ⟨0, _, _, Nat.zero_le _, Nat.le_refl _, rfl, rfl, hown0, hb2⟩
      case round =>
        clear hown0 hb2 hb1 hsz1
        obtain ⟨k, A', c', hk, hpk, rfl, rfl, hown, hb⟩ := hrel
        have hsz := hb.size
        rcases Nat.lt_or_ge k xs.length with hlt | hge
        · obtain ⟨b, off, rfl, _, hc⟩ := (h.next hb).rd (by omega)
          have ck := hc k hlt
          have HS0 := Lib.hid (show parentTo xs (k + 1) = parentTo xs k ++ (if xs[k] < (xs.length : Int) then [xs[k]] else []) from parentTo_succ xs k hlt)
          clear hc
          by_cases hH : xs[k] < (xs.length : Int)
          · have HS := Lib.hid (show parentTo xs (k + 1) = parentTo xs k ++ [xs[k]] by rw [HS0.out, if_pos hH])
            go_wp2_with (at_builtin; refine wpList_append_own _ rfl _ _ 22 rfl (w.heap.size) 3 i0 (.int .i64 0) 1 8 Try.underlying22 hi hz0 hz1 hz2 rfl (by decide) _ _ _ rfl (World.ownsRow.alloc hown _) ⟨wr.heap.size, 0, none⟩ 1 1 [.int .i64 (xs[k])] rfl rfl (cell_one_new _ _ _) (by intro u hu; simp at hu; subst hu; rfl) (by unfold maxLen; omega) (by omega) (by simp; omega) ?_; intro v1 w1 hown1 hgrow1 _)
            have hb1 := (hb.alloc hsz (Obj.cells #[Value.int .i64 (xs[k])] 3)).grown hgrow1 (by simp; omega) (by intro g hg; exact ((hown.lt g hg).1))
            have hS2 : w1.ownsRow w.heap.size 3 1 v1 (parentTo xs (k + 1)).length ((parentTo xs (k + 1)).map (Value.int .i64)) := by rw [HS.out]; simpa using hown1
            obtain ⟨A1, cc, rfl, _, _⟩ := own_shape hS2
            have hH1 := Lib.hid hS2
            have hH2 := Lib.hid hb1
            have hH3 := Lib.hid (show (parentTo xs (k + 1)).length ≤ k + 1 by rw [HS.out]; simp; omega)
            clear hS2 hown1 hgrow1 hb1 hown hb
            go_wp2
            go_roundw
            case rel => exact ⟨k + 1, A1, cc, by omega, hH3.out, by go_num, rfl, hH1.out, hH2.out⟩
            case measure => simp [intOf]; omega
          · have HS := Lib.hid (show parentTo xs (k + 1) = parentTo xs k by rw [HS0.out, if_neg hH, List.append_nil])
            go_wp2
            go_roundw
            case rel => exact ⟨k + 1, A', c', by omega, by rw [HS.out]; omega, by go_num, by rw [HS.out], by rw [HS.out]; exact hown, hb⟩
            case measure => simp [intOf]; omega
        · obtain rfl : k = xs.length := by omega
          go_wp2
          go_ret2
          rw [HG.out, HB.out]
          exact ⟨A', c', rfl, (own_caps hown).1, (own_caps hown).2, hown, hb⟩
  · have hpf : permB xs = false := by simpa using hp
    have HG := Lib.hid (show parentG xs = [] by rw [parentG, if_neg (fun h => hp h.1)])
    have HB := Lib.hid (show parentB xs = false by simp [parentB, hpf])
    clear hp
    go_enter Try.func34, Try.ntmps34
    go_wp2_with fail
    (with_reducible refine (isPerm_spec _ _ _ _ h).mono ?_)
    rintro e w1 ⟨rfl, hd1⟩
    rw [hpf]
    clear hpf
    have hb1 := below_dr (Below.refl w.heap.size w) hd1
    go_wp2_with fail
    go_ret2
    rw [HG.out, HB.out]
    exact ⟨_, _, rfl, Nat.le_refl _, Nat.zero_le _, World.ownsRow_lit w1 #[] 0 hb1.size (Nat.zero_le _) rfl, hb1.alloc hb1.size _⟩
end Go.Proofs.Ytgodlofkilgfjaa
