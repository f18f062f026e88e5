/- Symmetries of permutations: inverse, complement, symmetry; SymmetryBasis. -/
import Derived.Test.YthkggnmfdlggbaaY3
import Derived.Test.YthkggnmfdlggbaaV1
import Derived.Test.YthkggnmfdlggbaaC3
namespace Go.Proofs.Ythkggnmfdlggbaa
set_option maxRecDepth 100000
open Go Go.RowKit

/-- The inverse, as far as the first k numbers tell it. -/
def invTo (p : List Int) : Nat → List Int
  | 0 => List.replicate p.length 0
  | k + 1 => (invTo p k).set ((p[k]?.getD 0) - 1).toNat ((k : Int) + 1)
def invL (p : List Int) : List Int := invTo p p.length
theorem invTo_length (p : List Int) (k : Nat) : (invTo p k).length = p.length := by
  induction k with
  | zero => simp [invTo]
  | succ k ih => simp [invTo, ih]
theorem invTo_bound (p : List Int) (k : Nat) (hk : k ≤ p.length) : ∀ x ∈ invTo p k, 0 ≤ x ∧ x ≤ p.length := by
  induction k with
  | zero =>
    intro x hx
    rw [invTo] at hx
    rw [List.eq_of_mem_replicate hx]
    omega
  | succ k ih =>
    intro x hx
    rw [invTo] at hx
    rcases List.mem_or_eq_of_mem_set hx with h | h
    · exact ih (by omega) x h
    · omega
def complL (p : List Int) : List Int := p.map fun v => (p.length : Int) + 1 - v
def complTo (p : List Int) (k : Nat) : List Int := (p.take k).map fun v => (p.length : Int) + 1 - v
theorem complTo_succ (p : List Int) (k : Nat) (h : k < p.length) : complTo p (k + 1) = complTo p k ++ [(p.length : Int) + 1 - p[k]] := by
  unfold complTo; rw [List.take_succ_eq_append_getElem h, List.map_append]; rfl
theorem complTo_all (p : List Int) : complTo p p.length = complL p := by unfold complTo complL; rw [List.take_length]
theorem complTo_len (p : List Int) (k : Nat) (h : k ≤ p.length) : (complTo p k).length = k := by unfold complTo; simp; omega
def revL (p : List Int) : List Int := p.reverse
/-- The symmetry number k. -/
def symL (p : List Int) : Nat → List Int
  | 0 => p
  | 1 => invL p
  | 2 => revL p
  | 3 => revL (invL p)
  | 4 => complL p
  | 5 => complL (invL p)
  | 6 => complL (revL p)
  | _ => complL (revL (invL p))
theorem small_perm {p : List Int} (h : permB p = true) : p.length ≤ 8 ∧ ∀ x ∈ p, 0 ≤ x ∧ x ≤ 8 := by
  have h8 := (permB_true h).1
  exact ⟨h8, fun x hx => by have := (permB_true h).2.1 x hx; omega⟩
theorem small_inv {p : List Int} (h : p.length ≤ 8) : (invL p).length ≤ 8 ∧ ∀ x ∈ invL p, 0 ≤ x ∧ x ≤ 8 :=
  ⟨by unfold invL; rw [invTo_length]; exact h, fun x hx => by have := invTo_bound p p.length (Nat.le_refl _) x hx; omega⟩
theorem small_rev {p : List Int} (h : p.length ≤ 8 ∧ ∀ x ∈ p, 0 ≤ x ∧ x ≤ 8) : (revL p).length ≤ 8 ∧ ∀ x ∈ revL p, 0 ≤ x ∧ x ≤ 8 :=
  ⟨by unfold revL; rw [List.length_reverse]; exact h.1, fun x hx => h.2 x (List.mem_reverse.1 hx)⟩
theorem symL_len {p : List Int} (h : p.length ≤ 8) (k : Nat) : (symL p k).length ≤ 8 := by
  have hi : (invL p).length = p.length := invTo_length p p.length
  unfold symL
  split <;> simp [complL, revL, hi, h]
set_option maxHeartbeats 2000000 in
theorem inverse_impl (A : Option Addr) (c : Nat) (p : List Int) (w : World) (h : In w A c p) (hP : permB p = true) :
    Calls Try.prog 53 #[.slice A p.length c] w (Ret (Value.int .i64) 3 w (invL p)) := by
  obtain ⟨i0, hi, hz0, hz1, hz2⟩ := info_parts infoI
  have h8 := (permB_true hP).1
  have HR := Lib.hid (permB_true hP).2.1
  clear hP
  go_enter Try.func53, Try.ntmps53
  go_wp2_with (at_make; refine wpList_make_full _ rfl _ _ 22 rfl (w.heap.size) 3 i0 (.int .i64 0) 1 Try.underlying22 hi hz0 hz1 .i64 .i64 _ _ (p.length) rfl rfl (by omega) (by omega) (by rw [hz2]; omega) (by unfold maxLen; omega) (by omega) ?_; intro w1 hown1 hgrow1)
  have hown0 : w1.ownsRow w.heap.size 3 1 (.slice (some ⟨w.heap.size, 0, none⟩) p.length p.length) p.length ((invTo p 0).map (Value.int .i64)) := made_zeros hown1
  have hb1 := below_none hgrow1
  clear hown1 hgrow1
  go_loopw [11] (fun i wr => ∃ k : Nat, k ≤ p.length ∧ i = .int .i64 k ∧ wr.ownsRow w.heap.size 3 1 (.slice (some ⟨w.heap.size, 0, none⟩) p.length p.length) p.length ((invTo p k).map (Value.int .i64)) ∧ Below w.heap.size w wr) (fun i _ => p.length - (intOf i).toNat)
  case atStart => exact ⟨0, Nat.zero_le _, rfl, hown0, hb1⟩
  case round =>
    clear hown0 hb1
    obtain ⟨k, hk, rfl, hown, hb⟩ := hrel
    rcases Nat.lt_or_ge k p.length with hlt | hge
    · obtain ⟨b, off, rfl, _, hc⟩ := (h.next hb).rd (by omega)
      have c1 := hc k hlt
      have hv := HR.out p[k] (List.getElem_mem hlt)
      obtain ⟨u, hu⟩ : ∃ u : Nat, p[k] = (u : Int) + 1 := ⟨(p[k] - 1).toNat, by omega⟩
      have hul : u < p.length := by omega
      have HS := Lib.hid (show invTo p (k + 1) = (invTo p k).set u ((k : Int) + 1) by
        rw [invTo, List.getElem?_eq_getElem hlt, Option.getD_some, hu, show ((u : Int) + 1 - 1).toNat = u by omega])
      rw [hu] at c1
      have hput := own_put hown u (by rw [invTo_length]; exact hul) ((k : Int) + 1)
      obtain ⟨cz, fz, hown2⟩ := hput
      have hb2 := hb.setCell (p := ⟨w.heap.size, u, none⟩) (Nat.le_refl _) (.int .i64 ((k : Int) + 1))
      have K := Lib.hid (And.intro hown2 hb2)
      have e1 : IntKind.i64.wrap ((u : Int) + 1 - 1) = (u : Int) := by rw [Int.add_sub_cancel]; exact IntWalk.i64_in _ (by omega)
      have e2 : (u : Int) < (p.length : Int) := by omega
      clear hc hown2 hb2 hu hv
      go_wp2_with fail
      go_roundw
      case rel => exact ⟨k + 1, by omega, by go_num, by rw [HS.out]; exact K.out.1, K.out.2⟩
      case measure => simp [intOf]; omega
    · obtain rfl : k = p.length := by omega
      have hll : (invL p).length = p.length := invTo_length p p.length
      have HLL := Lib.hid hll
      clear hll
      go_wp2_with fail
      go_ret
      exact ⟨some ⟨w.heap.size, 0, none⟩, p.length, by rw [HLL.out]; rfl, by rw [HLL.out]; exact Nat.le_refl _, by unfold maxLen; omega, by rw [HLL.out]; exact hown, hb⟩
set_option maxHeartbeats 2000000 in
theorem l2Inverse_any (A : Option Addr) (c : Nat) (p : List Int) (w : World) (h : In w A c p) (hP : permB p = true) :
    Calls Try.prog 50 #[.slice A p.length c] w (Ret (Value.int .i64) 3 w (invL p)) := by
  obtain ⟨i0, hi, hz0, hz1, hz2⟩ := info_parts infoI
  have h8 := (permB_true hP).1
  have HR := Lib.hid (permB_true hP).2.1
  clear hP
  go_enter Try.func50, Try.ntmps50
  go_wp2_with (at_make; refine wpList_make_full _ rfl _ _ 22 rfl (w.heap.size) 3 i0 (.int .i64 0) 1 Try.underlying22 hi hz0 hz1 .i64 .i64 _ _ (p.length) rfl rfl (by omega) (by omega) (by rw [hz2]; omega) (by unfold maxLen; omega) (by omega) ?_; intro w1 hown1 hgrow1)
  have hown0 : w1.ownsRow w.heap.size 3 1 (.slice (some ⟨w.heap.size, 0, none⟩) p.length p.length) p.length ((invTo p 0).map (Value.int .i64)) := made_zeros hown1
  have hb1 := below_none hgrow1
  clear hown1 hgrow1
  go_loopw [4] (fun i wr => ∃ k : Nat, k ≤ p.length ∧ i = .int .i64 k ∧ wr.ownsRow w.heap.size 3 1 (.slice (some ⟨w.heap.size, 0, none⟩) p.length p.length) p.length ((invTo p k).map (Value.int .i64)) ∧ Below w.heap.size w wr) (fun i _ => p.length - (intOf i).toNat)
  case atStart => exact ⟨0, Nat.zero_le _, rfl, hown0, hb1⟩
  case round =>
    clear hown0 hb1
    obtain ⟨k, hk, rfl, hown, hb⟩ := hrel
    rcases Nat.lt_or_ge k p.length with hlt | hge
    · obtain ⟨b, off, rfl, _, hc⟩ := (h.next hb).rd (by omega)
      have c1 := hc k hlt
      have hv := HR.out p[k] (List.getElem_mem hlt)
      obtain ⟨u, hu⟩ : ∃ u : Nat, p[k] = (u : Int) + 1 := ⟨(p[k] - 1).toNat, by omega⟩
      have hul : u < p.length := by omega
      have HS := Lib.hid (show invTo p (k + 1) = (invTo p k).set u ((k : Int) + 1) by
        rw [invTo, List.getElem?_eq_getElem hlt, Option.getD_some, hu, show ((u : Int) + 1 - 1).toNat = u by omega])
      rw [hu] at c1
      have hput := own_put hown u (by rw [invTo_length]; exact hul) ((k : Int) + 1)
      obtain ⟨cz, fz, hown2⟩ := hput
      have hb2 := hb.setCell (p := ⟨w.heap.size, u, none⟩) (Nat.le_refl _) (.int .i64 ((k : Int) + 1))
      have K := Lib.hid (And.intro hown2 hb2)
      have e1 : IntKind.i64.wrap ((u : Int) + 1 - 1) = (u : Int) := by rw [Int.add_sub_cancel]; exact IntWalk.i64_in _ (by omega)
      have e2 : (u : Int) < (p.length : Int) := by omega
      clear hc hown2 hb2 hu hv
      go_wp2_with fail
      go_roundw
      case rel => exact ⟨k + 1, by omega, by go_num, by rw [HS.out]; exact K.out.1, K.out.2⟩
      case measure => simp [intOf]; omega
    · obtain rfl : k = p.length := by omega
      have hll : (invL p).length = p.length := invTo_length p p.length
      have HLL := Lib.hid hll
      clear hll
      go_wp2_with fail
      go_ret
      exact ⟨some ⟨w.heap.size, 0, none⟩, p.length, by rw [HLL.out]; rfl, by rw [HLL.out]; exact Nat.le_refl _, by unfold maxLen; omega, by rw [HLL.out]; exact hown, hb⟩
set_option maxHeartbeats 2000000 in
theorem complement_impl (A : Option Addr) (c : Nat) (p : List Int) (w : World) (h : In w A c p) (hB : ∀ x ∈ p, 0 ≤ x ∧ x ≤ 1048576) :
    Calls Try.prog 96 #[.slice A p.length c] w (Ret (Value.int .i64) 3 w (complL p)) := by
  obtain ⟨i0, hi, hz0, hz1, hz2⟩ := info_parts infoI
  have hl := h.len
  have HR := Lib.hid hB
  have hown0 : (w.alloc (.cells #[] 3)).ownsRow w.heap.size 3 1 (.slice (some ⟨w.heap.size, 0, none⟩) 0 0) 0 ((complTo p 0).map (Value.int .i64)) := World.ownsRow_lit w #[] 0 (Nat.le_refl _) (by unfold maxLen; omega) rfl
  have hb0 := (Below.refl w.heap.size w).alloc (Nat.le_refl _) (.cells #[] 3)
  clear hB
  go_enter Try.func96, Try.ntmps96
  go_wp2_with fail
  go_loopw [3, 9] (fun v i wr => ∃ (k : Nat) (A1 : Option Addr) (c1 : Nat), k ≤ p.length ∧ i = .int .i64 k ∧ v = .slice A1 k c1 ∧ wr.ownsRow w.heap.size 3 1 (.slice A1 k c1) k ((complTo p k).map (Value.int .i64)) ∧ Below w.heap.size w wr) (fun _ i _ => p.length - (intOf i).toNat)
  case atStart => exact ⟨0, _, _, Nat.zero_le _, rfl, rfl, hown0, hb0⟩
  case round =>
    clear hown0 hb0
    obtain ⟨k, A1, c1, hk, rfl, rfl, hown, hb⟩ := hrel
    have hsz := hb.size
    rcases Nat.lt_or_ge k p.length with hlt | hge
    · obtain ⟨b, off, rfl, _, hc⟩ := (h.next hb).rd (by omega)
      have g1 := hc k hlt
      have hv := HR.out p[k] (List.getElem_mem hlt)
      have HS := Lib.hid (complTo_succ p k hlt)
      have e1 : IntKind.i64.wrap ((p.length : Int) + 1) = (p.length : Int) + 1 := IntWalk.i64_in _ (by omega)
      have e2 : IntKind.i64.wrap ((p.length : Int) + 1 - p[k]) = (p.length : Int) + 1 - p[k] := IntWalk.i64_in _ (by omega)
      clear hc
      go_wp2_with (at_builtin; refine wpList_append_own _ rfl _ _ 22 rfl (w.heap.size) 3 i0 (.int .i64 0) 1 8 Try.underlying22 hi hz0 hz1 hz2 rfl (by decide) _ _ _ rfl (World.ownsRow.alloc hown _) ⟨wr.heap.size, 0, none⟩ 1 1 [.int .i64 ((p.length : Int) + 1 - p[k])] rfl rfl (cell_one_new _ _ _) (by intro u hu; simp at hu; subst hu; rfl) (by unfold maxLen; omega) (by omega) (by simp; omega) ?_; intro v1 w1 hown1 hgrow1 _)
      have hb1 := (hb.alloc hsz (Obj.cells #[Value.int .i64 ((p.length : Int) + 1 - p[k])] 3)).grown hgrow1 (by simp; omega) (by intro g hg; exact ((hown.lt g hg).1))
      have hS2 : w1.ownsRow w.heap.size 3 1 v1 (k + 1) ((complTo p (k + 1)).map (Value.int .i64)) := by rw [HS.out]; simpa using hown1
      obtain ⟨A3, c3, rfl, _, _⟩ := own_shape hS2
      have K := Lib.hid (And.intro hS2 hb1)
      clear hS2 hown1 hgrow1 hb1 hown hb
      go_wp2_with fail
      go_roundw
      case rel => exact ⟨k + 1, A3, c3, by omega, by go_num, rfl, K.out.1, K.out.2⟩
      case measure => simp [intOf]; omega
    · obtain rfl : k = p.length := by omega
      have HLL := Lib.hid (show (complL p).length = p.length by unfold complL; simp)
      have hcap := own_caps hown
      rw [complTo_all] at hown
      have HO := Lib.hid hown
      clear hown
      go_wp2_with fail
      go_ret
      exact ⟨A1, c1, by rw [HLL.out]; rfl, by rw [HLL.out]; exact hcap.1, hcap.2, by rw [HLL.out]; exact HO.out, hb⟩
set_option maxHeartbeats 2000000 in
theorem l3Complement_any (A : Option Addr) (c : Nat) (p : List Int) (w : World) (h : In w A c p) (hB : ∀ x ∈ p, 0 ≤ x ∧ x ≤ 1048576) :
    Calls Try.prog 95 #[.slice A p.length c] w (Ret (Value.int .i64) 3 w (complL p)) := by
  obtain ⟨i0, hi, hz0, hz1, hz2⟩ := info_parts infoI
  have hl := h.len
  have HR := Lib.hid hB
  have hown0 : (w.alloc (.cells #[] 3)).ownsRow w.heap.size 3 1 (.slice (some ⟨w.heap.size, 0, none⟩) 0 0) 0 ((complTo p 0).map (Value.int .i64)) := World.ownsRow_lit w #[] 0 (Nat.le_refl _) (by unfold maxLen; omega) rfl
  have hb0 := (Below.refl w.heap.size w).alloc (Nat.le_refl _) (.cells #[] 3)
  clear hB
  go_enter Try.func95, Try.ntmps95
  go_wp2_with fail
  go_loopw [3, 4] (fun v i wr => ∃ (k : Nat) (A1 : Option Addr) (c1 : Nat), k ≤ p.length ∧ i = .int .i64 k ∧ v = .slice A1 k c1 ∧ wr.ownsRow w.heap.size 3 1 (.slice A1 k c1) k ((complTo p k).map (Value.int .i64)) ∧ Below w.heap.size w wr) (fun _ i _ => p.length - (intOf i).toNat)
  case atStart => exact ⟨0, _, _, Nat.zero_le _, rfl, rfl, hown0, hb0⟩
  case round =>
    clear hown0 hb0
    obtain ⟨k, A1, c1, hk, rfl, rfl, hown, hb⟩ := hrel
    have hsz := hb.size
    rcases Nat.lt_or_ge k p.length with hlt | hge
    · obtain ⟨b, off, rfl, _, hc⟩ := (h.next hb).rd (by omega)
      have g1 := hc k hlt
      have hv := HR.out p[k] (List.getElem_mem hlt)
      have HS := Lib.hid (complTo_succ p k hlt)
      have e1 : IntKind.i64.wrap ((p.length : Int) + 1) = (p.length : Int) + 1 := IntWalk.i64_in _ (by omega)
      have e2 : IntKind.i64.wrap ((p.length : Int) + 1 - p[k]) = (p.length : Int) + 1 - p[k] := IntWalk.i64_in _ (by omega)
      clear hc
      go_wp2_with (at_builtin; refine wpList_append_own _ rfl _ _ 22 rfl (w.heap.size) 3 i0 (.int .i64 0) 1 8 Try.underlying22 hi hz0 hz1 hz2 rfl (by decide) _ _ _ rfl (World.ownsRow.alloc hown _) ⟨wr.heap.size, 0, none⟩ 1 1 [.int .i64 ((p.length : Int) + 1 - p[k])] rfl rfl (cell_one_new _ _ _) (by intro u hu; simp at hu; subst hu; rfl) (by unfold maxLen; omega) (by omega) (by simp; omega) ?_; intro v1 w1 hown1 hgrow1 _)
      have hb1 := (hb.alloc hsz (Obj.cells #[Value.int .i64 ((p.length : Int) + 1 - p[k])] 3)).grown hgrow1 (by simp; omega) (by intro g hg; exact ((hown.lt g hg).1))
      have hS2 : w1.ownsRow w.heap.size 3 1 v1 (k + 1) ((complTo p (k + 1)).map (Value.int .i64)) := by rw [HS.out]; simpa using hown1
      obtain ⟨A3, c3, rfl, _, _⟩ := own_shape hS2
      have K := Lib.hid (And.intro hS2 hb1)
      clear hS2 hown1 hgrow1 hb1 hown hb
      go_wp2_with fail
      go_roundw
      case rel => exact ⟨k + 1, A3, c3, by omega, by go_num, rfl, K.out.1, K.out.2⟩
      case measure => simp [intOf]; omega
    · obtain rfl : k = p.length := by omega
      have HLL := Lib.hid (show (complL p).length = p.length by unfold complL; simp)
      have hcap := own_caps hown
      rw [complTo_all] at hown
      have HO := Lib.hid hown
      clear hown
      go_wp2_with fail
      go_ret
      exact ⟨A1, c1, by rw [HLL.out]; rfl, by rw [HLL.out]; exact hcap.1, hcap.2, by rw [HLL.out]; exact HO.out, hb⟩
theorem reverse_impl2 (A : Option Addr) (c : Nat) (xs : List Int) (w : World) (h : In w A c xs) :
    Calls Try.prog 44 #[.slice A xs.length c] w (Ret (Value.int .i64) 3 w (revL xs)) := reverse_impl A c xs w h
theorem l3Reverse_2 (A : Option Addr) (c : Nat) (xs : List Int) (w : World) (h : In w A c xs) :
    Calls Try.prog 41 #[.slice A xs.length c] w (Ret (Value.int .i64) 3 w (revL xs)) := l3Reverse_any A c xs.length xs w rfl h.len h.rd
set_option maxHeartbeats 4000000 in
theorem symmetry_impl (A : Option Addr) (c : Nat) (p : List Int) (k : Nat) (w : World) (h : In w A c p) (hP : permB p = true) (hk : k ≤ 7) :
    Calls Try.prog 68 #[.slice A p.length c, .int .i64 (k : Int)] w (Ret (Value.int .i64) 3 w (symL p k)) := by
  have hS0 := small_perm hP
  have H0 := Lib.hid hS0
  have HPP := Lib.hid hP
  have hl8 := hS0.1
  clear hS0 hP
  obtain rfl | rfl | rfl | rfl | rfl | rfl | rfl | rfl : k = 0 ∨ k = 1 ∨ k = 2 ∨ k = 3 ∨ k = 4 ∨ k = 5 ∨ k = 6 ∨ k = 7 := by omega
  all_goals
    clear hk
    go_enter Try.func68, Try.ntmps68
    go_wp2_with fail
    (with_reducible refine (clone_any A c p w h).mono ?_)
    rintro e w1 ⟨A1, c1, rfl, q1, q2, own, hb⟩
    have hin : In w1 A1 c1 p := In.own own (by omega)
    have hsm := Lib.hid H0.out
    go_wp2_with (first
      | (go_at_call 53
         refine Calls.mono (inverse_impl _ _ _ _ hin HPP.out) ?_
         rintro e wi ⟨Ai, ci, rfl, q1, q2, own0, hbi⟩
         have own := own_mono own0 hb.size
         have hb := hb.trans (hbi.mono hb.size)
         have hsm := Lib.hid (small_inv H0.out.1)
         have hin := In.own own (by have := hsm.out.1; omega)
         clear own0)
      | (go_at_call 44
         refine Calls.mono (reverse_impl2 _ _ _ _ hin) ?_
         rintro e wi ⟨Ai, ci, rfl, q1, q2, own0, hbi⟩
         have own := own_mono own0 hb.size
         have hb := hb.trans (hbi.mono hb.size)
         have hsm := Lib.hid (small_rev hsm.out)
         have hin := In.own own (by have := hsm.out.1; omega)
         clear own0)
      | (go_at_call 96
         refine Calls.mono (complement_impl _ _ _ _ hin (fun x hx => by have := hsm.out.2 x hx; omega)) ?_
         rintro e wi ⟨Ai, ci, rfl, q1, q2, own0, hbi⟩
         have own := own_mono own0 hb.size
         have hb := hb.trans (hbi.mono hb.size)
         clear own0)
      | fail)
    go_ret
    exact ⟨_, _, rfl, q1, q2, own, hb⟩
set_option maxHeartbeats 4000000 in
theorem l3Symmetry_any (A : Option Addr) (c : Nat) (p : List Int) (k : Nat) (w : World) (h : In w A c p) (hP : permB p = true) (hk : k ≤ 7) :
    Calls Try.prog 67 #[.slice A p.length c, .int .i64 (k : Int)] w (Ret (Value.int .i64) 3 w (symL p k)) := by
  obtain ⟨i0, hi, hz0, hz1, hz2⟩ := info_parts infoI
  have own0 : (w.alloc (.cells #[] 3)).ownsRow w.heap.size 3 1 (.slice (some ⟨w.heap.size, 0, none⟩) 0 0) 0 [] := World.ownsRow_lit w #[] 0 (Nat.le_refl _) (by unfold maxLen; omega) rfl
  have hx0 := h.rd.alloc (Nat.le_refl _) (.cells #[] 3)
  have hbA := (Below.refl w.heap.size w).alloc (Nat.le_refl _) (.cells #[] 3)
  have hpl := h.len
  have hS0 := small_perm hP
  have H0 := Lib.hid hS0
  have HPP := Lib.hid hP
  have hl8 := hS0.1
  clear hS0 hP
  obtain rfl | rfl | rfl | rfl | rfl | rfl | rfl | rfl : k = 0 ∨ k = 1 ∨ k = 2 ∨ k = 3 ∨ k = 4 ∨ k = 5 ∨ k = 6 ∨ k = 7 := by omega
  all_goals
    clear hk
    go_enter Try.func67, Try.ntmps67
    go_wp2_with (at_builtin; refine wpList_append_rd _ rfl _ _ 22 rfl (w.heap.size) 3 i0 (.int .i64 0) 8 Try.underlying22 hi hz0 hz1 hz2 rfl _ _ _ rfl own0 _ _ _ _ (p) rfl rfl hx0 (fun _ => rfl) (by unfold maxLen; omega) (by omega) (by first | omega | (simp; done) | (simp; omega)) ?_; intro v1 w1 hown1 hgrow1)
    simp only [Nat.zero_add, List.nil_append] at hown1
    obtain ⟨A1, c1, rfl, q1, q2⟩ := own_shape hown1
    have own := hown1
    have hb : Below w.heap.size w w1 := hbA.grown hgrow1 (by simp) (fun g hg => (own0.lt g hg).1)
    have hin : In w1 A1 c1 p := In.own own (by omega)
    clear hown1 hgrow1 hx0 own0 hbA
    have hsm := Lib.hid H0.out
    go_wp2_with (first
      | (go_at_call 50
         refine Calls.mono (l2Inverse_any _ _ _ _ hin HPP.out) ?_
         rintro e wi ⟨Ai, ci, rfl, q1, q2, own0, hbi⟩
         have own := own_mono own0 hb.size
         have hb := hb.trans (hbi.mono hb.size)
         have hsm := Lib.hid (small_inv H0.out.1)
         have hin := In.own own (by have := hsm.out.1; omega)
         clear own0)
      | (go_at_call 41
         refine Calls.mono (l3Reverse_2 _ _ _ _ hin) ?_
         rintro e wi ⟨Ai, ci, rfl, q1, q2, own0, hbi⟩
         have own := own_mono own0 hb.size
         have hb := hb.trans (hbi.mono hb.size)
         have hsm := Lib.hid (small_rev hsm.out)
         have hin := In.own own (by have := hsm.out.1; omega)
         clear own0)
      | (go_at_call 95
         refine Calls.mono (l3Complement_any _ _ _ _ hin (fun x hx => by have := hsm.out.2 x hx; omega)) ?_
         rintro e wi ⟨Ai, ci, rfl, q1, q2, own0, hbi⟩
         have own := own_mono own0 hb.size
         have hb := hb.trans (hbi.mono hb.size)
         clear own0)
      | fail)
    go_ret
    exact ⟨_, _, rfl, q1, q2, own, hb⟩
end Go.Proofs.Ythkggnmfdlggbaa
