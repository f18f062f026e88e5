/- A list from its end: slices.Reverse in place, reverse, l3Reverse; ascending and descending lists. -/
import Derived.Test.YthipikllgpnlhaaR5
import Derived.Test.YthipikllgpnlhaaQ1
import Derived.Test.YthipikllgpnlhaaM3
import Derived.Test.YthipikllgpnlhaaK1
import Derived.RegionTactic
import Derived.ChangeAlike
namespace Go.Proofs.Ythipikllgpnlhaa
set_option maxRecDepth 100000
open Go Go.RowKit

/-- The cell of a list's row, the list's address known. -/
theorem Read.cellAt {w : World} {B b off c : Nat} {rs : List Row} (h : Read w B rs [⟨some ⟨b, off, none⟩, c, rs.map Row.v⟩]) (j : Nat) (hj : j < rs.length) : w.cell? ⟨b, off + j, none⟩ = some (Value.slice rs[j].A rs[j].xs.length rs[j].c) := by
  obtain ⟨b', off', he, _, hc⟩ := h.at (by omega)
  injection he with he
  injection he with he1 he2 _
  subst he1 he2
  exact hc j hj
/-- The first and the last i places are exchanged. -/
def revTo (xs : List Int) (i : Nat) : List Int := (List.range xs.length).map fun t => if t < i ∨ xs.length ≤ t + i then xs[xs.length - 1 - t]?.getD 0 else xs[t]?.getD 0
theorem revTo_length (xs : List Int) (i : Nat) : (revTo xs i).length = xs.length := by simp [revTo]
theorem revTo_get (xs : List Int) (i t : Nat) (h : t < xs.length) : (revTo xs i)[t]? = some (if t < i ∨ xs.length ≤ t + i then xs[xs.length - 1 - t]?.getD 0 else xs[t]?.getD 0) := by
  simp [revTo, h]
theorem revTo_zero (xs : List Int) : revTo xs 0 = xs := by
  apply List.ext_getElem?
  intro t
  by_cases h : t < xs.length
  · rw [revTo_get xs 0 t h, if_neg (by omega), List.getElem?_eq_getElem h]; rfl
  · rw [List.getElem?_eq_none (by rw [revTo_length]; omega), List.getElem?_eq_none (by omega)]
theorem revTo_all (xs : List Int) (i : Nat) (h : xs.length ≤ 2 * i + 1) : revTo xs i = xs.reverse := by
  apply List.ext_getElem?
  intro t
  by_cases ht : t < xs.length
  · rw [revTo_get xs i t ht, List.getElem?_reverse ht]
    by_cases hc : t < i ∨ xs.length ≤ t + i
    · rw [if_pos hc, List.getElem?_eq_getElem (by omega)]; rfl
    · rw [if_neg hc]
      have : xs.length - 1 - t = t := by omega
      rw [this, List.getElem?_eq_getElem ht]; rfl
  · rw [List.getElem?_eq_none (by rw [revTo_length]; omega), List.getElem?_eq_none (by rw [List.length_reverse]; omega)]
theorem revTo_succ (xs : List Int) (i : Nat) (h : 2 * i + 1 < xs.length) : ((revTo xs i).set i (xs[xs.length - 1 - i]?.getD 0)).set (xs.length - 1 - i) (xs[i]?.getD 0) = revTo xs (i + 1) := by
  apply List.ext_getElem?
  intro t
  by_cases ht : t < xs.length
  · rw [revTo_get xs (i + 1) t ht, List.getElem?_set, List.getElem?_set, List.length_set, revTo_length, revTo_get xs i t ht]
    by_cases h1 : xs.length - 1 - i = t
    · subst h1
      rw [if_pos rfl, if_pos (by omega), if_pos (by omega)]
      rw [show xs.length - 1 - (xs.length - 1 - i) = i by omega]
    · rw [if_neg h1]
      by_cases h2 : i = t
      · subst h2
        rw [if_pos rfl, if_pos (by omega), if_pos (by omega)]
      · rw [if_neg h2]
        by_cases h3 : t < i ∨ xs.length ≤ t + i
        · rw [if_pos h3, if_pos (by omega)]
        · rw [if_neg h3, if_neg (by omega)]
  · rw [List.getElem?_eq_none (by rw [List.length_set, List.length_set, revTo_length]; omega), List.getElem?_eq_none (by rw [revTo_length]; omega)]
theorem revTo_at (xs : List Int) (i t : Nat) (h : t < xs.length) (h1 : i ≤ t) (h2 : t + i < xs.length) : ((revTo xs i).map (Value.int .i64))[t]? = some (.int .i64 xs[t]) := by
  rw [List.getElem?_map, revTo_get xs i t h, if_neg (by omega), List.getElem?_eq_getElem h]; rfl

theorem rev_take (xs : List Int) (k : Nat) (h : k < xs.length) : (xs.drop k).reverse = (xs.drop (k + 1)).reverse ++ [xs[k]] := by
  rw [List.drop_eq_getElem_cons h, List.reverse_cons]
set_option maxHeartbeats 1000000 in
theorem l3Reverse_any (A : Option Addr) (c n : Nat) (xs : List Int) (w : World) (hn : xs.length = n) (hl : n ≤ 1048576) (hx : Rd (Value.int .i64) w w.heap.size A xs) :
    Calls Try.prog 115 #[.slice A n c] w (Ret (Value.int .i64) 3 w xs.reverse) := by
  obtain ⟨i0, hi, hz0, hz1, hz2⟩ := info_parts infoI
  have HN := Lib.hid hn
  have hn1 : xs.length ≤ n := by omega
  have hn2 : n ≤ xs.length := by omega
  clear hn
  have hown0 : (w.alloc (.cells #[] 3)).ownsRow w.heap.size 3 1 (.slice (some ⟨w.heap.size, 0, none⟩) 0 0) 0 (((xs.drop n).reverse).map (Value.int .i64)) := by
    rw [List.drop_of_length_le hn1]
    exact World.ownsRow_lit w #[] 0 (Nat.le_refl _) (by unfold maxLen; omega) rfl
  have hb0 := (Below.refl w.heap.size w).alloc (Nat.le_refl _) (.cells #[] 3)
  go_enter Try.func115, Try.ntmps115
  go_wp2_with fail
  go_loopw [3, 4] (fun v i wr => ∃ (k m : Nat) (A1 : Option Addr) (c1 : Nat), k ≤ n ∧ m = n - k ∧ i = .int .i64 ((k : Int) - 1) ∧ v = .slice A1 m c1 ∧ wr.ownsRow w.heap.size 3 1 (.slice A1 m c1) m (((xs.drop k).reverse).map (Value.int .i64)) ∧ Below w.heap.size w wr) (fun _ i _ => (intOf i + 1).toNat)
  case atStart => exact ⟨n, 0, _, _, Nat.le_refl _, by omega, rfl, rfl, hown0, hb0⟩
  case round =>
    clear hown0 hb0
    obtain ⟨k, m, A1, c1, hk, hm, rfl, rfl, hown, hb⟩ := hrel
    have hmn : m ≤ n := by omega
    have HM := Lib.hid hm
    have hsz := hb.size
    clear hm
    rcases Nat.eq_zero_or_pos k with h0 | h0
    · subst h0
      have hneg : ¬ ((0 : Int) ≤ ((0 : Nat) : Int) - 1) := by omega
      have HE := Lib.hid (show m = xs.reverse.length by rw [List.length_reverse]; have := HM.out; omega)
      rw [List.drop_zero] at hown
      go_wp2_with fail
      go_ret
      exact ⟨A1, c1, by rw [← HE.out]; rfl, by rw [← HE.out]; exact (own_caps hown).1, (own_caps hown).2, by rw [← HE.out]; first | exact hown | simpa using hown, hb⟩
    · obtain ⟨j, hj⟩ : ∃ j : Nat, (j : Int) = (k : Int) - 1 := ⟨k - 1, by omega⟩
      have hjx : j < xs.length := by omega
      obtain ⟨b, off, rfl, _, hc⟩ := (hx.next hb) (by omega)
      have cc := hc j hjx
      have HT := Lib.hid (show (xs.drop j).reverse = (xs.drop k).reverse ++ [xs[j]] by rw [rev_take xs j hjx, show j + 1 = k by omega])
      have HJ := Lib.hid hj
      have hjn : j < n := by omega
      have hjk : j < k := by omega
      have HMJ := Lib.hid (show m + 1 = n - j by have := HM.out; omega)
      rw [← hj]
      clear hc hj
      go_wp2_with (at_builtin; refine wpList_append_own _ rfl _ _ 24 rfl (w.heap.size) 3 i0 (.int .i64 0) 1 8 Try.underlying24 hi hz0 hz1 hz2 rfl (by decide) _ _ _ rfl (World.ownsRow.alloc hown _) ⟨wr.heap.size, 0, none⟩ 1 1 [.int .i64 (xs[j])] rfl rfl (cell_one_new _ _ _) (by intro u hu; simp at hu; subst hu; rfl) (by unfold maxLen; omega) (by omega) (by simp; omega) ?_; intro v1 w1 hown1 hgrow1 _)
      have hS2 : w1.ownsRow w.heap.size 3 1 v1 (m + 1) (((xs.drop j).reverse).map (Value.int .i64)) := by rw [HT.out]; simpa using hown1
      have hb1 := (hb.alloc hsz (Obj.cells #[Value.int .i64 xs[j]] 3)).grown hgrow1 (by simp; omega) (by intro g hg; exact ((hown.lt g hg).1))
      obtain ⟨A2, c2, rfl, _, _⟩ := own_shape hS2
      have H1 := Lib.hid hS2
      have H2 := Lib.hid hb1
      clear hS2 hown1 hgrow1 hb1 hown hb
      go_wp2
      go_roundw
      case rel => exact ⟨j, m + 1, A2, c2, by omega, HMJ.out, by go_num, rfl, H1.out, H2.out⟩
      case measure => (simp [intOf]) <;> omega
/-- Ascending by neighbors. -/
def sortB (xs : List Int) : Bool := (List.range (xs.length - 1)).all fun i => decide (xs[i]?.getD 0 ≤ xs[i + 1]?.getD 0)
theorem nums_get (n i : Nat) (h : i < n) : (nums n)[i]? = some ((i : Int) + 1) := by simp [nums, h]
theorem sort_perm {xs : List Int} (h : permB xs = true) : sortB xs = decide (xs = nums xs.length) := by
  obtain ⟨_, hr, hn⟩ := permB_true h
  rw [Bool.eq_iff_iff, decide_eq_true_eq]
  constructor
  · intro hs
    have hlt : ∀ i (h1 : i + 1 < xs.length), xs[i] < xs[i + 1] := fun i h1 => by
      have h2 := List.all_eq_true.1 hs i (List.mem_range.2 (by omega))
      rw [List.getElem?_eq_getElem (show i < xs.length by omega), List.getElem?_eq_getElem h1] at h2
      have h3 : xs[i] ≤ xs[i + 1] := by simpa using h2
      rcases Int.lt_or_eq_of_le h3 with h4 | h4
      · exact h4
      · have := nodup_inj hn _ _ h4
        omega
    have hge : ∀ i (h1 : i < xs.length), (i : Int) + 1 ≤ xs[i] := by
      intro i
      induction i with
      | zero => intro h1; have := (hr xs[0] (List.getElem_mem h1)).1; omega
      | succ i ih => intro h1; have h2 := ih (by omega); have h3 := hlt i h1; push_cast; omega
    have hle : ∀ d i (h1 : i < xs.length), xs.length - 1 - i = d → xs[i] ≤ (i : Int) + 1 := by
      intro d
      induction d with
      | zero => intro i h1 hd; have := (hr xs[i] (List.getElem_mem h1)).2; omega
      | succ d ih => intro i h1 hd; have h2 := ih (i + 1) (by omega) (by omega); have h3 := hlt i (by omega); push_cast at h2; omega
    apply List.ext_getElem?
    intro i
    by_cases hi : i < xs.length
    · rw [nums_get _ _ hi, List.getElem?_eq_getElem hi]
      have h1 := hge i hi
      have h2 := hle _ i hi rfl
      congr 1
      omega
    · rw [List.getElem?_eq_none (by omega), List.getElem?_eq_none (by rw [nums_length]; omega)]
  · intro he
    unfold sortB
    rw [List.all_eq_true]
    intro i hi
    have hi := List.mem_range.1 hi
    have h1 : xs[i]? = some ((i : Int) + 1) := by rw [he]; exact nums_get _ _ (by omega)
    have h2 : xs[i + 1]? = some (((i + 1 : Nat) : Int) + 1) := by rw [he]; exact nums_get _ _ (by omega)
    rw [h1, h2]
    simp only [Option.getD_some, decide_eq_true_eq]
    push_cast
    omega
end Go.Proofs.Ythipikllgpnlhaa
