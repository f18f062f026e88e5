/- Several texts in one, each with its own head: V1, V4, V3, V2, G9, D4, DM, D8, D9, D10, Y1. No program of ours. -/
import Derived.RegionTactic
import Derived.ChangeAlike
import Derived.Deep.RegionHeld3
import Derived.Deep.AppendLies
import Derived.Lib.SliceRun
import Derived.Test.YtodloeonlaljpaaGreatDoorMClasses6
/- A list from its end: slices.Reverse in place, reverse, l3Reverse; ascending and descending lists. -/
namespace Go.Proofs.YtodloeonlaljpaaGreatDoor
set_option maxRecDepth 100000
open Go Go.RowKit

/-- The cell of a list's row, the list's address known. -/
theorem Read.cellAt {w : World} {B b off c : Nat} {rs : List Row} (h : Read w B rs [⟨some ⟨b, off, none⟩, c, rs.map Row.v⟩]) (j : Nat) (hj : j < rs.length) : w.cell? ⟨b, off + j, none⟩ = some (Value.slice rs[j].A rs[j].xs.length rs[j].c) := by
  obtain ⟨b', off', he, _, hc⟩ := h.at (by omega)
  injection he with he
  injection he with he1 he2 _
  subst he1 he2
  exact hc j hj
/-- The first and the last i places are exchanged. -/
def revTo (xs : List Int) (i : Nat) : List Int := (List.range xs.length).map fun t => if t < i ∨ xs.length ≤ t + i then xs[xs.length - 1 - t]?.getD 0 else xs[t]?.getD 0
theorem revTo_length (xs : List Int) (i : Nat) : (revTo xs i).length = xs.length := by simp [revTo]
theorem revTo_get (xs : List Int) (i t : Nat) (h : t < xs.length) : (revTo xs i)[t]? = some (if t < i ∨ xs.length ≤ t + i then xs[xs.length - 1 - t]?.getD 0 else xs[t]?.getD 0) := by
  simp [revTo, h]
theorem revTo_zero (xs : List Int) : revTo xs 0 = xs := by
  apply List.ext_getElem?
  intro t
  by_cases h : t < xs.length
  · rw [revTo_get xs 0 t h, if_neg (by omega), List.getElem?_eq_getElem h]; rfl
  · rw [List.getElem?_eq_none (by rw [revTo_length]; omega), List.getElem?_eq_none (by omega)]
theorem revTo_all (xs : List Int) (i : Nat) (h : xs.length ≤ 2 * i + 1) : revTo xs i = xs.reverse := by
  apply List.ext_getElem?
  intro t
  by_cases ht : t < xs.length
  · rw [revTo_get xs i t ht, List.getElem?_reverse ht]
    by_cases hc : t < i ∨ xs.length ≤ t + i
    · rw [if_pos hc, List.getElem?_eq_getElem (by omega)]; rfl
    · rw [if_neg hc]
      have : xs.length - 1 - t = t := by omega
      rw [this, List.getElem?_eq_getElem ht]; rfl
  · rw [List.getElem?_eq_none (by rw [revTo_length]; omega), List.getElem?_eq_none (by rw [List.length_reverse]; omega)]
theorem revTo_succ (xs : List Int) (i : Nat) (h : 2 * i + 1 < xs.length) : ((revTo xs i).set i (xs[xs.length - 1 - i]?.getD 0)).set (xs.length - 1 - i) (xs[i]?.getD 0) = revTo xs (i + 1) := by
  apply List.ext_getElem?
  intro t
  by_cases ht : t < xs.length
  · rw [revTo_get xs (i + 1) t ht, List.getElem?_set, List.getElem?_set, List.length_set, revTo_length, revTo_get xs i t ht]
    by_cases h1 : xs.length - 1 - i = t
    · subst h1
      rw [if_pos rfl, if_pos (by omega), if_pos (by omega)]
      rw [show xs.length - 1 - (xs.length - 1 - i) = i by omega]
    · rw [if_neg h1]
      by_cases h2 : i = t
      · subst h2
        rw [if_pos rfl, if_pos (by omega), if_pos (by omega)]
      · rw [if_neg h2]
        by_cases h3 : t < i ∨ xs.length ≤ t + i
        · rw [if_pos h3, if_pos (by omega)]
        · rw [if_neg h3, if_neg (by omega)]
  · rw [List.getElem?_eq_none (by rw [List.length_set, List.length_set, revTo_length]; omega), List.getElem?_eq_none (by rw [revTo_length]; omega)]
theorem revTo_at (xs : List Int) (i t : Nat) (h : t < xs.length) (h1 : i ≤ t) (h2 : t + i < xs.length) : ((revTo xs i).map (Value.int .i64))[t]? = some (.int .i64 xs[t]) := by
  rw [List.getElem?_map, revTo_get xs i t h, if_neg (by omega), List.getElem?_eq_getElem h]; rfl

/-- Ascending by neighbors. -/
def sortB (xs : List Int) : Bool := (List.range (xs.length - 1)).all fun i => decide (xs[i]?.getD 0 ≤ xs[i + 1]?.getD 0)
theorem nums_get (n i : Nat) (h : i < n) : (nums n)[i]? = some ((i : Int) + 1) := by simp [nums, h]
theorem sort_perm {xs : List Int} (h : permB xs = true) : sortB xs = decide (xs = nums xs.length) := by
  obtain ⟨_, hr, hn⟩ := permB_true h
  rw [Bool.eq_iff_iff, decide_eq_true_eq]
  constructor
  · intro hs
    have hlt : ∀ i (h1 : i + 1 < xs.length), xs[i] < xs[i + 1] := fun i h1 => by
      have h2 := List.all_eq_true.1 hs i (List.mem_range.2 (by omega))
      rw [List.getElem?_eq_getElem (show i < xs.length by omega), List.getElem?_eq_getElem h1] at h2
      have h3 : xs[i] ≤ xs[i + 1] := by simpa using h2
      rcases Int.lt_or_eq_of_le h3 with h4 | h4
      · exact h4
      · have := nodup_inj hn _ _ h4
        omega
    have hge : ∀ i (h1 : i < xs.length), (i : Int) + 1 ≤ xs[i] := by
      intro i
      induction i with
      | zero => intro h1; have := (hr xs[0] (List.getElem_mem h1)).1; omega
      | succ i ih => intro h1; have h2 := ih (by omega); have h3 := hlt i h1; push_cast; omega
    have hle : ∀ d i (h1 : i < xs.length), xs.length - 1 - i = d → xs[i] ≤ (i : Int) + 1 := by
      intro d
      induction d with
      | zero => intro i h1 hd; have := (hr xs[i] (List.getElem_mem h1)).2; omega
      | succ d ih => intro i h1 hd; have h2 := ih (i + 1) (by omega) (by omega); have h3 := hlt i (by omega); push_cast at h2; omega
    apply List.ext_getElem?
    intro i
    by_cases hi : i < xs.length
    · rw [nums_get _ _ hi, List.getElem?_eq_getElem hi]
      have h1 := hge i hi
      have h2 := hle _ i hi rfl
      congr 1
      omega
    · rw [List.getElem?_eq_none (by omega), List.getElem?_eq_none (by rw [nums_length]; omega)]
  · intro he
    unfold sortB
    rw [List.all_eq_true]
    intro i hi
    have hi := List.mem_range.1 hi
    have h1 : xs[i]? = some ((i : Int) + 1) := by rw [he]; exact nums_get _ _ (by omega)
    have h2 : xs[i + 1]? = some (((i + 1 : Nat) : Int) + 1) := by rw [he]; exact nums_get _ _ (by omega)
    rw [h1, h2]
    simp only [Option.getD_some, decide_eq_true_eq]
    push_cast
    omega
end Go.Proofs.YtodloeonlaljpaaGreatDoor

/- ReversePerm and InversePerm of the reference. -/
namespace Go.Proofs.YtodloeonlaljpaaGreatDoor
set_option maxRecDepth 100000
open Go Go.RowKit

def revG (p : List Int) : List Int := if permB p = true then p.reverse else []
theorem revG_length (p : List Int) : (revG p).length ≤ p.length := by unfold revG; split <;> simp
end Go.Proofs.YtodloeonlaljpaaGreatDoor

/- IsSumClosed, program and reference. -/
namespace Go.Proofs.YtodloeonlaljpaaGreatDoor
set_option maxRecDepth 100000
open Go Go.RowKit

/-- The greatest of the first k. -/
def pmax (p : List Int) (k : Nat) : Int := (p.take k).foldl max 0
theorem pmax_succ (p : List Int) (k : Nat) (h : k < p.length) : pmax p (k + 1) = max (pmax p k) p[k] := by
  unfold pmax
  rw [List.take_succ_eq_append_getElem h, List.foldl_append]; rfl
theorem pmax_bd {p : List Int} (hb : ∀ v ∈ p, 1 ≤ v ∧ v ≤ 8) (k : Nat) : 0 ≤ pmax p k ∧ pmax p k ≤ 8 := by
  induction k with
  | zero => simp [pmax]
  | succ k ih =>
    by_cases h : k < p.length
    · rw [pmax_succ p k h]
      have := hb p[k] (List.getElem_mem h)
      omega
    · unfold pmax at ih ⊢
      rw [List.take_of_length_le (by omega)] at ih ⊢
      exact ih
/-- How many sum parts end within the first k. -/
def sumN (p : List Int) (k : Nat) : Nat := ((List.range k).filter fun i => decide (pmax p (i + 1) = (i : Int) + 1)).length
theorem sumN_succ (p : List Int) (k : Nat) : sumN p (k + 1) = if pmax p (k + 1) = (k : Int) + 1 then sumN p k + 1 else sumN p k := by
  unfold sumN
  rw [List.range_succ, List.filter_append]
  by_cases h : pmax p (k + 1) = (k : Int) + 1 <;> simp [h]
theorem sumN_le (p : List Int) (k : Nat) : sumN p k ≤ k := Nat.le_trans (List.length_filter_le _ _) (by simp)
def scG (X : List (List Int)) : Bool := basisB X && !X.any fun p => decide (1 < sumN p p.length)
/-- A call's result: a list of n rows, whatever they are. -/
def RetLen (w : World) (n : Nat) (e : Ending) (w' : World) : Prop := ∃ A c, e = .returned (.slice A n c) ∧ Below w.heap.size w w'


def sumG (p : List Int) : Nat := if permB p = true then sumN p p.length else 0

end Go.Proofs.YtodloeonlaljpaaGreatDoor

/- IsFinite, program and reference. -/
namespace Go.Proofs.YtodloeonlaljpaaGreatDoor
set_option maxRecDepth 100000
open Go Go.RowKit

def riseB (p : List Int) : Bool := decide (p = nums p.length)
def fallB (p : List Int) : Bool := decide (p = (nums p.length).reverse)
theorem fall_rev (p : List Int) : riseB p.reverse = fallB p := by
  unfold riseB fallB
  rw [decide_eq_decide, List.length_reverse]
  constructor
  · intro h; rw [← h, List.reverse_reverse]
  · intro h; conv => lhs; rw [h]
    rw [List.reverse_reverse]
def finG (X : List (List Int)) : Bool := basisB X && X.any riseB && X.any fallB

end Go.Proofs.YtodloeonlaljpaaGreatDoor

/- ClassCounts, program and reference. -/
namespace Go.Proofs.YtodloeonlaljpaaGreatDoor
set_option maxRecDepth 100000
open Go Go.RowKit

def ccG (X : List (List Int)) (n : Int) : List Int := if basisB X = true ∧ sixB n = true then (List.range (n.toNat + 1)).map fun k => ((clsL X k).length : Int) else []
theorem ccG_le (X : List (List Int)) (n : Int) : (ccG X n).length ≤ 1048576 := by
  unfold ccG
  by_cases h : basisB X = true ∧ sixB n = true
  · rw [if_pos h]
    have h6 : 0 ≤ n ∧ n ≤ 6 := by simpa [sixB] using h.2
    simp
    omega
  · rw [if_neg h]; simp
def cntsTo (F : Nat → Nat) (k : Nat) : List Int := (List.range k).map fun j => (F j : Int)
theorem cntsTo_succ (F : Nat → Nat) (k : Nat) : cntsTo F (k + 1) = cntsTo F k ++ [(F k : Int)] := by simp [cntsTo, List.range_succ]
theorem cntsTo_length (F : Nat → Nat) (k : Nat) : (cntsTo F k).length = k := by simp [cntsTo]

theorem grown_drewW {w w' : World} {row : Option Nat} (h : w.drew.grownBy w' row) : w.grownBy w' row := ⟨h.os, h.tape, h.output, h.size, h.block⟩

set_option maxHeartbeats 2000000 in
theorem classCounts_impl (A : Option Addr) (c : Nat) (qs : List Row) (n : Int) (_ : -9223372036854775808 ≤ n ∧ n ≤ 9223372036854775807) (w : World) (h : InL w A c qs) :
    Calls Tryz.prog 6 #[.slice A qs.length c, .int .i64 n] w (Ret (Value.int .i64) 3 w (ccG (qs.map Row.xs) n)) := by
  obtain ⟨i0, hi, hz0, hz1, hz2⟩ := info_parts infoI
  by_cases hB : basisB (qs.map Row.xs) = true
  · have H1 := Lib.hid hB
    have hr8 := rows_8 (basis_perm hB)
    clear hB
    go_enter Tryz.func6, Tryz.ntmps6
    go_wp2_with fail
    (with_reducible refine (basis_ib A c qs w true h H1.out).mono ?_)
    rintro e w1 ⟨rfl, hb1⟩
    go_wp2_with fail
    by_cases h6 : sixB n = true
    · have h6' : 0 ≤ n ∧ n ≤ 6 := by simpa [sixB] using h6
      obtain ⟨m, rfl⟩ := Int.eq_ofNat_of_zero_le h6'.1
      have hm : m ≤ 6 := by omega
      have HG := Lib.hid (show ccG (qs.map Row.xs) m = cntsTo (fun k => (clsL (qs.map Row.xs) k).length) (m + 1) by unfold ccG; rw [if_pos ⟨H1.out, h6⟩]; rfl)
      (with_reducible refine (isSix_any (m : Int) w1 true h6).mono ?_)
      rintro e w' ⟨rfl, rfl⟩
      clear h6 h6'
      have hsz1 := hb1.size
      have hown0 : (w1.alloc (.cells #[] 3)).ownsRow w.heap.size 3 1 (.slice (some ⟨w1.heap.size, 0, none⟩) 0 0) 0 ((cntsTo (fun k => (clsL (qs.map Row.xs) k).length) 0).map (Value.int .i64)) := World.ownsRow_lit w1 #[] 0 hsz1 (by unfold maxLen; omega) rfl
      have hb0 := hb1.alloc hsz1 (.cells #[] 3)
      go_wp2_with fail
      go_loopw [5, 18] (fun v i wr => ∃ (k : Nat) (A1 : Option Addr) (c1 : Nat), k ≤ m + 1 ∧ i = .int .i64 k ∧ v = .slice A1 k c1 ∧ wr.ownsRow w.heap.size 3 1 (.slice A1 k c1) k ((cntsTo (fun k => (clsL (qs.map Row.xs) k).length) k).map (Value.int .i64)) ∧ Below w.heap.size w wr) (fun _ i _ => m + 1 - (intOf i).toNat)
      case atStart => exact ⟨0, _, _, Nat.zero_le _, rfl, rfl, hown0, hb0⟩
      case round =>
        clear hown0 hb0
        obtain ⟨k, A1, c1, hk, rfl, rfl, hown, hb⟩ := hrel
        rcases Nat.lt_or_ge k (m + 1) with hlt | hge
        · have HS := Lib.hid (cntsTo_succ (fun k => (clsL (qs.map Row.xs) k).length) k)
          go_wp2_with fail
          (with_reducible refine (class_impl A c k qs wr (h.next hb) hr8 (by omega)).mono ?_)
          rintro e w2 ⟨A2, c2, rs, rfl, hX, hO, hb2⟩
          have HL := Lib.hid (show (clsL (qs.map Row.xs) k).length = rs.length by rw [← hX, List.length_map])
          have hown2 := own_below hown hb2
          have hbw := hb.trans (hb2.mono hb.size)
          have hszw := hbw.size
          clear hown hX hO hb2
          go_wp2_with (at_builtin; refine wpList_append_own _ rfl _ _ 27 rfl (w.heap.size) 3 i0 (.int .i64 0) 1 8 Tryz.underlying27 hi hz0 hz1 hz2 rfl (by decide) _ _ _ rfl (World.ownsRow.alloc hown2 _) ⟨w2.heap.size, 0, none⟩ 1 1 [.int .i64 ((rs.length : Int))] rfl rfl (cell_one_new _ _ _) (by intro u hu; simp at hu; subst hu; rfl) (by unfold maxLen; omega) (by omega) (by simp; omega) ?_; intro v7 w7 hown7 hgrow7 _)
          have hS2 : w7.ownsRow w.heap.size 3 1 v7 (k + 1) ((cntsTo (fun k => (clsL (qs.map Row.xs) k).length) (k + 1)).map (Value.int .i64)) := by rw [HS.out, HL.out]; simpa using hown7
          have hb3 := (hbw.alloc hszw _).grown hgrow7 (by simp; omega) (fun g hg => (hown2.lt g hg).1)
          obtain ⟨A3, c3, rfl, _, _⟩ := own_shape hS2
          have K := Lib.hid (And.intro hS2 hb3)
          clear hS2 hown7 hgrow7 hb3 hown2 hbw
          go_wp2
          go_roundw
          case rel => exact ⟨k + 1, A3, c3, by omega, by go_num, rfl, K.out.1, K.out.2⟩
          case measure => simp [intOf]; omega
        · obtain rfl : k = m + 1 := by omega
          have HL := Lib.hid (cntsTo_length (fun k => (clsL (qs.map Row.xs) k).length) (m + 1))
          go_wp2
          go_ret
          rw [HG.out]
          exact ⟨A1, c1, by rw [HL.out]; rfl, by rw [HL.out]; exact (own_caps hown).1, (own_caps hown).2, by rw [HL.out]; exact hown, hb⟩
    · have h6f : sixB n = false := by simpa using h6
      have HG := Lib.hid (show ccG (qs.map Row.xs) n = [] by unfold ccG; rw [if_neg]; exact fun h => h6 h.2)
      (with_reducible refine (isSix_any n w1 false h6f).mono ?_)
      rintro e w' ⟨rfl, rfl⟩
      clear h6 h6f
      go_wp2_with fail
      go_ret
      rw [HG.out]
      exact ⟨none, 0, rfl, Nat.le_refl _, Nat.zero_le _, World.ownsRow_nil _ _ _ _, hb1⟩
  · have hBf : basisB (qs.map Row.xs) = false := by simpa using hB
    have H1 := Lib.hid hBf
    have HG := Lib.hid (show ccG (qs.map Row.xs) n = [] by unfold ccG; rw [if_neg]; exact fun h => hB h.1)
    clear hB hBf
    go_enter Tryz.func6, Tryz.ntmps6
    go_wp2_with fail
    (with_reducible refine (basis_ib A c qs w false h H1.out).mono ?_)
    rintro e w1 ⟨rfl, hb1⟩
    go_wp2_with fail
    go_ret
    rw [HG.out]
    exact ⟨none, 0, rfl, Nat.le_refl _, Nat.zero_le _, World.ownsRow_nil _ _ _ _, hb1⟩

def nxTo (X : List (List Int)) (q : List Int) (u : Nat) : List (List Int) := ((nums u).map (child q)).filter (avoidB X)
theorem nxTo_succ (X : List (List Int)) (q : List Int) (u : Nat) : nxTo X q (u + 1) = if avoidB X (child q ((u : Int) + 1)) = true then nxTo X q u ++ [child q ((u : Int) + 1)] else nxTo X q u := by
  unfold nxTo
  rw [nums_succ, List.map_append, List.filter_append]
  by_cases h : avoidB X (child q ((u : Int) + 1)) = true <;> simp [h]
theorem nxTo_le (X : List (List Int)) (q : List Int) (u : Nat) : (nxTo X q u).length ≤ u := by
  unfold nxTo
  have := List.length_filter_le (avoidB X) ((nums u).map (child q))
  rw [List.length_map, nums_length] at this
  exact this
theorem nextL_take_le (X L : List (List Int)) (n k : Nat) : (nextL X (L.take k) n).length ≤ L.length * n := by
  have h1 := flatMap_le (fun q => ((nums n).map (child q)).filter (avoidB X)) n (L.take k) (fun q _ => nxTo_le X q n)
  have h2 : (L.take k).length ≤ L.length := by simp; omega
  exact Nat.le_trans h1 (Nat.mul_le_mul_right n h2)
theorem nextL_succ (X L : List (List Int)) (n k : Nat) (h : k < L.length) : nextL X (L.take (k + 1)) n = nextL X (L.take k) n ++ nxTo X L[k] n := by
  unfold nextL
  rw [flatMap_take _ _ _ h]; rfl
set_option maxHeartbeats 8000000 in
theorem l12Next_any (A : Option Addr) (c : Nat) (qs : List Row) (B : Option Addr) (d n : Nat) (ls : List Row) (w : World) (h : InL w A c qs) (hr8 : ∀ r ∈ qs, r.xs.length ≤ 8) (hn : n ≤ 6)
    (hR : Read w w.heap.size ls [⟨B, d, ls.map Row.v⟩]) (hll : ls.length ≤ 46656) (hl5 : ∀ r ∈ ls, r.xs.length ≤ 5 ∧ ∀ x ∈ r.xs, 1 ≤ x ∧ x ≤ 8) :
    Calls Tryz.prog 83 #[.slice A qs.length c, .slice B ls.length d, .int .i64 n] w (RetL w (nextL (qs.map Row.xs) (ls.map Row.xs) n)) := by
  obtain ⟨i0, hi, hz0, hz1, hz2⟩ := info_parts infoI
  obtain ⟨j0, hj, hy0, hy1, hy2⟩ := info_parts infoL
  have hlit := Own.lit (lo := w.heap.size) w (Nat.le_refl _)
  have hb0 := (Below.refl w.heap.size w).alloc (Nat.le_refl _) (.cells #[] 27)
  go_enter Tryz.func83, Tryz.ntmps83
  go_wp2_with fail
  go_loopw [7, 8] (fun v i wr => ∃ (k : Nat) (A1 : Option Addr) (c1 : Nat) (rs : List Row), k ≤ ls.length ∧ i = .int .i64 k ∧ v = .slice A1 rs.length c1 ∧ Hid (rs.map Row.xs = nextL (qs.map Row.xs) ((ls.map Row.xs).take k) n) ∧ Own wr w.heap.size wr.heap.size rs [⟨A1, c1, rs.map Row.v⟩] ∧ Below w.heap.size w wr) (fun _ i _ => ls.length - (intOf i).toNat)
  case atStart => exact ⟨0, _, _, [], Nat.zero_le _, rfl, rfl, Lib.hid rfl, hlit, hb0⟩
  case round =>
    clear hlit hb0
    obtain ⟨k, A1, c1, rs, hk, rfl, rfl, HX, hO, hb⟩ := hrel
    rcases Nat.lt_or_ge k ls.length with hlt | hge
    · have hq5 := hl5 ls[k] (List.getElem_mem hlt)
      obtain ⟨q, hqe⟩ : ∃ q : Row, q = ls[k] := ⟨_, rfl⟩
      have HQ := Lib.hid hqe
      rw [← hqe] at hq5
      obtain ⟨hq5, hqv⟩ := hq5
      have HNX := Lib.hid (show nextL (qs.map Row.xs) ((ls.map Row.xs).take (k + 1)) n = nextL (qs.map Row.xs) ((ls.map Row.xs).take k) n ++ nxTo (qs.map Row.xs) q.xs n by
        rw [nextL_succ _ _ _ _ (by simpa using hlt)]; simp [hqe])
      clear hqe
      go_wp2_with fail
      go_loopw [7, 9] (fun v i wr => ∃ (u : Nat) (A2 : Option Addr) (c2 : Nat) (rs2 : List Row), u ≤ n ∧ i = .int .i64 ((u : Int) + 1) ∧ v = .slice A2 rs2.length c2 ∧ Hid (rs2.map Row.xs = nextL (qs.map Row.xs) ((ls.map Row.xs).take k) n ++ nxTo (qs.map Row.xs) q.xs u) ∧ Own wr w.heap.size wr.heap.size rs2 [⟨A2, c2, rs2.map Row.v⟩] ∧ Below w.heap.size w wr) (fun _ i _ => n + 1 - (intOf i).toNat)
      case atStart => exact ⟨0, _, _, rs, Nat.zero_le _, rfl, rfl, Lib.hid (by rw [HX.out]; simp [nxTo, nums]), hO, hb⟩
      case round =>
        clear hO hb HX
        obtain ⟨u, A2, c2, rs2, hu, rfl, rfl, HX2, hO2, hb2⟩ := hrel
        have hcnt : rs2.length ≤ 46656 * 6 + 6 := by
          have h1 := congrArg List.length HX2.out
          have h2 := nextL_take_le (qs.map Row.xs) (ls.map Row.xs) n k
          have h3 := nxTo_le (qs.map Row.xs) q.xs u
          rw [List.length_append, List.length_map] at h1
          rw [List.length_map] at h2
          have h4 := Nat.mul_le_mul hll hn
          omega
        rcases Nat.lt_or_ge u n with hlt2 | hge2
        · obtain ⟨wo, rfl⟩ : ∃ wo : World, wo = wr := ⟨_, rfl⟩
          have hown0 : (wo.alloc (.cells #[] 3)).ownsRow wo.heap.size 3 1 (.slice (some ⟨wo.heap.size, 0, none⟩) 0 0) 0 (((q.xs.take 0).map (bump ((u : Int) + 1))).map (Value.int .i64)) := World.ownsRow_lit wo #[] 0 (Nat.le_refl _) (by unfold maxLen; omega) rfl
          have hb3 := (Below.refl wo.heap.size wo).alloc (Nat.le_refl _) (.cells #[] 3)
          have hszo := hb2.size
          have HNS := Lib.hid (nxTo_succ (qs.map Row.xs) q.xs u)
          have hun : (u : Int) + 1 ≤ (n : Int) := by omega
          go_wp2_with fail
          go_loopw [10, 11] (fun v i wr => ∃ (i' : Nat) (A3 : Option Addr) (c3 : Nat), i' ≤ q.xs.length ∧ i = .int .i64 i' ∧ v = .slice A3 i' c3 ∧ wr.ownsRow wo.heap.size 3 1 (.slice A3 i' c3) i' (((q.xs.take i').map (bump ((u : Int) + 1))).map (Value.int .i64)) ∧ Below wo.heap.size wo wr) (fun _ i _ => q.xs.length - (intOf i).toNat)
          case atStart => exact ⟨0, _, _, Nat.zero_le _, rfl, rfl, hown0, hb3⟩
          case round =>
            clear hown0 hb3
            obtain ⟨j, A3, c3, hj, rfl, rfl, hown, hb3⟩ := hrel
            have hbw := hb2.trans (hb3.mono hszo)
            have hRr := hR.below hbw
            obtain ⟨bl, ol, rfl, hbl, hcl⟩ := hRr.at (by omega)
            have g1 : wr.cell? ⟨bl, ol + k, none⟩ = some (Value.slice q.A q.xs.length q.c) := by rw [HQ.out]; exact hcl k hlt
            clear hcl
            rcases Nat.lt_or_ge j q.xs.length with hjl | hjg
            · have hrq := hRr.rd q (by rw [HQ.out]; exact List.getElem_mem hlt)
              obtain ⟨bq, oq, hqA, hbq, hcq⟩ := hrq (by omega)
              have g2 := hcq j hjl
              have hvj := hqv q.xs[j] (List.getElem_mem hjl)
              have hsz3 := hb3.size
              have hblo : bl < wo.heap.size := by omega
              have HT := Lib.hid (show (q.xs.take (j + 1)).map (bump ((u : Int) + 1)) = (q.xs.take j).map (bump ((u : Int) + 1)) ++ [bump ((u : Int) + 1) q.xs[j]] by rw [List.take_succ_eq_append_getElem hjl, List.map_append]; rfl)
              rw [hqA] at g1
              have g1d : wr.drew.cell? ⟨bl, ol + k, none⟩ = some (Value.slice (some ⟨bq, oq, none⟩) q.xs.length q.c) := g1
              have g2d : wr.drew.cell? ⟨bq, oq + j, none⟩ = some (.int .i64 q.xs[j]) := g2
              obtain ⟨x, hx⟩ : ∃ x : Int, x = q.xs[j] := ⟨_, rfl⟩
              rw [← hx] at HT g2 g2d hvj
              clear hx hcq
              have hx8 := hvj
              have HJ := Lib.hid hj
              have HQ5 := Lib.hid hq5
              have HJ1 := Lib.hid (Nat.succ_le_of_lt hjl)
              by_cases hge : (u : Int) + 1 ≤ x
              · have HB := Lib.hid (show bump ((u : Int) + 1) x = x + 1 by unfold bump; rw [if_pos hge])
                have hwr : IntKind.i64.wrap (x + 1) = x + 1 := IntWalk.i64_in _ (by omega)
                go_wp2_with fail
                go_region_held3 (fun v => v.cell? ⟨bl, ol + k, none⟩ = some (Value.slice (some ⟨bq, oq, none⟩) q.xs.length q.c) ∧ v.cell? ⟨bq, oq + j, none⟩ = some (.int .i64 x)) (first | exact ⟨g1d, g2d⟩ | exact ⟨(World.cell?_alloc_lt wr _ _ (by show bl < wr.heap.size; omega)).trans g1, (World.cell?_alloc_lt wr _ _ (by show bq < wr.heap.size; omega)).trans g2⟩ | exact ⟨g19, g29⟩) ((first | (go_at_call 52; (with_reducible refine (l1Bit_b true 1 _ rfl).mono ?_); rintro e w' ⟨rfl, rfl⟩) | (refine step_append_lies _ (by rfl) _ _ _ (by rfl) wo.heap.size 3 i0 (.int .i64 0) 1 8 Tryz.underlying27 hi hz0 hz1 hz2 rfl (by decide) (Value.slice A3 j c3) j _ (by rfl) ((World.ownsRow.alloc hown _).drew) ⟨wr.heap.size, 0, none⟩ 1 1 [.int .i64 (x + 1)] (by rfl) (by rfl) (cell_one_new _ _ _) (by intro u hu; simp at hu; subst hu; rfl) (by omega) (by unfold maxLen; omega) (by omega) (by simp; omega) (wr.heap.size + 1) (by simp) ?_; intro gg cap w9 hown9 hgrow9 hat hlt9; have g19 : w9.cell? ⟨bl, ol + k, none⟩ = some (Value.slice (some ⟨bq, oq, none⟩) q.xs.length q.c) := (grown_drewW hgrow9).cell ((World.cell?_alloc_lt wr _ _ (by show bl < wr.heap.size; omega)).trans g1) (by intro he; have := (hown.lt _ he.symm).1; simp at this; omega); have g29 : w9.cell? ⟨bq, oq + j, none⟩ = some (.int .i64 x) := (grown_drewW hgrow9).cell ((World.cell?_alloc_lt wr _ _ (by show bq < wr.heap.size; omega)).trans g2) (by intro he; have := (hown.lt _ he.symm).1; simp at this; omega)) | fail))
                have hb4 := (hb3.alloc hsz3 _).grown (grown_drewW hgrow9) (by simp; omega) (fun g hg => (hown.lt g hg).1)
                have K := Lib.hid (And.intro hown9 hb4)
                clear hown9 hgrow9 hb4 hat hlt9 g19 g29
                go_wp2_with fail
                go_roundw
                case rel => exact ⟨j + 1, _, cap, HJ1.out, by go_num, rfl, by rw [HT.out, HB.out, List.map_append]; exact K.out.1, K.out.2⟩
                case measure => simp [intOf]; have := HJ1.out; omega
              · have HB := Lib.hid (show bump ((u : Int) + 1) x = x by unfold bump; rw [if_neg hge, Int.add_zero])
                have hwr : IntKind.i64.wrap (x + 0) = x := by rw [Int.add_zero]; exact IntWalk.i64_in _ (by omega)
                have hwr2 : IntKind.i64.wrap x = x := IntWalk.i64_in _ (by omega)
                go_wp2_with fail
                go_region_held3 (fun v => v.cell? ⟨bl, ol + k, none⟩ = some (Value.slice (some ⟨bq, oq, none⟩) q.xs.length q.c) ∧ v.cell? ⟨bq, oq + j, none⟩ = some (.int .i64 x)) (first | exact ⟨g1d, g2d⟩ | exact ⟨(World.cell?_alloc_lt wr _ _ (by show bl < wr.heap.size; omega)).trans g1, (World.cell?_alloc_lt wr _ _ (by show bq < wr.heap.size; omega)).trans g2⟩ | exact ⟨g19, g29⟩) ((first | (go_at_call 52; (with_reducible refine (l1Bit_b (decide ((u : Int) + 1 ≤ x)) 0 _ (by rw [if_neg]; simpa using hge)).mono ?_); rintro e w' ⟨rfl, rfl⟩) | (refine step_append_lies _ (by rfl) _ _ _ (by rfl) wo.heap.size 3 i0 (.int .i64 0) 1 8 Tryz.underlying27 hi hz0 hz1 hz2 rfl (by decide) (Value.slice A3 j c3) j _ (by rfl) ((World.ownsRow.alloc hown _).drew) ⟨wr.heap.size, 0, none⟩ 1 1 [.int .i64 (x)] (by rfl) (by rfl) (cell_one_new _ _ _) (by intro u hu; simp at hu; subst hu; rfl) (by omega) (by unfold maxLen; omega) (by omega) (by simp; omega) (wr.heap.size + 1) (by simp) ?_; intro gg cap w9 hown9 hgrow9 hat hlt9; have g19 : w9.cell? ⟨bl, ol + k, none⟩ = some (Value.slice (some ⟨bq, oq, none⟩) q.xs.length q.c) := (grown_drewW hgrow9).cell ((World.cell?_alloc_lt wr _ _ (by show bl < wr.heap.size; omega)).trans g1) (by intro he; have := (hown.lt _ he.symm).1; simp at this; omega); have g29 : w9.cell? ⟨bq, oq + j, none⟩ = some (.int .i64 x) := (grown_drewW hgrow9).cell ((World.cell?_alloc_lt wr _ _ (by show bq < wr.heap.size; omega)).trans g2) (by intro he; have := (hown.lt _ he.symm).1; simp at this; omega)) | fail))
                have hb4 := (hb3.alloc hsz3 _).grown (grown_drewW hgrow9) (by simp; omega) (fun g hg => (hown.lt g hg).1)
                have K := Lib.hid (And.intro hown9 hb4)
                clear hown9 hgrow9 hb4 hat hlt9 g19 g29
                go_wp2_with fail
                go_roundw
                case rel => exact ⟨j + 1, _, cap, HJ1.out, by go_num, rfl, by rw [HT.out, HB.out, List.map_append]; exact K.out.1, K.out.2⟩
                case measure => simp [intOf]; have := HJ1.out; omega
            · obtain rfl : j = q.xs.length := by omega
              have hch : (child q.xs ((u : Int) + 1)).length = q.xs.length + 1 := by simp [child]
              have hszr := hb3.size
              have HO3 := Lib.hid hO2
              clear hRr hj
              go_wp2_with (at_builtin; refine wpList_append_own _ rfl _ _ 27 rfl (wo.heap.size) 3 i0 (.int .i64 0) 1 8 Tryz.underlying27 hi hz0 hz1 hz2 rfl (by decide) _ _ _ rfl (World.ownsRow.alloc hown _) ⟨wr.heap.size, 0, none⟩ 1 1 [.int .i64 ((u : Int) + 1)] rfl rfl (cell_one_new _ _ _) (by intro u hu; simp at hu; subst hu; rfl) (by unfold maxLen; omega) (by omega) (by simp; omega) ?_; intro v7 w7 hown7 hgrow7 _)
              have hrow : w7.ownsRow wo.heap.size 3 1 v7 (q.xs.length + 1) ((child q.xs ((u : Int) + 1)).map (Value.int .i64)) := by simpa [child, List.take_of_length_le] using hown7
              have hb4 := (hb3.alloc hszr _).grown hgrow7 (by simp; omega) (fun g hg => (hown.lt g hg).1)
              obtain ⟨A4, c4, rfl, _, _⟩ := own_shape hrow
              have hrow2 : w7.ownsRow wo.heap.size 3 1 (Row.v ⟨A4, c4, child q.xs ((u : Int) + 1)⟩) (child q.xs ((u : Int) + 1)).length ((child q.xs ((u : Int) + 1)).map (Value.int .i64)) := by rw [hch]; simpa [Row.v, hch] using hrow
              have HR := Lib.hid hrow2
              have hin : In w7 A4 c4 (child q.xs ((u : Int) + 1)) := In.own (by rw [hch]; exact hrow) (by omega)
              have hbw4 := hb2.trans (hb4.mono hszo)
              have HCH := Lib.hid hch
              have hc8 : (child q.xs ((u : Int) + 1)).length ≤ 8 := by omega
              have hvv : Value.slice A4 (child q.xs ((u : Int) + 1)).length c4 = Value.slice A4 (q.xs.length + 1) c4 := by rw [hch]
              clear hown hb3 hrow hrow2 hown7 hgrow7 hch
              go_wp2_with fail
              by_cases hV : avoidB (qs.map Row.xs) (child q.xs ((u : Int) + 1)) = true
              · have HE2 := Lib.hid (show nxTo (qs.map Row.xs) q.xs (u + 1) = nxTo (qs.map Row.xs) q.xs u ++ [child q.xs ((u : Int) + 1)] by rw [HNS.out, if_pos hV])
                have ct := l12Avoids_b A A4 c c4 qs (child q.xs ((u : Int) + 1)) w7 true (h.next hbw4) hin hc8 hr8 hV
                rw [hvv] at ct
                (with_reducible refine ct.mono ?_)
                clear ct
                rintro e w8 ⟨rfl, hb8⟩
                have hsz4 := hb4.size
                have hb48 := hb4.trans (hb8.mono hsz4)
                have hbw8 := hbw4.trans (hb8.mono hbw4.size)
                have hsz8 := hb48.size
                have hO4 := (HO3.out.below hb48).add (own_below HR.out hb8) hsz8 hszo
                have hown2 := hO4.outN (n := rs2.length) (by simp)
                clear hV hvv hin hb4 hO2
                go_wp2_with (at_builtin; refine wpList_append_own _ rfl _ _ 24 rfl (w.heap.size) 27 j0 (.slice none 0 0) 1 24 Tryz.underlying24 hj hy0 hy1 hy2 rfl (by decide) _ _ _ rfl (World.ownsRow.alloc hown2 _) ⟨w8.heap.size, 0, none⟩ 1 1 [Value.slice A4 (q.xs.length + 1) c4] rfl rfl (cell_one_at _ _ (by simp)) (by intro u hu; simp at hu; subst hu; rfl) (by unfold maxLen; omega) (by omega) (by simp; omega) ?_; intro v9 w9 hown9 hgrow9 _)
                obtain ⟨A5, c5, rfl, hO6, hg3⟩ := hO4.grow (Nat.le_refl _) (by simp) hown9 hgrow9
                have hbw9 := hbw8.grown hg3 (by omega) (fun g hg => (hO4.olim (by simp) g hg).1)
                have K := Lib.hid (And.intro hO6 hbw9)
                clear hO6 hbw9 hown9 hgrow9 hg3 hO4 hown2 hbw8 hb48 hb8 hbw4
                go_wp2_with fail
                go_roundw
                case rel => exact ⟨u + 1, A5, c5, rs2 ++ [⟨A4, c4, child q.xs ((u : Int) + 1)⟩], by omega, by go_num, by rw [List.length_append]; rfl, Lib.hid (by rw [HE2.out, List.map_append, HX2.out]; simp), by simpa [Row.v, HCH.out] using K.out.1, K.out.2⟩
                case measure => simp [intOf]; omega
              · have hVf : avoidB (qs.map Row.xs) (child q.xs ((u : Int) + 1)) = false := by simpa using hV
                have HE2 := Lib.hid (show nxTo (qs.map Row.xs) q.xs (u + 1) = nxTo (qs.map Row.xs) q.xs u by rw [HNS.out, if_neg hV])
                have ct := l12Avoids_b A A4 c c4 qs (child q.xs ((u : Int) + 1)) w7 false (h.next hbw4) hin hc8 hr8 hVf
                rw [hvv] at ct
                (with_reducible refine ct.mono ?_)
                clear ct
                rintro e w8 ⟨rfl, hb8⟩
                have hsz4 := hb4.size
                have hb48 := hb4.trans (hb8.mono hsz4)
                have hbw8 := hbw4.trans (hb8.mono hbw4.size)
                have hsz8 := hb48.size
                have K := Lib.hid (And.intro ((HO3.out.below hb48).wider (Nat.le_refl _) hsz8) hbw8)
                clear hV hVf hvv hin hb4 hO2 hbw8 hb48 hb8 hbw4
                go_wp2_with fail
                go_roundw
                case rel => exact ⟨u + 1, A2, c2, rs2, by omega, by go_num, rfl, Lib.hid (by rw [HE2.out, HX2.out]), K.out.1, K.out.2⟩
                case measure => simp [intOf]; omega
        · obtain rfl : u = n := by omega
          have HE := Lib.hid (show rs2.map Row.xs = nextL (qs.map Row.xs) ((ls.map Row.xs).take (k + 1)) u by rw [HX2.out, HNX.out])
          go_wp2_with fail
          go_roundw
          case rel => exact ⟨k + 1, A2, c2, rs2, by omega, by go_num, rfl, HE, hO2, hb2⟩
          case measure => simp [intOf]; omega
    · obtain rfl : k = ls.length := by omega
      have HE := Lib.hid (show rs.map Row.xs = nextL (qs.map Row.xs) (ls.map Row.xs) n by rw [HX.out, List.take_of_length_le (by simp)])
      go_wp2_with fail
      go_ret
      exact ⟨A1, c1, rs, rfl, HE.out, hO, hb⟩
theorem infoLL : (Tryz.prog.info? 24).map (fun i => (i.zero, i.size, i.bytes)) = some (some (.slice none 0 0), 1, 24) := by kernel_rfl
/-- The cells tell each length's count. -/
def LensV (X : List (List Int)) (ts : List Value) (k : Nat) : Prop := ts.length = k ∧ ∀ j (h : j < ts.length), ∃ A c, ts[j] = .slice A (lastL X j).length c
theorem LensV.snoc {X : List (List Int)} {ts : List Value} {k : Nat} (h : LensV X ts k) (A : Option Addr) (c n : Nat) (hn : n = (lastL X k).length) : LensV X (ts ++ [.slice A n c]) (k + 1) := by
  refine ⟨by simp [h.1], fun j hj => ?_⟩
  rcases Nat.lt_or_ge j ts.length with h1 | h1
  · rw [List.getElem_append_left h1]; exact h.2 j h1
  · have : j = ts.length := by simp at hj; omega
    subst this
    refine ⟨A, c, ?_⟩
    simp [hn, h.1]
theorem lastL_bnd {X : List (List Int)} (hB : basisB X = true) {k : Nat} (hk : k ≤ 5) : (lastL X k).length ≤ 46656 ∧ ∀ q ∈ lastL X k, q.length ≤ 5 ∧ ∀ x ∈ q, 1 ≤ x ∧ x ≤ 8 := by
  refine ⟨by rw [lastL_len hB (by omega)]; exact clsL_le (by omega), fun q hq => ?_⟩
  have h1 := (lastL_mem hB k (by omega) q).1 hq
  unfold clsL at h1
  have h2 := permsI_mem (List.mem_filter.1 h1).1
  refine ⟨by omega, fun x hx => ?_⟩
  have := h2.2.1 x hx
  omega
set_option maxHeartbeats 2000000 in
theorem l12Class_any (A : Option Addr) (c : Nat) (qs : List Row) (n : Nat) (w : World) (h : InL w A c qs) (hB : basisB (qs.map Row.xs) = true) (hn : n ≤ 6) :
    Calls Tryz.prog 54 #[.slice A qs.length c, .int .i64 n] w fun e w' => ∃ A1 c1 ts, e = .returned (.slice A1 (n + 1) c1) ∧ LensV (qs.map Row.xs) ts (n + 1) ∧
      w'.ownsRow w.heap.size 24 1 (.slice A1 (n + 1) c1) (n + 1) ts ∧ Below w.heap.size w w' := by
  obtain ⟨k0, hk, hx0, hx1, hx2⟩ := info_parts infoLL
  have hr8 := rows_8 (basis_perm hB)
  have HBa := Lib.hid hB
  clear hB
  have hr0 : (w.alloc (.cells #[] 3)).ownsRow w.heap.size 3 1 (.slice (some ⟨w.heap.size, 0, none⟩) 0 0) 0 (([] : List Int).map (Value.int .i64)) := World.ownsRow_lit w #[] 0 (Nat.le_refl _) (by unfold maxLen; omega) rfl
  have hO0 : Own (w.alloc (.cells #[] 3)) w.heap.size (w.heap.size + 1) [⟨some ⟨w.heap.size, 0, none⟩, 0, []⟩] [] := Own.one hr0 (by simp)
  have hw1 : (w.alloc (.cells #[] 3)).heap.size = w.heap.size + 1 := by simp
  have hx1' : ((w.alloc (.cells #[] 3)).alloc (.cells #[Value.slice (some ⟨w.heap.size, 0, none⟩) 0 0] 27)).ownsRow w.heap.size 27 1 (.slice (some ⟨w.heap.size + 1, 0, none⟩) 1 1) 1 [Value.slice (some ⟨w.heap.size, 0, none⟩) 0 0] := by
    have := World.ownsRow_lit (base := w.heap.size) (e := 27) (size := 1) (w.alloc (.cells #[] 3)) #[Value.slice (some ⟨w.heap.size, 0, none⟩) 0 0] 1 (by simp) (by unfold maxLen; omega) rfl
    rw [hw1] at this
    exact this
  have hO1 : Own ((w.alloc (.cells #[] 3)).alloc (.cells #[Value.slice (some ⟨w.heap.size, 0, none⟩) 0 0] 27)) w.heap.size (w.heap.size + 2) [⟨some ⟨w.heap.size, 0, none⟩, 0, []⟩] [⟨some ⟨w.heap.size + 1, 0, none⟩, 1, [Value.slice (some ⟨w.heap.size, 0, none⟩) 0 0]⟩] :=
    Own.with_ ((hO0.below ((Below.refl _ _).alloc (Nat.le_refl _) _)).wider (Nat.le_refl _) (by omega)) hx1' (by simp)
  have hR0 : Read (((w.alloc (.cells #[] 3)).alloc (.cells #[Value.slice (some ⟨w.heap.size, 0, none⟩) 0 0] 27)).alloc (.cells #[Value.slice (some ⟨w.heap.size + 1, 0, none⟩) 1 1] 24)) (w.heap.size + 3) [⟨some ⟨w.heap.size, 0, none⟩, 0, []⟩] [⟨some ⟨w.heap.size + 1, 0, none⟩, 1, [Value.slice (some ⟨w.heap.size, 0, none⟩) 0 0]⟩] :=
    ((hO1.below ((Below.refl _ _).alloc (Nat.le_refl _) _)).wider (Nat.le_refl _) (by omega)).read
  have hown0 : (((w.alloc (.cells #[] 3)).alloc (.cells #[Value.slice (some ⟨w.heap.size, 0, none⟩) 0 0] 27)).alloc (.cells #[Value.slice (some ⟨w.heap.size + 1, 0, none⟩) 1 1] 24)).ownsRow w.heap.size 24 1 (.slice (some ⟨w.heap.size + 2, 0, none⟩) 1 1) 1 [Value.slice (some ⟨w.heap.size + 1, 0, none⟩) 1 1] := by
    have := World.ownsRow_lit (base := w.heap.size) (e := 24) (size := 1) ((w.alloc (.cells #[] 3)).alloc (.cells #[Value.slice (some ⟨w.heap.size, 0, none⟩) 0 0] 27)) #[Value.slice (some ⟨w.heap.size + 1, 0, none⟩) 1 1] 1 (by simp; omega) (by unfold maxLen; omega) rfl
    have hw2 : ((w.alloc (.cells #[] 3)).alloc (.cells #[Value.slice (some ⟨w.heap.size, 0, none⟩) 0 0] 27)).heap.size = w.heap.size + 2 := by simp
    rw [hw2] at this
    exact this
  have hb0 := (((Below.refl w.heap.size w).alloc (Nat.le_refl _) (.cells #[] 3)).alloc (by simp) (.cells #[Value.slice (some ⟨w.heap.size, 0, none⟩) 0 0] 27)).alloc (by simp; omega) (.cells #[Value.slice (some ⟨w.heap.size + 1, 0, none⟩) 1 1] 24)
  have HL0 : Hid (LensV (qs.map Row.xs) [Value.slice (some ⟨w.heap.size + 1, 0, none⟩) 1 1] (0 + 1)) := Lib.hid ⟨rfl, fun j hj => by
    obtain rfl : j = 0 := by simp at hj; omega
    exact ⟨_, _, rfl⟩⟩
  clear hr0 hO0 hw1 hx1' hO1
  go_enter Tryz.func54, Tryz.ntmps54
  go_wp2_with fail
  go_loopw [5, 6, 7] (fun cu v i wr => ∃ (u : Nat) (A1 : Option Addr) (c1 : Nat) (rs : List Row) (A2 : Option Addr) (c2 : Nat) (ts : List Value), u ≤ n ∧ i = .int .i64 ((u : Int) + 1) ∧ cu = .slice A1 rs.length c1 ∧ v = .slice A2 (u + 1) c2 ∧ Hid (rs.map Row.xs = lastL (qs.map Row.xs) u) ∧ Read wr wr.heap.size rs [⟨A1, c1, rs.map Row.v⟩] ∧ Hid (LensV (qs.map Row.xs) ts (u + 1)) ∧ wr.ownsRow w.heap.size 24 1 (.slice A2 (u + 1) c2) (u + 1) ts ∧ Below w.heap.size w wr) (fun _ _ i _ => n + 1 - (intOf i).toNat)
  case atStart => exact ⟨0, _, _, [⟨some ⟨w.heap.size, 0, none⟩, 0, []⟩], _, _, _, Nat.zero_le _, rfl, rfl, rfl, Lib.hid rfl, hR0.more (by simp), HL0, hown0, hb0⟩
  case round =>
    clear hR0 hown0 hb0 HL0
    obtain ⟨u, A1, c1, rs, A2, c2, ts, hu, rfl, rfl, rfl, HX, hR, HL, hown, hb⟩ := hrel
    rcases Nat.lt_or_ge u n with hlt | hge
    · have hun : (u : Int) + 1 ≤ (n : Int) := by omega
      have hbn := lastL_bnd HBa.out (k := u) (by omega)
      have hll : rs.length ≤ 46656 := by have := congrArg List.length HX.out; rw [List.length_map] at this; omega
      have hl5 : ∀ r ∈ rs, r.xs.length ≤ 5 ∧ ∀ x ∈ r.xs, 1 ≤ x ∧ x ≤ 8 := fun r hr => hbn.2 r.xs (by rw [← HX.out]; exact List.mem_map_of_mem hr)
      have ct := l12Next_any A c qs A1 c1 (u + 1) rs wr (h.next hb) hr8 (by omega) hR hll hl5
      have hcast : ((u + 1 : Nat) : Int) = (u : Int) + 1 := by omega
      rw [hcast] at ct
      have HN := Lib.hid (show nextL (qs.map Row.xs) (rs.map Row.xs) (u + 1) = lastL (qs.map Row.xs) (u + 1) by rw [HX.out]; rfl)
      clear hbn hll hl5 hR hcast
      go_wp2_with fail
      (with_reducible refine ct.mono ?_)
      clear ct
      rintro e w2 ⟨A3, c3, rs3, rfl, hX3, hO3, hb2⟩
      have HX3 := Lib.hid (hX3.trans HN.out)
      have hn3 := Lib.hid (show rs3.length = (lastL (qs.map Row.xs) (u + 1)).length by rw [← HX3.out, List.length_map])
      have hown2 := own_below hown hb2
      have hlim := fun g hg => (hown.lt g hg).2
      have hbw := hb.trans (hb2.mono hb.size)
      have hszw := hbw.size
      clear hX3 hown hb2
      go_wp2_with (at_builtin; refine wpList_append_own _ rfl _ _ 62 rfl (w.heap.size) 24 k0 (.slice none 0 0) 1 24 Tryz.underlying62 hk hx0 hx1 hx2 rfl (by decide) _ _ _ rfl (World.ownsRow.alloc hown2 _) ⟨w2.heap.size, 0, none⟩ 1 1 [Value.slice A3 rs3.length c3] rfl rfl (cell_one_at _ _ (by simp)) (by intro u hu; simp at hu; subst hu; rfl) (by unfold maxLen; omega) (by omega) (by simp; omega) ?_; intro v7 w7 hown7 hgrow7 _)
      have hg1 := grown_trans (World.grownBy_alloc w2 (Obj.cells #[Value.slice A3 rs3.length c3] 24) _) hgrow7
      have hO4 := hO3.span (Span.of_grown (lo := 0) (hi := wr.heap.size) hg1 (fun g hg => ⟨Nat.zero_le _, hlim g hg⟩)) (.inr (Nat.le_refl _))
      have hb4 := hbw.grown hg1 hszw (fun g hg => (hown2.lt g hg).1)
      have hsz4 := hg1.size
      have hR4 := (hO4.wider (Nat.le_refl _) hsz4).read
      obtain ⟨A5, c5, rfl, _, _⟩ := own_shape hown7
      have K := Lib.hid (And.intro hown7 hb4)
      have HL2 := Lib.hid (HL.out.snoc A3 c3 rs3.length hn3.out)
      clear hown7 hgrow7 hg1 hO4 hb4 hO3 hown2 hlim
      go_wp2_with fail
      go_roundw
      case rel => exact ⟨u + 1, A3, c3, rs3, A5, c5, _, by omega, by go_num, rfl, rfl, HX3, hR4, HL2, K.out.1, K.out.2⟩
      case measure => simp [intOf]; omega
    · obtain rfl : u = n := by omega
      go_wp2_with fail
      go_ret
      exact ⟨A2, c2, ts, rfl, HL.out, hown, hb⟩
theorem own_neT {w : World} {b1 b2 e1 e2 n1 n2 : Nat} {v1 v2 : Value} {x1 x2 : List Value} (h1 : w.ownsRow b1 e1 1 v1 n1 x1) (h2 : w.ownsRow b2 e2 1 v2 n2 x2) (he : e1 ≠ e2) : v1.ownBlock = none ∨ v1.ownBlock ≠ v2.ownBlock := by
  rcases h1.2 with ⟨e, _⟩ | ⟨g1, c1, cur1, e1', _, hh1, _⟩
  · exact .inl (by rw [e]; rfl)
  · refine .inr fun h => ?_
    rcases h2.2 with ⟨e, _⟩ | ⟨g2, c2, cur2, e2', _, hh2, _⟩
    · rw [e, e1'] at h; cases h
    · rw [e1', e2'] at h
      injection h with h
      simp only at h
      subst h
      rw [hh1] at hh2
      injection hh2 with hh2
      injection hh2 with _ ht _
      exact he ht
set_option maxHeartbeats 2000000 in
theorem classCounts_spec (A : Option Addr) (c : Nat) (qs : List Row) (n : Int) (_ : -9223372036854775808 ≤ n ∧ n ≤ 9223372036854775807) (w : World) (h : InL w A c qs) :
    Calls Tryz.prog 16 #[.slice A qs.length c, .int .i64 n] w (Ret (Value.int .i64) 3 w (ccG (qs.map Row.xs) n)) := by
  obtain ⟨i0, hi, hz0, hz1, hz2⟩ := info_parts infoI
  have hown0 : (w.alloc (.cells #[] 3)).ownsRow w.heap.size 3 1 (.slice (some ⟨w.heap.size, 0, none⟩) 0 0) 0 ((cntsTo (fun k => (lastL (qs.map Row.xs) k).length) 0).map (Value.int .i64)) := World.ownsRow_lit w #[] 0 (Nat.le_refl _) (by unfold maxLen; omega) rfl
  have hb0 := (Below.refl w.heap.size w).alloc (Nat.le_refl _) (.cells #[] 3)
  by_cases hB : basisB (qs.map Row.xs) = true
  · have H1 := Lib.hid hB
    clear hB
    go_enter Tryz.func16, Tryz.ntmps16
    go_wp2_with fail
    generalize (w.alloc (Obj.cells #[] 3)) = w0 at hown0 hb0 ⊢
    (with_reducible refine (basis_sb A c qs w0 true (h.next hb0) H1.out).mono ?_)
    rintro e w1 ⟨rfl, hb1⟩
    have hbw := hb0.trans (hb1.mono hb0.size)
    have hown1 := own_below hown0 hb1
    go_wp2_with fail
    by_cases h6 : sixB n = true
    · have h6' : 0 ≤ n ∧ n ≤ 6 := by simpa [sixB] using h6
      (with_reducible refine (l1In_b n 0 6 w1 true (decide_eq_true h6')).mono ?_)
      rintro e w' ⟨rfl, rfl⟩
      obtain ⟨m, rfl⟩ := Int.eq_ofNat_of_zero_le h6'.1
      have hm : m ≤ 6 := by omega
      have HG := Lib.hid (show ccG (qs.map Row.xs) m = cntsTo (fun k => (lastL (qs.map Row.xs) k).length) (m + 1) by
        unfold ccG; rw [if_pos ⟨H1.out, h6⟩]
        refine List.map_congr_left fun k hk => ?_
        have hk' : k ≤ m := by simp at hk; omega
        show ((clsL (qs.map Row.xs) k).length : Int) = ((lastL (qs.map Row.xs) k).length : Int)
        rw [lastL_len H1.out (by omega)])
      clear h6 h6'
      go_wp2_with fail
      (with_reducible refine (l12Class_any A c qs m w1 (h.next hbw) H1.out hm).mono ?_)
      rintro e w2 ⟨A1, c1, ts, rfl, hts, hall, hb2⟩
      have hszw := hbw.size
      have hall2 := own_mono hall hszw
      have hown2 := own_below hown1 hb2
      have hbw2 := hbw.trans (hb2.mono hszw)
      have HTS := Lib.hid hts
      clear hts hall hown1 hb2 hown0 hb0 hb1
      go_wp2_with fail
      go_loopw [5, 7] (fun v i wr => ∃ (k : Nat) (A2 : Option Addr) (c2 : Nat), k ≤ m + 1 ∧ i = .int .i64 k ∧ v = .slice A2 k c2 ∧ wr.ownsRow w.heap.size 3 1 (.slice A2 k c2) k ((cntsTo (fun k => (lastL (qs.map Row.xs) k).length) k).map (Value.int .i64)) ∧ wr.ownsRow w.heap.size 24 1 (.slice A1 (m + 1) c1) (m + 1) ts ∧ Below w.heap.size w wr) (fun _ i _ => m + 1 - (intOf i).toNat)
      case atStart => exact ⟨0, _, _, Nat.zero_le _, rfl, rfl, hown2, hall2, hbw2⟩
      case round =>
        clear hown2 hall2 hbw2
        obtain ⟨k, A2, c2, hk, rfl, rfl, hown, hall, hb⟩ := hrel
        rcases Nat.lt_or_ge k (m + 1) with hlt | hge
        · have HS := Lib.hid (cntsTo_succ (fun k => (lastL (qs.map Row.xs) k).length) k)
          have hsz := hb.size
          obtain ⟨B, d, hBd⟩ := HTS.out.2 k (by rw [HTS.out.1]; exact hlt)
          have hrd : Rd id wr wr.heap.size A1 ts := Rd.of_own (f := id) (e := 24) (c := c1) (by rw [List.map_id, HTS.out.1]; exact hall)
          obtain ⟨bt, ot, rfl, hbt, hct⟩ := hrd (by rw [HTS.out.1]; omega)
          have g1 : wr.cell? ⟨bt, ot + k, none⟩ = some (Value.slice B (lastL (qs.map Row.xs) k).length d) := by rw [hct k (by rw [HTS.out.1]; exact hlt)]; exact congrArg some hBd
          obtain ⟨z, hz⟩ : ∃ z : Nat, z = (lastL (qs.map Row.xs) k).length := ⟨_, rfl⟩
          have HZ := Lib.hid hz
          rw [← hz] at g1
          have hkm : (k : Int) < (m : Int) + 1 := by omega
          clear hz hct hrd hBd
          go_wp2_with (at_builtin; refine wpList_append_own _ rfl _ _ 27 rfl (w.heap.size) 3 i0 (.int .i64 0) 1 8 Tryz.underlying27 hi hz0 hz1 hz2 rfl (by decide) _ _ _ rfl (World.ownsRow.alloc hown _) ⟨wr.heap.size, 0, none⟩ 1 1 [.int .i64 ((z : Int))] rfl rfl (cell_one_new _ _ _) (by intro u hu; simp at hu; subst hu; rfl) (by unfold maxLen; omega) (by omega) (by simp; omega) ?_; intro v7 w7 hown7 hgrow7 _)
          have hS2 : w7.ownsRow w.heap.size 3 1 v7 (k + 1) ((cntsTo (fun k => (lastL (qs.map Row.xs) k).length) (k + 1)).map (Value.int .i64)) := by rw [HS.out, ← HZ.out]; simpa using hown7
          have hg1 := grown_trans (World.grownBy_alloc wr _ _) hgrow7
          have hb3 := hb.grown hg1 hsz (fun g hg => (hown.lt g hg).1)
          have hall3 := hall.kept hg1 (own_neT hall hown (by decide))
          obtain ⟨A3, c3, rfl, _, _⟩ := own_shape hS2
          have K := Lib.hid (And.intro hS2 (And.intro hall3 hb3))
          clear hS2 hown7 hgrow7 hb3 hown hall3 hg1
          go_wp2_with fail
          go_roundw
          case rel => exact ⟨k + 1, A3, c3, by omega, by go_num, rfl, K.out.1, K.out.2.1, K.out.2.2⟩
          case measure => simp [intOf]; omega
        · obtain rfl : k = m + 1 := by omega
          have HL := Lib.hid (cntsTo_length (fun k => (lastL (qs.map Row.xs) k).length) (m + 1))
          go_wp2_with fail
          go_ret
          rw [HG.out]
          exact ⟨A2, c2, by rw [HL.out]; rfl, by rw [HL.out]; exact (own_caps hown).1, (own_caps hown).2, by rw [HL.out]; exact hown, hb⟩
    · have h6f : sixB n = false := by simpa using h6
      have HG := Lib.hid (show ccG (qs.map Row.xs) n = [] by unfold ccG; rw [if_neg]; exact fun h => h6 h.2)
      (with_reducible refine (l1In_b n 0 6 w1 false (decide_eq_false (fun hh => absurd (by simpa [sixB] using hh) h6))).mono ?_)
      rintro e w' ⟨rfl, rfl⟩
      clear h6 h6f
      go_wp2_with fail
      go_ret
      rw [HG.out]
      exact ⟨_, _, rfl, Nat.le_refl _, by unfold maxLen; omega, hown1, hbw⟩
  · have hBf : basisB (qs.map Row.xs) = false := by simpa using hB
    have H1 := Lib.hid hBf
    have HG := Lib.hid (show ccG (qs.map Row.xs) n = [] by unfold ccG; rw [if_neg]; exact fun h => hB h.1)
    clear hB hBf
    go_enter Tryz.func16, Tryz.ntmps16
    go_wp2_with fail
    generalize (w.alloc (Obj.cells #[] 3)) = w0 at hown0 hb0 ⊢
    (with_reducible refine (basis_sb A c qs w0 false (h.next hb0) H1.out).mono ?_)
    rintro e w1 ⟨rfl, hb1⟩
    go_wp2_with fail
    go_ret
    rw [HG.out]
    exact ⟨_, _, rfl, Nat.le_refl _, by unfold maxLen; omega, own_below hown0 hb1, hb0.trans (hb1.mono hb0.size)⟩
end Go.Proofs.YtodloeonlaljpaaGreatDoor

/- The draws of FnRuns: pairs of lists, numbers. -/
namespace Go.Proofs.YtodloeonlaljpaaGreatDoor
set_option maxRecDepth 100000
open Go Go.RowKit

/-- Two lists were drawn, both read. -/
def RetII (w : World) (ok : List Int → List Int → Prop) (en : Ending) (w' : World) : Prop :=
  ∃ D k xs E m ys, en = .returned (.tuple #[.slice D xs.length k, .slice E ys.length m]) ∧ ok xs ys ∧ In w' D k xs ∧ In w' E m ys ∧ Below w.heap.size w w'
theorem In.of_own {w : World} {base e c : Nat} {A : Option Addr} {xs : List Int} (h : w.ownsRow base e 1 (.slice A xs.length c) xs.length (xs.map (Value.int .i64))) (hl : xs.length ≤ 1048576) : In w A c xs := ⟨hl, (own_caps h).1, Rd.of_own h⟩
end Go.Proofs.YtodloeonlaljpaaGreatDoor

/- A mesh, or a pattern with joined places, that a draw builds in a box: what stands while it grows. Plain lemmas. -/
namespace Go.Proofs.YtodloeonlaljpaaGreatDoor
set_option maxRecDepth 100000
open Go Go.RowKit

/-- A block of another type is written. -/
theorem own_boxed {w : World} {base e n g i : Nat} {v u : Value} {xs : List Value} {cs : Array Value} {t : TypeId} (h : w.ownsRow base e 1 v n xs) (ho : w.heap[g]? = some (Obj.cells cs t (0, 0))) (hne : t ≠ e) : (w.setCell ⟨g, i, none⟩ u).ownsRow base e 1 v n xs := by
  refine own_span h (Span.set (p := ⟨g, i, none⟩) (Nat.le_refl g) (Nat.lt_succ_self g) u) fun q hq => ?_
  rcases h.2 with ⟨e1, _⟩ | ⟨g1, c1, cur1, e1', _, hh1, _⟩
  · rw [e1] at hq; cases hq
  · rw [e1'] at hq
    injection hq with hq
    have hq : g1 = q := hq
    subst hq
    by_cases hgq : g1 = g
    · subst hgq
      rw [ho] at hh1
      injection hh1 with hh1
      injection hh1 with _ ht _
      exact absurd ht hne
    · omega
theorem Own.boxed {w : World} {lo hi g i : Nat} {u : Value} {cs : Array Value} {t : TypeId} {rs : List Row} {os : List Outer} (h : Own w lo hi rs os) (ho : w.heap[g]? = some (Obj.cells cs t (0, 0))) (h1 : t ≠ 3) (h2 : t ≠ 27) : Own (w.setCell ⟨g, i, none⟩ u) lo hi rs os :=
  ⟨fun r hr => own_boxed (h.rows r hr) ho h1, h.lt, h.apart, fun o hq => own_boxed (h.outs o hq) ho h2, h.olt⟩
theorem own_noblock {w : World} {base e n g : Nat} {v : Value} {xs : List Value} {cs : Array Value} {t : TypeId} (h : w.ownsRow base e 1 v n xs) (ho : w.heap[g]? = some (Obj.cells cs t (0, 0))) (hne : t ≠ e) : some g ≠ v.ownBlock := by
  intro e'
  rcases h.2 with ⟨e1, _⟩ | ⟨g1, c1, cur1, e1, _, hh1, _⟩
  · rw [e1] at e'; cases e'
  · rw [e1] at e'
    injection e' with e'
    have e' : g = g1 := e'
    subst e'
    rw [ho] at hh1
    injection hh1 with hh1
    injection hh1 with _ ht _
    exact hne ht
theorem own_lit1 {w : World} {lo bl : Nat} {x : Int} (h : w.heap[bl]? = some (Obj.cells #[.int .i64 x] 3 (0, 0))) (hl : lo ≤ bl) : w.ownsRow lo 3 1 (.slice (some ⟨bl, 0, none⟩) [x].length 1) [x].length ([x].map (Value.int .i64)) :=
  ⟨rfl, .inr ⟨bl, 1, #[.int .i64 x], rfl, hl, h, Nat.le_refl _, by unfold maxLen; omega, rfl, rfl⟩⟩
theorem own_lit2 {w : World} {lo bl : Nat} {x y : Int} (h : w.heap[bl]? = some (Obj.cells #[.int .i64 x, .int .i64 y] 3 (0, 0))) (hl : lo ≤ bl) : w.ownsRow lo 3 1 (.slice (some ⟨bl, 0, none⟩) [x, y].length 2) [x, y].length ([x, y].map (Value.int .i64)) :=
  ⟨rfl, .inr ⟨bl, 2, #[.int .i64 x, .int .i64 y], rfl, hl, h, Nat.le_refl _, by unfold maxLen; omega, rfl, rfl⟩⟩
theorem sizeR_le2 {rs : List Row} (h : ∀ r ∈ rs, r.xs.length ≤ 2) : sizeR rs ≤ 2 * rs.length := by
  induction rs with
  | nil => exact Nat.le_refl _
  | cons r t ih =>
    have h1 := ih fun s hs => h s (List.mem_cons_of_mem _ hs)
    have h2 := h r List.mem_cons_self
    simp only [sizeR, List.map_cons, List.sum_cons, List.length_cons] at h1 ⊢
    omega
end Go.Proofs.YtodloeonlaljpaaGreatDoor

/- l8Draw: a pattern with joined places that is drawn. Written by gen/gend8.py. -/
namespace Go.Proofs.YtodloeonlaljpaaGreatDoor
set_option maxRecDepth 100000
open Go Go.RowKit

end Go.Proofs.YtodloeonlaljpaaGreatDoor

/- The draws of FnNears. -/
namespace Go.Proofs.YtodloeonlaljpaaGreatDoor
set_option maxRecDepth 100000
open Go Go.RowKit

set_option maxHeartbeats 800000 in
/-- One of a list of texts that is read. -/
theorem l1PickS_any (w : World) (q : Nat) (A : Option Addr) (c : Nat) (bs : List Int) (b : Nat) (n k : Nat) (xs : List ByteArray) (hnl : xs.length = n) (h0 : 0 < xs.length) (hl : xs.length ≤ 256) (hb : b ≠ q) (hbw : b < w.heap.size)
    (hr : ∀ j (h : j < xs.length), w.cell? ⟨b, j, none⟩ = some (.string xs[j])) (hc : Cur w q A c bs) :
    Calls Tryz.prog 72 #[.pointer (some ⟨q, 0, none⟩), .slice (some ⟨b, 0, none⟩) n k] w (fun en w' => ∃ t : ByteArray, en = .returned (.string t) ∧ t ∈ xs ∧ Drawn w w' q A c bs) := by
  subst hnl
  have HC := Lib.hid (l1Below_any w q A c bs (xs.length : Int) (by omega) hc)
  go_enter Tryz.func72, Tryz.ntmps72
  go_wp2_with fail
  (with_reducible refine HC.out.mono ?_)
  rintro e w1 ⟨x, rfl, hx, k1⟩
  obtain ⟨m, rfl⟩ := Int.eq_ofNat_of_zero_le hx.1
  have hm : m < xs.length := by have := hx.2.1 (by omega); omega
  have hcl : w1.cell? ⟨b, m, none⟩ = some (.string xs[m]) := by
    have h1 : w1.heap[b]? = w.heap[b]? := k1.span.block b hbw (by omega)
    rw [← hr m hm]
    exact World.cell?_of_block h1
  go_wp2_with fail
  go_ret
  exact ⟨_, rfl, List.getElem_mem hm, k1⟩
end Go.Proofs.YtodloeonlaljpaaGreatDoor

/- l1Turned, DrawParseNear. -/
namespace Go.Proofs.YtodloeonlaljpaaGreatDoor
set_option maxRecDepth 100000
open Go Go.RowKit

set_option maxHeartbeats 2000000 in
theorem l1Turned_any (w : World) (q : Nat) (A : Option Addr) (c : Nat) (bs : List Int) (s : ByteArray) (hs : s.size ≤ 100000) (b n k : Nat) (xs : List ByteArray) (hnl : xs.length = n) (h0 : 0 < xs.length) (hl : xs.length ≤ 256) (hb : b ≠ q) (hbw : b < w.heap.size)
    (hx1 : ∀ t ∈ xs, t.size ≤ 1) (hr : ∀ j (h : j < xs.length), w.cell? ⟨b, j, none⟩ = some (.string xs[j])) (hc : Cur w q A c bs) :
    Calls Tryz.prog 32 #[.pointer (some ⟨q, 0, none⟩), .string s, .slice (some ⟨b, 0, none⟩) n k] w (fun en w' => ∃ t : ByteArray, en = .returned (.string t) ∧ t.size ≤ s.size + 1 ∧ Drawn w w' q A c bs) := by
  have e0 : IntKind.i64.wrap ((s.size : Int) + 1) = (s.size : Int) + 1 := IntWalk.i64_in _ (by omega)
  have HC := Lib.hid (l1Below_any w q A c bs ((s.size : Int) + 1) (by omega) hc)
  go_enter Tryz.func32, Tryz.ntmps32
  go_wp2_with fail
  (with_reducible refine HC.out.mono ?_)
  rintro e w1 ⟨x, rfl, hx, k1⟩
  have hx2 : 0 ≤ x ∧ x ≤ s.size := by have := hx.2.1 (by omega); omega
  obtain ⟨m, rfl⟩ := Int.eq_ofNat_of_zero_le hx2.1
  have hm : m ≤ s.size := by omega
  have HD := Lib.hid (l1Below_any w1 q A c bs 6 (by omega) k1.cur)
  clear HC hx hx2
  go_wp2_with fail
  (with_reducible refine HD.out.mono ?_)
  rintro e w2 ⟨y, rfl, hy, k2⟩
  have k2 := k1.trans k2
  clear HD
  by_cases hy0 : y = 0
  · subst hy0
    go_wp2_with fail
    have HR := Lib.hid (show ∀ j (h : j < xs.length), w2.drew.cell? ⟨b, j, none⟩ = some (.string xs[j]) from fun j h => by
      have h1 : w2.heap[b]? = w.heap[b]? := k2.span.block b hbw (by omega)
      have h2 : w2.cell? ⟨b, j, none⟩ = some (.string xs[j]) := by rw [← hr j h]; exact World.cell?_of_block h1
      exact ((Dr.refl w2).drew.cell _).trans h2)
    have hszb : b < w2.drew.heap.size := by have := k2.span.size; simp; omega
    have m0 : (0 : Int) ≤ (m : Int) := by omega
    have m1 : (m : Int) ≤ (s.size : Int) := by omega
    refine wp_region_held_drew (S := fun _ => True) (by kernel_rfl) trivial (fun hHeld => ?_)
    refine wpAnyH_take (i := 0) (oi := _) (v := ?_) rfl (by kernel_rfl) (by kernel_rfl) (by kernel_rfl) (fun _ _ _ h => h) (Or.inl ⟨by rfl, ?_⟩) (by assumption) ?_
    rotate_left
    · intro w hSw
      try dsimp only at hSw
      go_simp
      all_goals with_reducible rfl
    try simp only [Act.put, List.setIfInBounds_toArray, List.set_cons_zero, List.set_cons_succ, List.getElem_toArray, List.getElem_cons_succ, List.getElem_cons_zero]
    refine wpAnyH_take (i := 1) (oi := _) (v := ?_) rfl (by kernel_rfl) (by kernel_rfl) (by kernel_rfl) (fun _ _ _ h => h) (Or.inl ⟨by rfl, ?_⟩) (by assumption) ?_
    rotate_left
    · intro w hSw
      try dsimp only at hSw
      go_simp
      all_goals with_reducible rfl
    try simp only [Act.put, List.setIfInBounds_toArray, List.set_cons_zero, List.set_cons_succ, List.getElem_toArray, List.getElem_cons_succ, List.getElem_cons_zero]
    refine wpAnyH_take (i := 2) (oi := _) (v := ?_) rfl (by kernel_rfl) (by kernel_rfl) (by kernel_rfl) (fun _ _ _ h => h) (Or.inl ⟨by rfl, ?_⟩) (by assumption) ?_
    rotate_left
    · intro w hSw
      try dsimp only at hSw
      go_simp
      all_goals with_reducible rfl
    try simp only [Act.put, List.setIfInBounds_toArray, List.set_cons_zero, List.set_cons_succ, List.getElem_toArray, List.getElem_cons_succ, List.getElem_cons_zero]
    refine wpAnyH_take (i := 3) (oi := _) (v := ?_) rfl (by kernel_rfl) (by kernel_rfl) (by kernel_rfl) (fun _ _ _ h => h) (Or.inl ⟨by rfl, ?_⟩) (by assumption) ?_
    rotate_left
    · intro w hSw
      try dsimp only at hSw
      go_simp
      all_goals with_reducible rfl
    try simp only [Act.put, List.setIfInBounds_toArray, List.set_cons_zero, List.set_cons_succ, List.getElem_toArray, List.getElem_cons_succ, List.getElem_cons_zero]
    refine wpAnyH_take (i := 4) (oi := _) (v := ?_) rfl (by kernel_rfl) (by kernel_rfl) (by kernel_rfl) (fun _ _ _ h => h) (Or.inl ⟨by rfl, ?_⟩) (by assumption) ?_
    rotate_left
    · intro w hSw
      try dsimp only at hSw
      go_simp
      all_goals with_reducible rfl
    try simp only [Act.put, List.setIfInBounds_toArray, List.set_cons_zero, List.set_cons_succ, List.getElem_toArray, List.getElem_cons_succ, List.getElem_cons_zero]
    refine wpAnyH_take (i := 7) (oi := _) (v := ?_) rfl (by kernel_rfl) (by kernel_rfl) (by kernel_rfl) (fun _ _ _ h => h) (Or.inl ⟨by rfl, ?_⟩) (by assumption) ?_
    rotate_left
    · intro w hSw
      try dsimp only at hSw
      go_simp
      all_goals with_reducible rfl
    try simp only [Act.put, List.setIfInBounds_toArray, List.set_cons_zero, List.set_cons_succ, List.getElem_toArray, List.getElem_cons_succ, List.getElem_cons_zero]
    refine wpAnyH_take (i := 8) (oi := _) (v := ?_) rfl (by kernel_rfl) (by kernel_rfl) (by kernel_rfl) (fun _ _ _ h => h) (Or.inl ⟨by rfl, ?_⟩) (by assumption) ?_
    rotate_left
    · intro w hSw
      try dsimp only at hSw
      go_simp
      all_goals with_reducible rfl
    try simp only [Act.put, List.setIfInBounds_toArray, List.set_cons_zero, List.set_cons_succ, List.getElem_toArray, List.getElem_cons_succ, List.getElem_cons_zero]
    refine wpAnyH_take (i := 9) (oi := _) (v := ?_) rfl (by kernel_rfl) (by kernel_rfl) (by kernel_rfl) (fun _ _ _ h => h) (Or.inl ⟨by rfl, ?_⟩) (by assumption) ?_
    rotate_left
    · intro w hSw
      try dsimp only at hSw
      go_simp
      all_goals with_reducible rfl
    try simp only [Act.put, List.setIfInBounds_toArray, List.set_cons_zero, List.set_cons_succ, List.getElem_toArray, List.getElem_cons_succ, List.getElem_cons_zero]
    refine wpAnyH_ready (rs := [5]) (by kernel_rfl) (by simp) ?_
    refine AllReadyH.cons (o := _) rfl (fun K hK => ?_) AllReadyH.nil
    go_simp
    refine Calls.mono (l1PickS_any w2.drew q A c bs b n k xs hnl h0 hl hb hszb HR.out (k2.cur.dr (Dr.refl w2).drew)) ?_
    rintro e wb ⟨t, rfl, ht, ka⟩
    have kd := (k2.dr (Dr.refl w2).drew).trans ka
    have ht1 := hx1 t ht
    have z1 : ¬ (9223372036854775807 < m + t.size) := by omega
    have z2 : ¬ (9223372036854775807 < m + t.size + (s.size - m)) := by omega
    have z3 : ¬ (9223372036854775807 < (s.extract 0 m ++ t).size + (s.extract m s.size).size) := by rw [ByteArray.size_append, ByteArray.size_extract, ByteArray.size_extract]; omega
    go_wp2_with fail
    refine hK.out _ _ (trivial) (fun hHeld => ?_)
    clear hK K
    try simp only [Act.put, List.setIfInBounds_toArray, List.set_cons_zero, List.set_cons_succ, List.getElem_toArray, List.getElem_cons_succ, List.getElem_cons_zero]
    refine wpAnyH_take (i := 6) (oi := _) (v := ?_) rfl (by kernel_rfl) (by kernel_rfl) (by kernel_rfl) (fun _ _ _ h => h) (Or.inl ⟨by rfl, ?_⟩) (by assumption) ?_
    rotate_left
    · intro w hSw
      try dsimp only at hSw
      go_simp
      all_goals with_reducible rfl
    try simp only [Act.put, List.setIfInBounds_toArray, List.set_cons_zero, List.set_cons_succ, List.getElem_toArray, List.getElem_cons_succ, List.getElem_cons_zero]
    refine wpAnyH_take (i := 10) (oi := _) (v := ?_) rfl (by kernel_rfl) (by kernel_rfl) (by kernel_rfl) (fun _ _ _ h => h) (Or.inl ⟨by rfl, ?_⟩) (by assumption) ?_
    rotate_left
    · intro w hSw
      try dsimp only at hSw
      go_simp
      all_goals with_reducible rfl
    try simp only [Act.put, List.setIfInBounds_toArray, List.set_cons_zero, List.set_cons_succ, List.getElem_toArray, List.getElem_cons_succ, List.getElem_cons_zero]
    refine wpAnyH_take (i := 11) (oi := _) (v := ?_) rfl (by kernel_rfl) (by kernel_rfl) (by kernel_rfl) (fun _ _ _ h => h) (Or.inl ⟨by rfl, ?_⟩) (by assumption) ?_
    rotate_left
    · intro w hSw
      try dsimp only at hSw
      go_simp
      all_goals with_reducible rfl
    try simp only [Act.put, List.setIfInBounds_toArray, List.set_cons_zero, List.set_cons_succ, List.getElem_toArray, List.getElem_cons_succ, List.getElem_cons_zero]
    refine wpAnyH_done (by kernel_rfl) ?_ _
    go_wp2_with fail
    go_ret
    exact ⟨_, rfl, by simp [ByteArray.size_append, ByteArray.size_extract]; omega, kd⟩
  · have n0 : (y == 0) = false := by simpa using hy0
    by_cases hy1 : y = 1
    · subst hy1
      go_wp2_with fail
      go_ret
      exact ⟨s.extract 0 m, rfl, by rw [ByteArray.size_extract]; omega, k2⟩
    · have n1 : (y == 1) = false := by simpa using hy1
      go_wp2_with fail
      go_ret
      exact ⟨s, rfl, by omega, k2⟩
end Go.Proofs.YtodloeonlaljpaaGreatDoor

/- slices.CompactFunc of a list of rows: of equal neighbors the first one is kept. -/
namespace Go.Proofs.YtodloeonlaljpaaGreatDoor
set_option maxRecDepth 100000
open Go Go.RowKit

theorem compL_snoc (L : List (List Int)) (x y : List Int) : compL (L ++ [x] ++ [y]) = if x = y then compL (L ++ [x]) else compL (L ++ [x]) ++ [y] := by
  match L with
  | [] =>
    simp only [List.nil_append, List.cons_append, compL]
    by_cases h : x = y <;> simp [h]
  | [a] =>
    simp only [List.cons_append, List.nil_append, compL]
    by_cases h1 : a = x
    · by_cases h : x = y <;> simp [h1, h]
    · by_cases h : x = y <;> simp [h1, h]
  | a :: b :: t =>
    have ih := compL_snoc (b :: t) x y
    simp only [List.cons_append, compL] at ih ⊢
    by_cases h1 : a = b
    · rw [if_pos h1, if_pos h1]; exact ih
    · rw [if_neg h1, if_neg h1, ih]
      by_cases h : x = y
      · rw [if_pos h, if_pos h]
      · rw [if_neg h, if_neg h]; rfl
theorem compL_take (X : List (List Int)) (k : Nat) (h0 : 0 < k) (h : k < X.length) : compL (X.take (k + 1)) = if X[k - 1]'(by omega) = X[k] then compL (X.take k) else compL (X.take k) ++ [X[k]] := by
  have e1 : X.take k = X.take (k - 1) ++ [X[k - 1]'(by omega)] := by
    have := List.take_succ_eq_append_getElem (l := X) (i := k - 1) (by omega)
    rwa [Nat.sub_add_cancel h0] at this
  rw [List.take_succ_eq_append_getElem h, e1]
  exact compL_snoc _ _ _
section
variable {w w' : World} {base e g k n cap j : Nat} {V : List Value}
theorem own_beyond (h : w.ownsRow base e 1 (.slice (some ⟨g, 0, none⟩) k cap) k V) (hj : k ≤ j) (u : Value) : (w.setCell ⟨g, j, none⟩ u).ownsRow base e 1 (.slice (some ⟨g, 0, none⟩) k cap) k V := by
  refine ⟨h.1, ?_⟩
  rcases h.2 with ⟨e, _⟩ | ⟨g', cap', cur, hv, hb, hh, h1, h2, h3, h4⟩
  · cases e
  · injection hv with hv _ hc
    injection hv with hv
    injection hv with hv _ _
    subst hv hc
    refine .inr ⟨g, cap, cur.setIfInBounds j u, rfl, hb, obj_set hh u, h1, h2, by simpa using h3, ?_⟩
    rw [← h4, Array.toList_setIfInBounds, Nat.mul_one, List.take_set_of_le hj]
theorem grown_set (w : World) (g j : Nat) (u : Value) : w.grownBy (w.setCell ⟨g, j, none⟩ u) (some g) :=
  ⟨rfl, rfl, rfl, by simp [World.setCell], fun k _ hk => by
    simp only [World.setCell, Array.getElem?_modify]
    rw [if_neg (fun h => hk (by rw [h]))]⟩
theorem own_sets (vs : List Value) : ∀ (o : Nat) (w : World), w.ownsRow base e 1 (.slice (some ⟨g, 0, none⟩) k cap) k V → k ≤ o → (w.setCells g o vs).ownsRow base e 1 (.slice (some ⟨g, 0, none⟩) k cap) k V ∧ w.grownBy (w.setCells g o vs) (some g) := by
  induction vs with
  | nil => intro o w h _; exact ⟨h, World.grownBy.refl w _⟩
  | cons a t ih =>
    intro o w h ho
    obtain ⟨h1, h2⟩ := ih (o + 1) (w.setCell ⟨g, o, none⟩ a) (own_beyond h ho a) (by omega)
    exact ⟨h1, grown_trans (grown_set w g o a) h2⟩
theorem own_set_at (h : w.ownsRow base e 1 (.slice (some ⟨g, 0, none⟩) n cap) n V) (hj : j < n) (u : Value) : (w.setCell ⟨g, j, none⟩ u).ownsRow base e 1 (.slice (some ⟨g, 0, none⟩) n cap) n (V.set j u) := by
  exact (h.stored j u).1
end
theorem call_eqf (args : Array Value) (w : World) : (callFunc 79 args).run Tryz.prog w = .ok (.enter 79 args) w := by kernel_rfl
theorem zeroL (w : World) : (zeroValue 27).run Tryz.prog w = .ok (.slice none 0 0) w := by kernel_rfl
set_option maxHeartbeats 8000000 in
theorem compact_any (A : Option Addr) (c lo : Nat) (rs : List Row) (w : World) (hO : Own w lo w.heap.size rs [⟨A, c, rs.map Row.v⟩]) (hn : rs.length ≤ 1048576) (hr8 : ∀ r ∈ rs, r.xs.length ≤ 1048576) :
    Calls Tryz.prog 78 #[.slice A rs.length c, .func (.func 79) #[] #[]] w (RetP w lo A (compL (rs.map Row.xs))) := by
  have hcap := own_caps hO.out
  rw [List.length_map] at hcap
  have HR8 := Lib.hid hr8
  have hc63 : c ≤ 9223372036854775807 := by have := hcap.2; unfold maxLen at this; omega
  rcases Nat.lt_or_ge rs.length 2 with h2 | h2
  · have HE := Lib.hid (show compL (rs.map Row.xs) = rs.map Row.xs by
      match rs, h2 with
      | [], _ => rfl
      | [r], _ => rfl)
    go_enter Tryz.func78, Tryz.ntmps78
    have d0 : decide ((rs.length : Int) < 2) = true := decide_eq_true (by omega)
    go_wp2_with fail
    go_ret
    exact ⟨A, c, rs, rfl, HE.out.symm, hO, below_grown (Below.refl _ _)⟩
  have hcf := call_eqf
  obtain ⟨g, hgA, hglo, hglt⟩ : ∃ g, A = some ⟨g, 0, none⟩ ∧ lo ≤ g ∧ g < w.heap.size := by
    obtain ⟨g, cap, hv, h1, h3⟩ := hO.out.form (by rw [List.length_map]; omega)
    injection hv with hv _ _
    exact ⟨g, hv, h1, h3⟩
  subst hgA
  have HO := Lib.hid hO
  have hown0 := hO.outN (n := rs.length) (by simp)
  have d0 : decide ((rs.length : Int) < 2) = false := decide_eq_false (by omega)
  clear hr8 hO
  go_enter Tryz.func78, Tryz.ntmps78
  go_wp2_with fail
  go_loopw [5] (fun i wr => ∃ k : Nat, 0 < k ∧ k ≤ rs.length ∧ i = .int .i64 k ∧ Hid (compL ((rs.map Row.xs).take k) = (rs.map Row.xs).take k) ∧ Dr w wr) (fun i _ => rs.length - (intOf i).toNat)
  case atStart => exact ⟨1, by omega, by omega, rfl, Lib.hid (by
    match rs, h2 with
    | a :: b :: t, _ => rfl), Dr.refl _⟩
  case round =>
    obtain ⟨k, hk0, hk, rfl, HC, hd⟩ := hrel
    have hszr : wr.heap.size = w.heap.size := by rw [hd.heap]
    have HZ := Lib.hid hszr
    rcases Nat.lt_or_ge k rs.length with hlt | hge
    · have hOr := HO.out.dr hd
      have hRr := hOr.read
      have c0 := hRr.cellAt k hlt
      have c1 := hRr.cellAt (k - 1) (by omega)
      rw [Nat.zero_add] at c0 c1
      have c0d : wr.drew.cell? ⟨g, k, none⟩ = some (Value.slice rs[k].A rs[k].xs.length rs[k].c) := c0
      have c1d : wr.drew.cell? ⟨g, k - 1, none⟩ = some (Value.slice (rs[k - 1]'(by omega)).A (rs[k - 1]'(by omega)).xs.length (rs[k - 1]'(by omega)).c) := c1
      have e1 : IntKind.i64.wrap ((k : Int) - 1) = (k : Int) - 1 := IntWalk.i64_in _ (by omega)
      have e2 : ((k : Int) - 1).toNat = k - 1 := by omega
      have e3 : 0 ≤ (k : Int) - 1 := by omega
      have e4 : (k : Int) - 1 < (rs.length : Int) := by omega
      have e5 : (k : Int) < (rs.length : Int) := by omega
      have e6 : 0 ≤ (k : Int) := by omega
      have e7 : 1 ≤ (k : Int) := by omega
      have e8 : (k : Int) ≤ (rs.length : Int) := by omega
      have hx0 := ((hRr.rd rs[k] (List.getElem_mem hlt)).dr (w' := wr.drew) (Dr.refl _).drew).more (B' := wr.drew.heap.size) (by show _ ≤ wr.heap.size; omega)
      have hx1 := ((hRr.rd (rs[k - 1]'(by omega)) (List.getElem_mem _)).dr (w' := wr.drew) (Dr.refl _).drew).more (B' := wr.drew.heap.size) (by show _ ≤ wr.heap.size; omega)
      have hl0 := HR8.out rs[k] (List.getElem_mem hlt)
      have hl0' : rs[k].xs.length ≤ 4611686018427387904 := by omega
      have HT := Lib.hid (compL_take (rs.map Row.xs) k hk0 (by simpa using hlt))
      have hXk : (rs.map Row.xs)[k]'(by simpa using hlt) = rs[k].xs := by simp
      have hXk1 : (rs.map Row.xs)[k - 1]'(by rw [List.length_map]; omega) = (rs[k - 1]'(by omega)).xs := by simp
      have HXk := Lib.hid hXk
      have HXk1 := Lib.hid hXk1
      clear hXk hXk1 hOr hRr
      by_cases he : rs[k].xs = (rs[k - 1]'(by omega)).xs
      · have HS := Lib.hid (show compL ((rs.map Row.xs).take (k + 1)) = (rs.map Row.xs).take k by rw [HT.out, HXk.out, HXk1.out, if_pos he.symm, HC.out])
        have HD := Lib.hid (decide_eq_true he)
        clear he
        go_wp2_with fail
        go_region_held3 (fun v => v.cell? ⟨g, k, none⟩ = some ((Value.slice rs[k].A rs[k].xs.length rs[k].c)) ∧ v.cell? ⟨g, k - 1, none⟩ = some ((Value.slice (rs[k - 1]'(by omega)).A (rs[k - 1]'(by omega)).xs.length (rs[k - 1]'(by omega)).c))) (first | exact ⟨c0d, c1d⟩ | exact ⟨cq0, cq1⟩) ((first | (go_at_call 79; (with_reducible refine (equal_b _ _ _ _ _ _ _ _ wr.drew true rfl rfl hl0' hx0 hx1 HD.out).mono ?_); rintro e wq ⟨rfl, hdq⟩; have cq0 := (hdq.cell ⟨g, k, none⟩).trans c0d; have cq1 := (hdq.cell ⟨g, k - 1, none⟩).trans c1d) | fail))
        have hdr : Dr w wq := (hd.trans (Dr.refl _).drew).trans hdq
        have hownq := hdr.own hown0
        have HGR := Lib.hid (show w.grownBy wq (some g) from below_grown (below_dr (Below.refl _ _) hdr))
        have hkc : ¬ c = k := by omega
        have HTS := Lib.hid (show (rs.take k).Sublist (rs.take (k + 1)) by
          have e : rs.take k = (rs.take (k + 1)).take k := by rw [List.take_take, Nat.min_eq_left (Nat.le_succ k)]
          rw [e]; exact List.take_sublist _ _)
        have hsl : ∀ w, (Instr.slice 24 (.slice (some ⟨g, 0, none⟩) rs.length c) (some (.int .i64 (k : Int))) none none).run Tryz.prog w = .ok (.slice (some ⟨g, k, none⟩) (rs.length - k) (c - k)) w := fun w => by
          rw [run_cut (P := Tryz.prog) (t := 24) Tryz.underlying24 sizeL (some ⟨g, 0, none⟩) rs.length c k (k : Int) rfl (by omega) w]
          unfold cutA
          rw [if_neg hkc]
          simp [Addr.add, show k ≠ 0 by omega]
        clear c0 c1 c0d c1d cq0 cq1 hx0 hx1 hdq hdr
        go_wp2_with fail
        go_loopw [5, 7] (fun i i2 wq0 => ∃ (u : Nat) (kept : List Row) (V : List Value), 0 < u ∧ k + u ≤ rs.length ∧ i2 = .int .i64 u ∧ i = .int .i64 kept.length ∧ kept.length ≤ k + u - 1 ∧ Hid (kept.map Row.xs = compL ((rs.map Row.xs).take (k + u))) ∧ kept.Sublist (rs.take (k + u)) ∧
          wq0.ownsRow lo 27 1 (.slice (some ⟨g, 0, none⟩) rs.length c) rs.length V ∧ Hid (V.take kept.length = kept.map Row.v) ∧ Hid (∀ i, k + u - 1 ≤ i → V[i]? = (rs.map Row.v)[i]?) ∧ Hid (w.grownBy wq0 (some g))) (fun _ i2 _ => rs.length - k - (intOf i2).toNat)
        case atStart =>
          refine ⟨1, rs.take k, rs.map Row.v, by omega, by omega, rfl, by rw [List.length_take, Nat.min_eq_left hk], by rw [List.length_take]; omega, Lib.hid (by rw [HS.out, List.map_take]), HTS.out, hownq, Lib.hid (by rw [List.length_take, Nat.min_eq_left hk, List.map_take]), Lib.hid (fun _ _ => rfl), HGR⟩
        case round =>
          clear hownq
          obtain ⟨u, kept, V, hu0, hu, rfl, rfl, hkl, HKX, hsub, hV, HVT, HVR, HG⟩ := hrel
          obtain ⟨wo, rfl⟩ : ∃ wo : World, wo = wr := ⟨_, rfl⟩
          have hO3 : Own wo lo wo.heap.size rs [] := Own.kept HO.out (Nat.le_refl _) (by simp) (show w.grownBy wo (Value.slice (some ⟨g, 0, none⟩) rs.length c).ownBlock from HG.out)
          rcases Nat.lt_or_ge (k + u) rs.length with hul | hug
          · obtain ⟨q0, hq0⟩ : ∃ q : Row, q = rs[k + u] := ⟨_, rfl⟩
            obtain ⟨q1, hq1⟩ : ∃ q : Row, q = rs[k + (u - 1)]'(by omega) := ⟨_, rfl⟩
            have hq0m : q0 ∈ rs := by rw [hq0]; exact List.getElem_mem hul
            have hq1m : q1 ∈ rs := by rw [hq1]; exact List.getElem_mem _
            have c0 : wo.cell? ⟨g, k + u, none⟩ = some (Value.slice q0.A q0.xs.length q0.c) := by
              rw [hV.cellAt (k + u) (by omega), HVR.out (k + u) (by omega), List.getElem?_map, List.getElem?_eq_getElem hul, ← hq0]; rfl
            have c1 : wo.cell? ⟨g, k + (u - 1), none⟩ = some (Value.slice q1.A q1.xs.length q1.c) := by
              rw [hV.cellAt (k + (u - 1)) (by omega), HVR.out (k + (u - 1)) (by omega), List.getElem?_map, List.getElem?_eq_getElem (by omega), ← hq1]; rfl
            have c0d : wo.drew.cell? ⟨g, k + u, none⟩ = some (Value.slice q0.A q0.xs.length q0.c) := c0
            have c1d : wo.drew.cell? ⟨g, k + (u - 1), none⟩ = some (Value.slice q1.A q1.xs.length q1.c) := c1
            have i1 : IntKind.i64.wrap ((u : Int) - 1) = (u : Int) - 1 := IntWalk.i64_in _ (by omega)
            have i2 : ((u : Int) - 1).toNat = u - 1 := by omega
            have i3 : 0 ≤ (u : Int) - 1 := by omega
            have i4 : (u : Int) - 1 < ((rs.length - k : Nat) : Int) := by omega
            have i5 : (u : Int) < ((rs.length - k : Nat) : Int) := by omega
            have i6 : 0 ≤ (u : Int) := by omega
            have i7 : 1 ≤ (u : Int) := by omega
            have i8 : (u : Int) ≤ ((rs.length - k : Nat) : Int) := by omega
            have hy0 := ((hO3.read.rd q0 hq0m).dr (w' := wo.drew) (Dr.refl _).drew).more (B' := wo.drew.heap.size) (Nat.le_refl _)
            have hy1 := ((hO3.read.rd q1 hq1m).dr (w' := wo.drew) (Dr.refl _).drew).more (B' := wo.drew.heap.size) (Nat.le_refl _)
            have hm0 := HR8.out q0 hq0m
            have hm0' : q0.xs.length ≤ 4611686018427387904 := by omega
            have HT2 := Lib.hid (show compL ((rs.map Row.xs).take (k + u + 1)) = if q1.xs = q0.xs then compL ((rs.map Row.xs).take (k + u)) else compL ((rs.map Row.xs).take (k + u)) ++ [q0.xs] by
              have h1 := compL_take (rs.map Row.xs) (k + u) (by omega) (by simpa using hul)
              have h3 : (rs.map Row.xs)[k + u]'(by simpa using hul) = q0.xs := by rw [hq0]; simp
              have h4 : (rs.map Row.xs)[k + u - 1]'(by rw [List.length_map]; omega) = q1.xs := by rw [hq1]; simp only [List.getElem_map, show k + u - 1 = k + (u - 1) by omega]
              rw [h1, h3, h4])
            have HSL := Lib.hid (show kept.Sublist (rs.take (k + u + 1)) ∧ (kept ++ [q0]).Sublist (rs.take (k + u + 1)) by
              rw [List.take_succ_eq_append_getElem hul, ← hq0]
              exact ⟨hsub.trans (List.sublist_append_left _ _), hsub.append (List.Sublist.refl _)⟩)
            have hlen : ((rs.length - k : Nat) : Int) = (rs.length : Int) - (k : Int) := by omega
            have HLEN := Lib.hid hlen
            clear hlen hq0 hq1 hq0m hq1m hO3 hsub
            by_cases he : q0.xs = q1.xs
            · have HS2 := Lib.hid (show kept.map Row.xs = compL ((rs.map Row.xs).take (k + (u + 1))) by rw [show k + (u + 1) = k + u + 1 by omega, HT2.out, if_pos he.symm]; exact HKX.out)
              have HD := Lib.hid (decide_eq_true he)
              clear he
              go_wp2_with fail
              go_region_held3 (fun v => v.cell? ⟨g, k + u, none⟩ = some (Value.slice q0.A q0.xs.length q0.c) ∧ v.cell? ⟨g, k + (u - 1), none⟩ = some (Value.slice q1.A q1.xs.length q1.c)) (first | exact ⟨c0d, c1d⟩ | exact ⟨cq0, cq1⟩) ((first | (go_at_call 79; (with_reducible refine (equal_b _ _ _ _ _ _ _ _ wo.drew true rfl rfl hm0' hy0 hy1 HD.out).mono ?_); rintro e wq ⟨rfl, hdq⟩; have cq0 := (hdq.cell ⟨g, k + u, none⟩).trans c0d; have cq1 := (hdq.cell ⟨g, k + (u - 1), none⟩).trans c1d) | fail))
              have hdo := (Dr.refl wo).drew.trans hdq
              have hVq := hdo.own hV
              go_wp2_with fail
              go_roundw
              case rel => exact ⟨u + 1, kept, V, by omega, by omega, by go_num, rfl, by omega, HS2, HSL.out.1, hVq, HVT, Lib.hid (fun i hi => HVR.out i (by omega)), Lib.hid (grown_trans HG.out (below_grown (below_dr (Below.refl _ _) hdo)))⟩
              case measure => simp [intOf]; omega
            · have HS2 := Lib.hid (show (kept ++ [q0]).map Row.xs = compL ((rs.map Row.xs).take (k + (u + 1))) by
                rw [show k + (u + 1) = k + u + 1 by omega, HT2.out, if_neg (fun h => he h.symm), List.map_append, HKX.out]; rfl)
              have HD := Lib.hid (decide_eq_false he)
              clear he
              go_wp2_with fail
              go_region_held3 (fun v => v.cell? ⟨g, k + u, none⟩ = some (Value.slice q0.A q0.xs.length q0.c) ∧ v.cell? ⟨g, k + (u - 1), none⟩ = some (Value.slice q1.A q1.xs.length q1.c)) (first | exact ⟨c0d, c1d⟩ | exact ⟨cq0, cq1⟩) ((first | (go_at_call 79; (with_reducible refine (equal_b _ _ _ _ _ _ _ _ wo.drew false rfl rfl hm0' hy0 hy1 HD.out).mono ?_); rintro e wq ⟨rfl, hdq⟩; have cq0 := (hdq.cell ⟨g, k + u, none⟩).trans c0d; have cq1 := (hdq.cell ⟨g, k + (u - 1), none⟩).trans c1d) | fail))
              have hdo := (Dr.refl wo).drew.trans hdq
              have hVq := hdo.own hV
              have hVl := own_len hV
              have cz : wq.cell? ⟨g, kept.length, none⟩ = some (V[kept.length]'(by omega)) := by rw [hVq.cellAt kept.length (by omega)]; exact List.getElem?_eq_getElem (by omega)
              have fz : wq.frozen? ⟨g, kept.length, none⟩ = false := hVq.frozenAt kept.length
              have hVs := own_set_at hVq (show kept.length < rs.length by omega) (Value.slice q0.A q0.xs.length q0.c)
              have HVT2 := Lib.hid (show (V.set kept.length (Value.slice q0.A q0.xs.length q0.c)).take (kept ++ [q0]).length = (kept ++ [q0]).map Row.v by
                rw [List.length_append, List.length_singleton, List.take_succ_eq_append_getElem (by rw [List.length_set]; omega), List.take_set_of_le (Nat.le_refl _), HVT.out, List.getElem_set_self, List.map_append]; rfl)
              have HVR2 := Lib.hid (show ∀ i, k + (u + 1) - 1 ≤ i → (V.set kept.length (Value.slice q0.A q0.xs.length q0.c))[i]? = (rs.map Row.v)[i]? from fun i hi => by
                rw [List.getElem?_set_ne (by omega)]; exact HVR.out i (by omega))
              have HG2 := Lib.hid (show w.grownBy (wq.setCell ⟨g, kept.length, none⟩ (Value.slice q0.A q0.xs.length q0.c)) (some g) from grown_trans (grown_trans HG.out (below_grown (below_dr (Below.refl _ _) hdo))) (grown_set _ _ _ _))
              have j1 : (kept.length : Int) < (rs.length : Int) := by omega
              have HVS := Lib.hid hVs
              clear hVs hVq hdq cz fz
              have cz : wq.cell? ⟨g, kept.length, none⟩ = some (V[kept.length]'(by omega)) := by rw [(hdo.own hV).cellAt kept.length (by omega)]; exact List.getElem?_eq_getElem (by omega)
              have fz : wq.frozen? ⟨g, kept.length, none⟩ = false := (hdo.own hV).frozenAt kept.length
              clear hdo
              go_wp2_with fail
              go_roundw
              case rel => exact ⟨u + 1, kept ++ [q0], _, by omega, by omega, by go_num, by rw [List.length_append]; go_num, by rw [List.length_append, List.length_singleton]; omega, HS2, HSL.out.2, HVS.out, HVT2, HVR2, HG2⟩
              case measure => simp [intOf]; omega
          · obtain rfl : u = rs.length - k := by omega
            have hkn : k + (rs.length - k) = rs.length := by omega
            have HKF := Lib.hid (show kept.map Row.xs = compL (rs.map Row.xs) by
              have h1 := HKX.out
              rw [hkn, List.take_of_length_le (by simp)] at h1; exact h1)
            have hsubr : kept.Sublist rs := hsub.trans (List.take_sublist _ _)
            have hkl2 : kept.length < rs.length := by omega
            have hVl := own_len hV
            have hkc2 : ¬ c = kept.length := by omega
            have hsl3 : ∀ w, (Instr.slice 24 (.slice (some ⟨g, 0, none⟩) rs.length c) (some (.int .i64 (kept.length : Int))) none none).run Tryz.prog w = .ok (.slice (some ⟨g, kept.length, none⟩) (rs.length - kept.length) (c - kept.length)) w := fun w => by
              rw [run_cut (P := Tryz.prog) (t := 24) Tryz.underlying24 sizeL (some ⟨g, 0, none⟩) rs.length c kept.length (kept.length : Int) rfl (by omega) w]
              unfold cutA
              rw [if_neg hkc2]
              by_cases h0 : kept.length = 0 <;> simp [Addr.add, h0]
            have hcl : ∀ ty, (Builtin.clear_ #[24] ty #[.slice (some ⟨g, kept.length, none⟩) (rs.length - kept.length) (c - kept.length)]).run Tryz.prog wo = .ok (.tuple #[]) (wo.setCells g kept.length (List.replicate (rs.length - kept.length) (.slice none 0 0))) :=
              fun ty => Lib.run_clear_slice wo _ _ ty _ Tryz.underlying24 zeroL rfl rfl g kept.length _ _ (by omega) (fun j hj => by rw [hV.cellAt (kept.length + j) (by omega), List.getElem?_eq_getElem (by omega)]; rfl) (fun j _ => hV.frozenAt _)
            have hfin := own_sets (List.replicate (rs.length - kept.length) (Value.slice none 0 0)) kept.length wo (own_take hV (Nat.le_of_lt hkl2)) (Nat.le_refl _)
            rw [HVT.out] at hfin
            have hgw := grown_trans HG.out hfin.2
            have hOw := ((Own.kept HO.out (Nat.le_refl _) (by simp) (show w.grownBy _ (Value.slice (some ⟨g, 0, none⟩) rs.length c).ownBlock from hgw)).sub hsubr).with_ (A := some ⟨g, 0, none⟩) (c := c) (vs := kept.map Row.v) (by rw [List.length_map]; exact hfin.1) (Nat.le_refl _)
            have K := Lib.hid (And.intro hOw hgw)
            have hkcc : kept.length ≤ c := by omega
            clear hOw hgw hfin hsub hsubr hO3 hV
            go_wp2_with fail
            go_ret
            exact ⟨some ⟨g, 0, none⟩, c, kept, rfl, HKF.out, K.out.1, K.out.2⟩
      · have HS := Lib.hid (show compL ((rs.map Row.xs).take (k + 1)) = (rs.map Row.xs).take (k + 1) by
          rw [HT.out, HXk.out, HXk1.out, if_neg (fun h => he h.symm), HC.out, List.take_succ_eq_append_getElem (by simpa using hlt), HXk.out])
        have HD := Lib.hid (decide_eq_false he)
        clear he
        go_wp2_with fail
        go_region_held3 (fun v => v.cell? ⟨g, k, none⟩ = some ((Value.slice rs[k].A rs[k].xs.length rs[k].c)) ∧ v.cell? ⟨g, k - 1, none⟩ = some ((Value.slice (rs[k - 1]'(by omega)).A (rs[k - 1]'(by omega)).xs.length (rs[k - 1]'(by omega)).c))) (first | exact ⟨c0d, c1d⟩ | exact ⟨cq0, cq1⟩) ((first | (go_at_call 79; (with_reducible refine (equal_b _ _ _ _ _ _ _ _ wr.drew false rfl rfl hl0' hx0 hx1 HD.out).mono ?_); rintro e wq ⟨rfl, hdq⟩; have cq0 := (hdq.cell ⟨g, k, none⟩).trans c0d; have cq1 := (hdq.cell ⟨g, k - 1, none⟩).trans c1d) | fail))
        go_wp2_with fail
        go_roundw
        case rel => exact ⟨k + 1, by omega, by omega, by go_num, HS, (hd.trans (Dr.refl _).drew).trans hdq⟩
        case measure => simp [intOf]; omega
    · obtain rfl : k = rs.length := by omega
      have HE := Lib.hid (show compL (rs.map Row.xs) = rs.map Row.xs by have := HC.out; rwa [List.take_of_length_le (by simp)] at this)
      go_wp2_with fail
      go_ret
      exact ⟨_, c, rs, rfl, HE.out.symm, (HO.out.dr hd).wider (Nat.le_refl _) (by omega), below_grown (below_dr (Below.refl _ _) hd)⟩
end Go.Proofs.YtodloeonlaljpaaGreatDoor
