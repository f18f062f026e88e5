/- Several texts in one, each with its own head: V5, G6, V1, V4, V3, D4, Y1, Q3, Y2, Y3, Y4, OC2. No program of ours. -/
import Derived.RegionTactic
import Derived.ChangeAlike
import Derived.Lib.SliceRun
import Derived.Test.YtfcgohhmpgffjaaShelf
import Derived.Lib.OwnBridge
import Derived.Test.YtfcgohhmpgffjaaShelfF
import Derived.Shelf.SlSortCmp.NoneTotal
import Derived.Test.YtfcgohhmpgffjaaMPatterns4
/- InversePerm and CountPattern of the reference; the laws' sameLists, sameMesh and sameNear. -/
namespace Go.Proofs.Ytfcgohhmpgffjaa
set_option maxRecDepth 100000
open Go Go.RowKit

theorem sameInts_b (A A' : Option Addr) (c c' n m : Nat) (xs ys : List Int) (w : World) (b : Bool) (hn : xs.length = n) (hm : ys.length = m) (hl : n ≤ 1048576)
    (hx : Rd (Value.int .i64) w w.heap.size A xs) (hy : Rd (Value.int .i64) w w.heap.size A' ys) (hb : decide (xs = ys) = b) :
    Calls Try.prog 18 #[.slice A n c, .slice A' m c'] w (Rq w (.bool b)) := by
  subst hn hm hb
  exact sameInts_any A A' c c' xs ys w hl hx hy
set_option maxHeartbeats 1000000 in
theorem sameLists_eq (A A' : Option Addr) (c c' : Nat) (rs rs' : List Row) (w : World) (h : InL w A c rs) (h' : InL w A' c' rs') (he : rs.map Row.xs = rs'.map Row.xs) :
    Calls Try.prog 13 #[.slice A rs.length c, .slice A' rs'.length c'] w (Rb w (.bool true)) := by
  have hlen : rs.length = rs'.length := (map_len he.symm).symm
  have hl1 := h.len
  have hne : ((rs.length : Int) != (rs'.length : Int)) = false := by simp [hlen]
  have HE : ∀ (j : Nat) (hj : j < rs.length) (hj' : j < rs'.length), rs[j].xs = rs'[j].xs := fun j hj hj' => by
    have h1 : (rs.map Row.xs)[j]'(by simpa using hj) = (rs'.map Row.xs)[j]'(by simpa using hj') := by simp only [he]
    simpa using h1
  have HL := Lib.hid hlen
  have HEh := Lib.hid HE
  clear hlen he HE
  go_enter Try.func13, Try.ntmps13
  go_wp2
  go_loopw [5] (fun i wr => ∃ j : Nat, j ≤ rs.length ∧ i = .int .i64 j ∧ Dr w wr) (fun i _ => rs.length - (intOf i).toNat)
  case atStart => exact ⟨0, Nat.zero_le _, rfl, Dr.refl _⟩
  case round =>
    obtain ⟨j, hj, rfl, hd⟩ := hrel
    by_cases hlt : j < rs.length
    · have hlt' : j < rs'.length := by have := HL.out; omega
      obtain ⟨b, off, rfl, _, hc⟩ := (h.dr hd).read.at (by omega)
      obtain ⟨b', off', rfl, _, hc'⟩ := (h'.dr hd).read.at (by omega)
      have c1 := hc j hlt
      have c2 := hc' j hlt'
      have r1 := ((h.dr hd).row (List.getElem_mem hlt)).rd
      have r2 := ((h'.dr hd).row (List.getElem_mem hlt')).rd
      have q0 := ((h.dr hd).row (List.getElem_mem hlt)).len
      have hb : decide (rs[j].xs = rs'[j].xs) = true := by simpa using HEh.out j hlt hlt'
      have HB := Lib.hid hb
      clear hc hc' hb
      go_wp2
      go_quiet ((go_at_call 18; exact quiet_rq (sameInts_b _ _ _ _ _ _ rs[j].xs rs'[j].xs _ true rfl rfl q0 r1 r2 HB.out)))
      go_wp2
      go_roundw
      case rel => exact ⟨j + 1, by omega, by go_num, (by first | with_reducible assumption | with_reducible exact hd | with_reducible exact Dr.drewN hd _ | with_reducible exact Dr.drewN (Dr.drewN hd _) _ | with_reducible exact Dr.drew hd)⟩
      case measure => simp [intOf]; omega
    · go_wp2
      go_ret
      exact ⟨rfl, below_dr (Below.refl _ _) hd⟩
/-- How often a pattern occurs; -1 where one is no permutation. -/
def cpG (p q : List Int) : Int := if permB p = true ∧ permB q = true then ((occL p q).length : Int) else -1
set_option maxHeartbeats 1000000 in
theorem countPattern_spec (A B : Option Addr) (c d : Nat) (p q : List Int) (w : World) (hp : In w A c p) (hq : In w B d q) :
    Calls Try.prog 20 #[.slice A p.length c, .slice B q.length d] w (Rb w (.int .i64 (cpG p q))) := by
  by_cases hP : permB p = true
  · by_cases hQ : permB q = true
    · have HG := Lib.hid (show cpG p q = ((occL p q).length : Int) by rw [cpG, if_pos ⟨hP, hQ⟩])
      have H1 := Lib.hid hP
      have H2 := Lib.hid hQ
      clear hP hQ
      go_enter Try.func20, Try.ntmps20
      go_wp2_with fail
      (with_reducible refine (isPerm_sb A c p w true hp H1.out).mono ?_)
      rintro e w1 ⟨rfl, hd1⟩
      go_wp2_with fail
      (with_reducible refine (isPerm_sb B d q w1 true (hq.dr hd1) H2.out).mono ?_)
      rintro e w2 ⟨rfl, hd2⟩
      have hd := hd1.trans hd2
      have HC := Lib.hid (occurrencesOf_spec A B c d p q w2 (hp.dr hd) (hq.dr hd) H1.out H2.out)
      go_wp2_with fail
      (with_reducible refine HC.out.mono ?_)
      rintro e w3 ⟨O, ok, rs, rfl, hX, _, hb⟩
      have HL := Lib.hid (show rs.length = (occL p q).length from map_len1 hX)
      have hbd := below_dr (Below.refl w.heap.size w) hd
      clear hX
      go_wp2_with fail
      go_ret
      exact ⟨ret_int (by rw [HG.out, HL.out]), hbd.trans (hb.mono hbd.size)⟩
    · have hQ : permB q = false := by simpa using hQ
      have HG := Lib.hid (show cpG p q = -1 by rw [cpG, if_neg (by simp [hQ])])
      have H1 := Lib.hid hP
      have H2 := Lib.hid hQ
      clear hP hQ
      go_enter Try.func20, Try.ntmps20
      go_wp2_with fail
      (with_reducible refine (isPerm_sb A c p w true hp H1.out).mono ?_)
      rintro e w1 ⟨rfl, hd1⟩
      go_wp2_with fail
      (with_reducible refine (isPerm_sb B d q w1 false (hq.dr hd1) H2.out).mono ?_)
      rintro e w2 ⟨rfl, hd2⟩
      go_wp2_with fail
      go_ret
      exact ⟨ret_int HG.out.symm, below_dr (Below.refl _ _) (hd1.trans hd2)⟩
  · have hP : permB p = false := by simpa using hP
    have HG := Lib.hid (show cpG p q = -1 by rw [cpG, if_neg (by simp [hP])])
    have H1 := Lib.hid hP
    clear hP
    go_enter Try.func20, Try.ntmps20
    go_wp2_with fail
    (with_reducible refine (isPerm_sb A c p w false hp H1.out).mono ?_)
    rintro e w1 ⟨rfl, hd1⟩
    go_wp2_with fail
    go_ret
    exact ⟨ret_int HG.out.symm, below_dr (Below.refl _ _) hd1⟩
end Go.Proofs.Ytfcgohhmpgffjaa

/- CountNear, program and reference. -/
namespace Go.Proofs.Ytfcgohhmpgffjaa
set_option maxRecDepth 100000
open Go Go.RowKit

/-- A joined place whose neighbor is not beside it. -/
def badJ (l : List Int) (i : Int) : Bool := !(nth l i == nth l (i - 1) + 1)
def nearFit (ys l : List Int) : Bool := !ys.any (badJ l)
def nearCnt (p xs ys : List Int) : Nat := ((occI p xs).filter (nearFit ys)).length
def cnG (p xs ys : List Int) : Int := if permB p = true ∧ nearB xs ys = true then (nearCnt p xs ys : Int) else -1
theorem nearB_range {xs ys : List Int} (h : nearB xs ys = true) : ∀ i ∈ ys, 1 ≤ i ∧ i < xs.length := fun i hi => by
  unfold nearB at h
  rw [Bool.and_eq_true] at h
  obtain ⟨k, hk, rfl⟩ := List.mem_iff_getElem.1 hi
  have := List.all_eq_true.1 h.2 k (List.mem_range.2 hk)
  simp only [joinAt, List.getElem?_eq_getElem hk, Option.getD_some, decide_eq_true_eq] at this
  omega
theorem nearB_permB {xs ys : List Int} (h : nearB xs ys = true) : permB xs = true := by
  unfold nearB at h
  rw [Bool.and_eq_true] at h
  exact h.1
theorem occI_le {p q : List Int} (hp8 : p.length ≤ 8) (hq8 : q.length ≤ 8) : (occI p q).length ≤ 16777216 := by
  unfold occI
  have h1 := List.length_filter_le (fun l => decide (patL (atL p l) = q)) (ascI p.length q.length)
  have h2 := ascI_le p.length q.length
  have h3 := pow_eight hp8 hq8
  omega
theorem occI_mem {p q l : List Int} (h : l ∈ occI p q) : l.length = q.length ∧ Asc p.length l := ascI_mem (List.mem_filter.1 h).1


end Go.Proofs.Ytfcgohhmpgffjaa

/- A list from its end: slices.Reverse in place, reverse, l3Reverse; ascending and descending lists. -/
namespace Go.Proofs.Ytfcgohhmpgffjaa
set_option maxRecDepth 100000
open Go Go.RowKit

/-- The cell of a list's row, the list's address known. -/
theorem Read.cellAt {w : World} {B b off c : Nat} {rs : List Row} (h : Read w B rs [⟨some ⟨b, off, none⟩, c, rs.map Row.v⟩]) (j : Nat) (hj : j < rs.length) : w.cell? ⟨b, off + j, none⟩ = some (Value.slice rs[j].A rs[j].xs.length rs[j].c) := by
  obtain ⟨b', off', he, _, hc⟩ := h.at (by omega)
  injection he with he
  injection he with he1 he2 _
  subst he1 he2
  exact hc j hj
/-- The first and the last i places are exchanged. -/
def revTo (xs : List Int) (i : Nat) : List Int := (List.range xs.length).map fun t => if t < i ∨ xs.length ≤ t + i then xs[xs.length - 1 - t]?.getD 0 else xs[t]?.getD 0
theorem revTo_length (xs : List Int) (i : Nat) : (revTo xs i).length = xs.length := by simp [revTo]
theorem revTo_get (xs : List Int) (i t : Nat) (h : t < xs.length) : (revTo xs i)[t]? = some (if t < i ∨ xs.length ≤ t + i then xs[xs.length - 1 - t]?.getD 0 else xs[t]?.getD 0) := by
  simp [revTo, h]
theorem revTo_zero (xs : List Int) : revTo xs 0 = xs := by
  apply List.ext_getElem?
  intro t
  by_cases h : t < xs.length
  · rw [revTo_get xs 0 t h, if_neg (by omega), List.getElem?_eq_getElem h]; rfl
  · rw [List.getElem?_eq_none (by rw [revTo_length]; omega), List.getElem?_eq_none (by omega)]
theorem revTo_all (xs : List Int) (i : Nat) (h : xs.length ≤ 2 * i + 1) : revTo xs i = xs.reverse := by
  apply List.ext_getElem?
  intro t
  by_cases ht : t < xs.length
  · rw [revTo_get xs i t ht, List.getElem?_reverse ht]
    by_cases hc : t < i ∨ xs.length ≤ t + i
    · rw [if_pos hc, List.getElem?_eq_getElem (by omega)]; rfl
    · rw [if_neg hc]
      have : xs.length - 1 - t = t := by omega
      rw [this, List.getElem?_eq_getElem ht]; rfl
  · rw [List.getElem?_eq_none (by rw [revTo_length]; omega), List.getElem?_eq_none (by rw [List.length_reverse]; omega)]
theorem revTo_succ (xs : List Int) (i : Nat) (h : 2 * i + 1 < xs.length) : ((revTo xs i).set i (xs[xs.length - 1 - i]?.getD 0)).set (xs.length - 1 - i) (xs[i]?.getD 0) = revTo xs (i + 1) := by
  apply List.ext_getElem?
  intro t
  by_cases ht : t < xs.length
  · rw [revTo_get xs (i + 1) t ht, List.getElem?_set, List.getElem?_set, List.length_set, revTo_length, revTo_get xs i t ht]
    by_cases h1 : xs.length - 1 - i = t
    · subst h1
      rw [if_pos rfl, if_pos (by omega), if_pos (by omega)]
      rw [show xs.length - 1 - (xs.length - 1 - i) = i by omega]
    · rw [if_neg h1]
      by_cases h2 : i = t
      · subst h2
        rw [if_pos rfl, if_pos (by omega), if_pos (by omega)]
      · rw [if_neg h2]
        by_cases h3 : t < i ∨ xs.length ≤ t + i
        · rw [if_pos h3, if_pos (by omega)]
        · rw [if_neg h3, if_neg (by omega)]
  · rw [List.getElem?_eq_none (by rw [List.length_set, List.length_set, revTo_length]; omega), List.getElem?_eq_none (by rw [revTo_length]; omega)]
theorem revTo_at (xs : List Int) (i t : Nat) (h : t < xs.length) (h1 : i ≤ t) (h2 : t + i < xs.length) : ((revTo xs i).map (Value.int .i64))[t]? = some (.int .i64 xs[t]) := by
  rw [List.getElem?_map, revTo_get xs i t h, if_neg (by omega), List.getElem?_eq_getElem h]; rfl

theorem rev_take (xs : List Int) (k : Nat) (h : k < xs.length) : (xs.drop k).reverse = (xs.drop (k + 1)).reverse ++ [xs[k]] := by
  rw [List.drop_eq_getElem_cons h, List.reverse_cons]
set_option maxHeartbeats 1000000 in
theorem l3Reverse_any (A : Option Addr) (c n : Nat) (xs : List Int) (w : World) (hn : xs.length = n) (hl : n ≤ 1048576) (hx : Rd (Value.int .i64) w w.heap.size A xs) :
    Calls Try.prog 54 #[.slice A n c] w (Ret (Value.int .i64) 3 w xs.reverse) := by
  obtain ⟨i0, hi, hz0, hz1, hz2⟩ := info_parts infoI
  have HN := Lib.hid hn
  have hn1 : xs.length ≤ n := by omega
  have hn2 : n ≤ xs.length := by omega
  clear hn
  have hown0 : (w.alloc (.cells #[] 3)).ownsRow w.heap.size 3 1 (.slice (some ⟨w.heap.size, 0, none⟩) 0 0) 0 (((xs.drop n).reverse).map (Value.int .i64)) := by
    rw [List.drop_of_length_le hn1]
    exact World.ownsRow_lit w #[] 0 (Nat.le_refl _) (by unfold maxLen; omega) rfl
  have hb0 := (Below.refl w.heap.size w).alloc (Nat.le_refl _) (.cells #[] 3)
  go_enter Try.func54, Try.ntmps54
  go_wp2_with fail
  go_loopw [3, 4] (fun v i wr => ∃ (k m : Nat) (A1 : Option Addr) (c1 : Nat), k ≤ n ∧ m = n - k ∧ i = .int .i64 ((k : Int) - 1) ∧ v = .slice A1 m c1 ∧ wr.ownsRow w.heap.size 3 1 (.slice A1 m c1) m (((xs.drop k).reverse).map (Value.int .i64)) ∧ Below w.heap.size w wr) (fun _ i _ => (intOf i + 1).toNat)
  case atStart => exact ⟨n, 0, _, _, Nat.le_refl _, by omega, rfl, rfl, hown0, hb0⟩
  case round =>
    clear hown0 hb0
    obtain ⟨k, m, A1, c1, hk, hm, rfl, rfl, hown, hb⟩ := hrel
    have hmn : m ≤ n := by omega
    have HM := Lib.hid hm
    have hsz := hb.size
    clear hm
    rcases Nat.eq_zero_or_pos k with h0 | h0
    · subst h0
      have hneg : ¬ ((0 : Int) ≤ ((0 : Nat) : Int) - 1) := by omega
      have HE := Lib.hid (show m = xs.reverse.length by rw [List.length_reverse]; have := HM.out; omega)
      rw [List.drop_zero] at hown
      go_wp2_with fail
      go_ret
      exact ⟨A1, c1, by rw [← HE.out]; rfl, by rw [← HE.out]; exact (own_caps hown).1, (own_caps hown).2, by rw [← HE.out]; first | exact hown | simpa using hown, hb⟩
    · obtain ⟨j, hj⟩ : ∃ j : Nat, (j : Int) = (k : Int) - 1 := ⟨k - 1, by omega⟩
      have hjx : j < xs.length := by omega
      obtain ⟨b, off, rfl, _, hc⟩ := (hx.next hb) (by omega)
      have cc := hc j hjx
      have HT := Lib.hid (show (xs.drop j).reverse = (xs.drop k).reverse ++ [xs[j]] by rw [rev_take xs j hjx, show j + 1 = k by omega])
      have HJ := Lib.hid hj
      have hjn : j < n := by omega
      have hjk : j < k := by omega
      have HMJ := Lib.hid (show m + 1 = n - j by have := HM.out; omega)
      rw [← hj]
      clear hc hj
      go_wp2_with (at_builtin; refine wpList_append_own _ rfl _ _ 24 rfl (w.heap.size) 3 i0 (.int .i64 0) 1 8 Try.underlying24 hi hz0 hz1 hz2 rfl (by decide) _ _ _ rfl (World.ownsRow.alloc hown _) ⟨wr.heap.size, 0, none⟩ 1 1 [.int .i64 (xs[j])] rfl rfl (cell_one_new _ _ _) (by intro u hu; simp at hu; subst hu; rfl) (by unfold maxLen; omega) (by omega) (by simp; omega) ?_; intro v1 w1 hown1 hgrow1 _)
      have hS2 : w1.ownsRow w.heap.size 3 1 v1 (m + 1) (((xs.drop j).reverse).map (Value.int .i64)) := by rw [HT.out]; simpa using hown1
      have hb1 := (hb.alloc hsz (Obj.cells #[Value.int .i64 xs[j]] 3)).grown hgrow1 (by simp; omega) (by intro g hg; exact ((hown.lt g hg).1))
      obtain ⟨A2, c2, rfl, _, _⟩ := own_shape hS2
      have H1 := Lib.hid hS2
      have H2 := Lib.hid hb1
      clear hS2 hown1 hgrow1 hb1 hown hb
      go_wp2
      go_roundw
      case rel => exact ⟨j, m + 1, A2, c2, by omega, HMJ.out, by go_num, rfl, H1.out, H2.out⟩
      case measure => (simp [intOf]) <;> omega
/-- Ascending by neighbors. -/
def sortB (xs : List Int) : Bool := (List.range (xs.length - 1)).all fun i => decide (xs[i]?.getD 0 ≤ xs[i + 1]?.getD 0)
theorem nums_get (n i : Nat) (h : i < n) : (nums n)[i]? = some ((i : Int) + 1) := by simp [nums, h]
theorem sort_perm {xs : List Int} (h : permB xs = true) : sortB xs = decide (xs = nums xs.length) := by
  obtain ⟨_, hr, hn⟩ := permB_true h
  rw [Bool.eq_iff_iff, decide_eq_true_eq]
  constructor
  · intro hs
    have hlt : ∀ i (h1 : i + 1 < xs.length), xs[i] < xs[i + 1] := fun i h1 => by
      have h2 := List.all_eq_true.1 hs i (List.mem_range.2 (by omega))
      rw [List.getElem?_eq_getElem (show i < xs.length by omega), List.getElem?_eq_getElem h1] at h2
      have h3 : xs[i] ≤ xs[i + 1] := by simpa using h2
      rcases Int.lt_or_eq_of_le h3 with h4 | h4
      · exact h4
      · have := nodup_inj hn _ _ h4
        omega
    have hge : ∀ i (h1 : i < xs.length), (i : Int) + 1 ≤ xs[i] := by
      intro i
      induction i with
      | zero => intro h1; have := (hr xs[0] (List.getElem_mem h1)).1; omega
      | succ i ih => intro h1; have h2 := ih (by omega); have h3 := hlt i h1; push_cast; omega
    have hle : ∀ d i (h1 : i < xs.length), xs.length - 1 - i = d → xs[i] ≤ (i : Int) + 1 := by
      intro d
      induction d with
      | zero => intro i h1 hd; have := (hr xs[i] (List.getElem_mem h1)).2; omega
      | succ d ih => intro i h1 hd; have h2 := ih (i + 1) (by omega) (by omega); have h3 := hlt i (by omega); push_cast at h2; omega
    apply List.ext_getElem?
    intro i
    by_cases hi : i < xs.length
    · rw [nums_get _ _ hi, List.getElem?_eq_getElem hi]
      have h1 := hge i hi
      have h2 := hle _ i hi rfl
      congr 1
      omega
    · rw [List.getElem?_eq_none (by omega), List.getElem?_eq_none (by rw [nums_length]; omega)]
  · intro he
    unfold sortB
    rw [List.all_eq_true]
    intro i hi
    have hi := List.mem_range.1 hi
    have h1 : xs[i]? = some ((i : Int) + 1) := by rw [he]; exact nums_get _ _ (by omega)
    have h2 : xs[i + 1]? = some (((i + 1 : Nat) : Int) + 1) := by rw [he]; exact nums_get _ _ (by omega)
    rw [h1, h2]
    simp only [Option.getD_some, decide_eq_true_eq]
    push_cast
    omega
end Go.Proofs.Ytfcgohhmpgffjaa

/- ReversePerm and InversePerm of the reference. -/
namespace Go.Proofs.Ytfcgohhmpgffjaa
set_option maxRecDepth 100000
open Go Go.RowKit

def revG (p : List Int) : List Int := if permB p = true then p.reverse else []
theorem revG_length (p : List Int) : (revG p).length ≤ p.length := by unfold revG; split <;> simp
set_option maxHeartbeats 800000 in
theorem reversePerm_spec (A : Option Addr) (c : Nat) (p : List Int) (w : World) (h : In w A c p) :
    Calls Try.prog 27 #[.slice A p.length c] w (Ret (Value.int .i64) 3 w (revG p)) := by
  by_cases hp : permB p = true
  · have HP := Lib.hid hp
    have HR := Lib.hid (show revG p = p.reverse by rw [revG, if_pos hp])
    clear hp
    go_enter Try.func27, Try.ntmps27
    go_wp2_with fail
    (with_reducible refine (isPerm_sb A c p w true h HP.out).mono ?_)
    rintro e w1 ⟨rfl, hd⟩
    have hin := h.dr hd
    have HC := Lib.hid (l3Reverse_any A c p.length p w1 rfl h.len hin.rd)
    go_wp2_with fail
    (with_reducible refine HC.out.mono ?_)
    rintro e w2 ⟨A', c', rfl, h1, h2, ho, hb⟩
    go_wp2_with fail
    go_ret
    rw [HR.out]
    have hbd := below_dr (Below.refl w.heap.size w) hd
    exact ⟨A', c', by rw [List.length_reverse]; rfl, h1, h2, own_mono ho hbd.size, hbd.trans (hb.mono hbd.size)⟩
  · have hp : permB p = false := by simpa using hp
    have HP := Lib.hid hp
    have HR := Lib.hid (show revG p = [] by rw [revG, if_neg (by simp [hp])])
    clear hp
    go_enter Try.func27, Try.ntmps27
    go_wp2_with fail
    (with_reducible refine (isPerm_sb A c p w false h HP.out).mono ?_)
    rintro e w1 ⟨rfl, hd⟩
    have hbd := below_dr (Below.refl w.heap.size w) hd
    go_wp2_with fail
    go_ret
    rw [HR.out]
    exact ⟨_, 0, rfl, Nat.le_refl _, Nat.zero_le _, World.ownsRow_lit _ #[] 0 hbd.size (by unfold maxLen; omega) rfl, hbd.alloc hbd.size _⟩
end Go.Proofs.Ytfcgohhmpgffjaa

/- IsSumClosed, program and reference. -/
namespace Go.Proofs.Ytfcgohhmpgffjaa
set_option maxRecDepth 100000
open Go Go.RowKit

/-- The greatest of the first k. -/
def pmax (p : List Int) (k : Nat) : Int := (p.take k).foldl max 0
theorem pmax_succ (p : List Int) (k : Nat) (h : k < p.length) : pmax p (k + 1) = max (pmax p k) p[k] := by
  unfold pmax
  rw [List.take_succ_eq_append_getElem h, List.foldl_append]; rfl
theorem pmax_bd {p : List Int} (hb : ∀ v ∈ p, 1 ≤ v ∧ v ≤ 8) (k : Nat) : 0 ≤ pmax p k ∧ pmax p k ≤ 8 := by
  induction k with
  | zero => simp [pmax]
  | succ k ih =>
    by_cases h : k < p.length
    · rw [pmax_succ p k h]
      have := hb p[k] (List.getElem_mem h)
      omega
    · unfold pmax at ih ⊢
      rw [List.take_of_length_le (by omega)] at ih ⊢
      exact ih
/-- How many sum parts end within the first k. -/
def sumN (p : List Int) (k : Nat) : Nat := ((List.range k).filter fun i => decide (pmax p (i + 1) = (i : Int) + 1)).length
theorem sumN_succ (p : List Int) (k : Nat) : sumN p (k + 1) = if pmax p (k + 1) = (k : Int) + 1 then sumN p k + 1 else sumN p k := by
  unfold sumN
  rw [List.range_succ, List.filter_append]
  by_cases h : pmax p (k + 1) = (k : Int) + 1 <;> simp [h]
theorem sumN_le (p : List Int) (k : Nat) : sumN p k ≤ k := Nat.le_trans (List.length_filter_le _ _) (by simp)
def scG (X : List (List Int)) : Bool := basisB X && !X.any fun p => decide (1 < sumN p p.length)
/-- A call's result: a list of n rows, whatever they are. -/
def RetLen (w : World) (n : Nat) (e : Ending) (w' : World) : Prop := ∃ A c, e = .returned (.slice A n c) ∧ Below w.heap.size w w'


theorem l1Max_b (a b m : Int) (w : World) (hm : max a b = m) : Calls Try.prog 40 #[.int .i64 a, .int .i64 b] w fun e w' => e = .returned (.int .i64 m) ∧ w = w' := by
  have HM := Lib.hid hm
  clear hm
  by_cases h : b < a
  · have HE := Lib.hid (show m = a by rw [← HM.out]; omega)
    go_enter Try.func40, Try.ntmps40
    go_wp2
    go_ret
    exact ⟨by rw [HE.out]; rfl, rfl⟩
  · have HE := Lib.hid (show m = b by rw [← HM.out]; omega)
    go_enter Try.func40, Try.ntmps40
    go_wp2
    go_ret
    exact ⟨by rw [HE.out]; rfl, rfl⟩
def sumG (p : List Int) : Nat := if permB p = true then sumN p p.length else 0

end Go.Proofs.Ytfcgohhmpgffjaa

/- The draws of FnRuns: pairs of lists, numbers. -/
namespace Go.Proofs.Ytfcgohhmpgffjaa
set_option maxRecDepth 100000
open Go Go.RowKit

/-- Two lists were drawn, both read. -/
def RetII (w : World) (ok : List Int → List Int → Prop) (en : Ending) (w' : World) : Prop :=
  ∃ D k xs E m ys, en = .returned (.tuple #[.slice D xs.length k, .slice E ys.length m]) ∧ ok xs ys ∧ In w' D k xs ∧ In w' E m ys ∧ Below w.heap.size w w'
theorem In.of_own {w : World} {base e c : Nat} {A : Option Addr} {xs : List Int} (h : w.ownsRow base e 1 (.slice A xs.length c) xs.length (xs.map (Value.int .i64))) (hl : xs.length ≤ 1048576) : In w A c xs := ⟨hl, (own_caps h).1, Rd.of_own h⟩
set_option maxHeartbeats 2000000 in
theorem l7Case_any (A : Option Addr) (c : Nat) (bs : List Int) (w : World) (h : InY w A c bs) :
    Calls Try.prog 29 #[.slice A bs.length c] w (RetII w fun xs ys => xs.length ≤ 9 ∧ ys.length ≤ 9) := by
  have HC := Lib.hid (l1New_any A c bs w h.len h.rd)
  go_enter Try.func29, Try.ntmps29
  go_wp2_with fail
  (with_reducible refine HC.out.mono ?_)
  rintro e w1 ⟨q, rfl, hq, hc, hb⟩
  have HD := Lib.hid (l2Bent_any w1 q A c bs hc)
  clear HC
  go_wp2_with fail
  (with_reducible refine HD.out.mono ?_)
  rintro e w2 ⟨D, k, xs, rfl, hl, ho, k1⟩
  have HO := Lib.hid (l1Once_any w2 q A c bs 14 (by omega) k1.cur)
  clear HD
  go_wp2_with fail
  (with_reducible refine HO.out.mono ?_)
  rintro e w3 ⟨b, rfl, kb⟩
  have hq1 := hc.lt
  have ho := own_drawn ho kb hq1
  have k2 := k1.trans kb
  have hsz := k2.span.size
  clear HO k1 kb
  rcases b with _ | _
  · have kA := k2.next (((Below.refl w3.heap.size w3).alloc (Nat.le_refl _) (.cells #[.int .i64 0, .int .i64 1, .int .i64 2, .int .i64 3, .int .i64 3, .int .i64 4] 3)).mono hsz) hq1
    have hoA := own_below ho ((Below.refl w3.heap.size w3).alloc (Nat.le_refl _) (.cells #[.int .i64 0, .int .i64 1, .int .i64 2, .int .i64 3, .int .i64 3, .int .i64 4] 3))
    have HP := Lib.hid (l1PickInt_any _ q A c bs w3.heap.size 6 6 [0, 1, 2, 3, 3, 4] rfl (by decide) (by decide) (by omega) (by simp) (fun j hj => (obj_cell (obj_new w3 _)).trans (by
      have hj : j < 6 := hj
      rcases j with _ | _ | _ | _ | _ | _ | j
      all_goals first | rfl | omega)) kA.cur)
    go_wp2_with fail
    (with_reducible refine HP.out.mono ?_)
    rintro e w4 ⟨x, rfl, hx, k3⟩
    have hx8 : 0 ≤ x ∧ x ≤ 4 := by simp at hx; omega
    obtain ⟨n, rfl⟩ := Int.eq_ofNat_of_zero_le hx8.1
    have ho := own_drawn hoA k3 hq1
    have k4 := kA.trans k3
    have HD := Lib.hid (l2Draw_any w4 q A c bs n (by omega) k4.cur)
    clear HP hx
    go_wp2_with fail
    (with_reducible refine HD.out.mono ?_)
    rintro e w5 ⟨E, m, ys, rfl, hp, ho2, k5⟩
    have hyl : ys.length = n := by rw [hp.length_eq, upToL_length]
    have ho := own_drawn ho k5 hq1
    have HR := Lib.hid (show ys.length ≤ 9 by omega)
    have k6 := k4.trans k5
    clear hyl hp
    go_wp2_with fail
    go_ret2
    exact ⟨D, k, xs, E, m, ys, rfl, ⟨hl, HR.out⟩, In.of_own ho (by omega), In.of_own ho2 (by have := HR.out; omega), hb.trans (k6.below hq hb.size)⟩
  · have HD := Lib.hid (l2Bent_any w3 q A c bs k2.cur)
    go_wp2_with fail
    (with_reducible refine HD.out.mono ?_)
    rintro e w4 ⟨E, m, ys, rfl, hl2, ho2, k4⟩
    have ho := own_drawn ho k4 hq1
    go_wp2_with fail
    go_ret2
    exact ⟨D, k, xs, E, m, ys, rfl, ⟨hl, hl2⟩, In.of_own ho (by omega), In.of_own ho2 (by omega), hb.trans ((k2.trans k4).below hq hb.size)⟩
end Go.Proofs.Ytfcgohhmpgffjaa

/- slices.CompactFunc of a list of rows: of equal neighbors the first one is kept. -/
namespace Go.Proofs.Ytfcgohhmpgffjaa
set_option maxRecDepth 100000
open Go Go.RowKit

theorem compL_snoc (L : List (List Int)) (x y : List Int) : compL (L ++ [x] ++ [y]) = if x = y then compL (L ++ [x]) else compL (L ++ [x]) ++ [y] := by
  match L with
  | [] =>
    simp only [List.nil_append, List.cons_append, compL]
    by_cases h : x = y <;> simp [h]
  | [a] =>
    simp only [List.cons_append, List.nil_append, compL]
    by_cases h1 : a = x
    · by_cases h : x = y <;> simp [h1, h]
    · by_cases h : x = y <;> simp [h1, h]
  | a :: b :: t =>
    have ih := compL_snoc (b :: t) x y
    simp only [List.cons_append, compL] at ih ⊢
    by_cases h1 : a = b
    · rw [if_pos h1, if_pos h1]; exact ih
    · rw [if_neg h1, if_neg h1, ih]
      by_cases h : x = y
      · rw [if_pos h, if_pos h]
      · rw [if_neg h, if_neg h]; rfl
theorem compL_take (X : List (List Int)) (k : Nat) (h0 : 0 < k) (h : k < X.length) : compL (X.take (k + 1)) = if X[k - 1]'(by omega) = X[k] then compL (X.take k) else compL (X.take k) ++ [X[k]] := by
  have e1 : X.take k = X.take (k - 1) ++ [X[k - 1]'(by omega)] := by
    have := List.take_succ_eq_append_getElem (l := X) (i := k - 1) (by omega)
    rwa [Nat.sub_add_cancel h0] at this
  rw [List.take_succ_eq_append_getElem h, e1]
  exact compL_snoc _ _ _
section
variable {w w' : World} {base e g k n cap j : Nat} {V : List Value}
theorem own_beyond (h : w.ownsRow base e 1 (.slice (some ⟨g, 0, none⟩) k cap) k V) (hj : k ≤ j) (u : Value) : (w.setCell ⟨g, j, none⟩ u).ownsRow base e 1 (.slice (some ⟨g, 0, none⟩) k cap) k V := by
  refine ⟨h.1, ?_⟩
  rcases h.2 with ⟨e, _⟩ | ⟨g', cap', cur, hv, hb, hh, h1, h2, h3, h4⟩
  · cases e
  · injection hv with hv _ hc
    injection hv with hv
    injection hv with hv _ _
    subst hv hc
    refine .inr ⟨g, cap, cur.setIfInBounds j u, rfl, hb, obj_set hh u, h1, h2, by simpa using h3, ?_⟩
    rw [← h4, Array.toList_setIfInBounds, Nat.mul_one, List.take_set_of_le hj]
theorem grown_set (w : World) (g j : Nat) (u : Value) : w.grownBy (w.setCell ⟨g, j, none⟩ u) (some g) :=
  ⟨rfl, rfl, rfl, by simp [World.setCell], fun k _ hk => by
    simp only [World.setCell, Array.getElem?_modify]
    rw [if_neg (fun h => hk (by rw [h]))]⟩
theorem own_sets (vs : List Value) : ∀ (o : Nat) (w : World), w.ownsRow base e 1 (.slice (some ⟨g, 0, none⟩) k cap) k V → k ≤ o → (w.setCells g o vs).ownsRow base e 1 (.slice (some ⟨g, 0, none⟩) k cap) k V ∧ w.grownBy (w.setCells g o vs) (some g) := by
  induction vs with
  | nil => intro o w h _; exact ⟨h, World.grownBy.refl w _⟩
  | cons a t ih =>
    intro o w h ho
    obtain ⟨h1, h2⟩ := ih (o + 1) (w.setCell ⟨g, o, none⟩ a) (own_beyond h ho a) (by omega)
    exact ⟨h1, grown_trans (grown_set w g o a) h2⟩
theorem own_set_at (h : w.ownsRow base e 1 (.slice (some ⟨g, 0, none⟩) n cap) n V) (hj : j < n) (u : Value) : (w.setCell ⟨g, j, none⟩ u).ownsRow base e 1 (.slice (some ⟨g, 0, none⟩) n cap) n (V.set j u) := by
  exact (h.stored j u).1
end
theorem call_eqf (args : Array Value) (w : World) : (callFunc 64 args).run Try.prog w = .ok (.enter 64 args) w := by kernel_rfl
theorem zeroL (w : World) : (zeroValue 24).run Try.prog w = .ok (.slice none 0 0) w := by kernel_rfl
set_option maxHeartbeats 8000000 in
theorem compact_any (A : Option Addr) (c lo : Nat) (rs : List Row) (w : World) (hO : Own w lo w.heap.size rs [⟨A, c, rs.map Row.v⟩]) (hn : rs.length ≤ 1048576) (hr8 : ∀ r ∈ rs, r.xs.length ≤ 1048576) :
    Calls Try.prog 63 #[.slice A rs.length c, .func (.func 64) #[] #[]] w (RetP w lo A (compL (rs.map Row.xs))) := by
  have hcap := own_caps hO.out
  rw [List.length_map] at hcap
  have HR8 := Lib.hid hr8
  have hc63 : c ≤ 9223372036854775807 := by have := hcap.2; unfold maxLen at this; omega
  rcases Nat.lt_or_ge rs.length 2 with h2 | h2
  · have HE := Lib.hid (show compL (rs.map Row.xs) = rs.map Row.xs by
      match rs, h2 with
      | [], _ => rfl
      | [r], _ => rfl)
    go_enter Try.func63, Try.ntmps63
    have d0 : decide ((rs.length : Int) < 2) = true := decide_eq_true (by omega)
    go_wp2_with fail
    go_ret
    exact ⟨A, c, rs, rfl, HE.out.symm, hO, below_grown (Below.refl _ _)⟩
  have hcf := call_eqf
  obtain ⟨g, hgA, hglo, hglt⟩ : ∃ g, A = some ⟨g, 0, none⟩ ∧ lo ≤ g ∧ g < w.heap.size := by
    obtain ⟨g, cap, hv, h1, h3⟩ := hO.out.form (by rw [List.length_map]; omega)
    injection hv with hv _ _
    exact ⟨g, hv, h1, h3⟩
  subst hgA
  have HO := Lib.hid hO
  have hown0 := hO.outN (n := rs.length) (by simp)
  have d0 : decide ((rs.length : Int) < 2) = false := decide_eq_false (by omega)
  clear hr8 hO
  go_enter Try.func63, Try.ntmps63
  go_wp2_with fail
  go_loopw [5] (fun i wr => ∃ k : Nat, 0 < k ∧ k ≤ rs.length ∧ i = .int .i64 k ∧ Hid (compL ((rs.map Row.xs).take k) = (rs.map Row.xs).take k) ∧ Dr w wr) (fun i _ => rs.length - (intOf i).toNat)
  case atStart => exact ⟨1, by omega, by omega, rfl, Lib.hid (by
    match rs, h2 with
    | a :: b :: t, _ => rfl), Dr.refl _⟩
  case round =>
    obtain ⟨k, hk0, hk, rfl, HC, hd⟩ := hrel
    have hszr : wr.heap.size = w.heap.size := by rw [hd.heap]
    have HZ := Lib.hid hszr
    rcases Nat.lt_or_ge k rs.length with hlt | hge
    · have hOr := HO.out.dr hd
      have hRr := hOr.read
      have c0 := hRr.cellAt k hlt
      have c1 := hRr.cellAt (k - 1) (by omega)
      rw [Nat.zero_add] at c0 c1
      have c0d : wr.drew.cell? ⟨g, k, none⟩ = some (Value.slice rs[k].A rs[k].xs.length rs[k].c) := c0
      have c1d : wr.drew.cell? ⟨g, k - 1, none⟩ = some (Value.slice (rs[k - 1]'(by omega)).A (rs[k - 1]'(by omega)).xs.length (rs[k - 1]'(by omega)).c) := c1
      have e1 : IntKind.i64.wrap ((k : Int) - 1) = (k : Int) - 1 := IntWalk.i64_in _ (by omega)
      have e2 : ((k : Int) - 1).toNat = k - 1 := by omega
      have e3 : 0 ≤ (k : Int) - 1 := by omega
      have e4 : (k : Int) - 1 < (rs.length : Int) := by omega
      have e5 : (k : Int) < (rs.length : Int) := by omega
      have e6 : 0 ≤ (k : Int) := by omega
      have e7 : 1 ≤ (k : Int) := by omega
      have e8 : (k : Int) ≤ (rs.length : Int) := by omega
      have hx0 := ((hRr.rd rs[k] (List.getElem_mem hlt)).dr (w' := wr.drew) (Dr.refl _).drew).more (B' := wr.drew.heap.size) (by show _ ≤ wr.heap.size; omega)
      have hx1 := ((hRr.rd (rs[k - 1]'(by omega)) (List.getElem_mem _)).dr (w' := wr.drew) (Dr.refl _).drew).more (B' := wr.drew.heap.size) (by show _ ≤ wr.heap.size; omega)
      have hl0 := HR8.out rs[k] (List.getElem_mem hlt)
      have hl0' : rs[k].xs.length ≤ 4611686018427387904 := by omega
      have HT := Lib.hid (compL_take (rs.map Row.xs) k hk0 (by simpa using hlt))
      have hXk : (rs.map Row.xs)[k]'(by simpa using hlt) = rs[k].xs := by simp
      have hXk1 : (rs.map Row.xs)[k - 1]'(by rw [List.length_map]; omega) = (rs[k - 1]'(by omega)).xs := by simp
      have HXk := Lib.hid hXk
      have HXk1 := Lib.hid hXk1
      clear hXk hXk1 hOr hRr
      by_cases he : rs[k].xs = (rs[k - 1]'(by omega)).xs
      · have HS := Lib.hid (show compL ((rs.map Row.xs).take (k + 1)) = (rs.map Row.xs).take k by rw [HT.out, HXk.out, HXk1.out, if_pos he.symm, HC.out])
        have HD := Lib.hid (decide_eq_true he)
        clear he
        go_wp2_with fail
        go_region_held3 (fun v => v.cell? ⟨g, k, none⟩ = some ((Value.slice rs[k].A rs[k].xs.length rs[k].c)) ∧ v.cell? ⟨g, k - 1, none⟩ = some ((Value.slice (rs[k - 1]'(by omega)).A (rs[k - 1]'(by omega)).xs.length (rs[k - 1]'(by omega)).c))) (first | exact ⟨c0d, c1d⟩ | exact ⟨cq0, cq1⟩) ((first | (go_at_call 64; (with_reducible refine (equal_b _ _ _ _ _ _ _ _ wr.drew true rfl rfl hl0' hx0 hx1 HD.out).mono ?_); rintro e wq ⟨rfl, hdq⟩; have cq0 := (hdq.cell ⟨g, k, none⟩).trans c0d; have cq1 := (hdq.cell ⟨g, k - 1, none⟩).trans c1d) | fail))
        have hdr : Dr w wq := (hd.trans (Dr.refl _).drew).trans hdq
        have hownq := hdr.own hown0
        have HGR := Lib.hid (show w.grownBy wq (some g) from below_grown (below_dr (Below.refl _ _) hdr))
        have hkc : ¬ c = k := by omega
        have HTS := Lib.hid (show (rs.take k).Sublist (rs.take (k + 1)) by
          have e : rs.take k = (rs.take (k + 1)).take k := by rw [List.take_take, Nat.min_eq_left (Nat.le_succ k)]
          rw [e]; exact List.take_sublist _ _)
        have hsl : ∀ w, (Instr.slice 27 (.slice (some ⟨g, 0, none⟩) rs.length c) (some (.int .i64 (k : Int))) none none).run Try.prog w = .ok (.slice (some ⟨g, k, none⟩) (rs.length - k) (c - k)) w := fun w => by
          rw [run_cut (P := Try.prog) (t := 27) Try.underlying27 sizeL (some ⟨g, 0, none⟩) rs.length c k (k : Int) rfl (by omega) w]
          unfold cutA
          rw [if_neg hkc]
          simp [Addr.add, show k ≠ 0 by omega]
        clear c0 c1 c0d c1d cq0 cq1 hx0 hx1 hdq hdr
        go_wp2_with fail
        go_loopw [5, 7] (fun i i2 wq0 => ∃ (u : Nat) (kept : List Row) (V : List Value), 0 < u ∧ k + u ≤ rs.length ∧ i2 = .int .i64 u ∧ i = .int .i64 kept.length ∧ kept.length ≤ k + u - 1 ∧ Hid (kept.map Row.xs = compL ((rs.map Row.xs).take (k + u))) ∧ kept.Sublist (rs.take (k + u)) ∧
          wq0.ownsRow lo 24 1 (.slice (some ⟨g, 0, none⟩) rs.length c) rs.length V ∧ Hid (V.take kept.length = kept.map Row.v) ∧ Hid (∀ i, k + u - 1 ≤ i → V[i]? = (rs.map Row.v)[i]?) ∧ Hid (w.grownBy wq0 (some g))) (fun _ i2 _ => rs.length - k - (intOf i2).toNat)
        case atStart =>
          refine ⟨1, rs.take k, rs.map Row.v, by omega, by omega, rfl, by rw [List.length_take, Nat.min_eq_left hk], by rw [List.length_take]; omega, Lib.hid (by rw [HS.out, List.map_take]), HTS.out, hownq, Lib.hid (by rw [List.length_take, Nat.min_eq_left hk, List.map_take]), Lib.hid (fun _ _ => rfl), HGR⟩
        case round =>
          clear hownq
          obtain ⟨u, kept, V, hu0, hu, rfl, rfl, hkl, HKX, hsub, hV, HVT, HVR, HG⟩ := hrel
          obtain ⟨wo, rfl⟩ : ∃ wo : World, wo = wr := ⟨_, rfl⟩
          have hO3 : Own wo lo wo.heap.size rs [] := Own.kept HO.out (Nat.le_refl _) (by simp) (show w.grownBy wo (Value.slice (some ⟨g, 0, none⟩) rs.length c).ownBlock from HG.out)
          rcases Nat.lt_or_ge (k + u) rs.length with hul | hug
          · obtain ⟨q0, hq0⟩ : ∃ q : Row, q = rs[k + u] := ⟨_, rfl⟩
            obtain ⟨q1, hq1⟩ : ∃ q : Row, q = rs[k + (u - 1)]'(by omega) := ⟨_, rfl⟩
            have hq0m : q0 ∈ rs := by rw [hq0]; exact List.getElem_mem hul
            have hq1m : q1 ∈ rs := by rw [hq1]; exact List.getElem_mem _
            have c0 : wo.cell? ⟨g, k + u, none⟩ = some (Value.slice q0.A q0.xs.length q0.c) := by
              rw [hV.cellAt (k + u) (by omega), HVR.out (k + u) (by omega), List.getElem?_map, List.getElem?_eq_getElem hul, ← hq0]; rfl
            have c1 : wo.cell? ⟨g, k + (u - 1), none⟩ = some (Value.slice q1.A q1.xs.length q1.c) := by
              rw [hV.cellAt (k + (u - 1)) (by omega), HVR.out (k + (u - 1)) (by omega), List.getElem?_map, List.getElem?_eq_getElem (by omega), ← hq1]; rfl
            have c0d : wo.drew.cell? ⟨g, k + u, none⟩ = some (Value.slice q0.A q0.xs.length q0.c) := c0
            have c1d : wo.drew.cell? ⟨g, k + (u - 1), none⟩ = some (Value.slice q1.A q1.xs.length q1.c) := c1
            have i1 : IntKind.i64.wrap ((u : Int) - 1) = (u : Int) - 1 := IntWalk.i64_in _ (by omega)
            have i2 : ((u : Int) - 1).toNat = u - 1 := by omega
            have i3 : 0 ≤ (u : Int) - 1 := by omega
            have i4 : (u : Int) - 1 < ((rs.length - k : Nat) : Int) := by omega
            have i5 : (u : Int) < ((rs.length - k : Nat) : Int) := by omega
            have i6 : 0 ≤ (u : Int) := by omega
            have i7 : 1 ≤ (u : Int) := by omega
            have i8 : (u : Int) ≤ ((rs.length - k : Nat) : Int) := by omega
            have hy0 := ((hO3.read.rd q0 hq0m).dr (w' := wo.drew) (Dr.refl _).drew).more (B' := wo.drew.heap.size) (Nat.le_refl _)
            have hy1 := ((hO3.read.rd q1 hq1m).dr (w' := wo.drew) (Dr.refl _).drew).more (B' := wo.drew.heap.size) (Nat.le_refl _)
            have hm0 := HR8.out q0 hq0m
            have hm0' : q0.xs.length ≤ 4611686018427387904 := by omega
            have HT2 := Lib.hid (show compL ((rs.map Row.xs).take (k + u + 1)) = if q1.xs = q0.xs then compL ((rs.map Row.xs).take (k + u)) else compL ((rs.map Row.xs).take (k + u)) ++ [q0.xs] by
              have h1 := compL_take (rs.map Row.xs) (k + u) (by omega) (by simpa using hul)
              have h3 : (rs.map Row.xs)[k + u]'(by simpa using hul) = q0.xs := by rw [hq0]; simp
              have h4 : (rs.map Row.xs)[k + u - 1]'(by rw [List.length_map]; omega) = q1.xs := by rw [hq1]; simp only [List.getElem_map, show k + u - 1 = k + (u - 1) by omega]
              rw [h1, h3, h4])
            have HSL := Lib.hid (show kept.Sublist (rs.take (k + u + 1)) ∧ (kept ++ [q0]).Sublist (rs.take (k + u + 1)) by
              rw [List.take_succ_eq_append_getElem hul, ← hq0]
              exact ⟨hsub.trans (List.sublist_append_left _ _), hsub.append (List.Sublist.refl _)⟩)
            have hlen : ((rs.length - k : Nat) : Int) = (rs.length : Int) - (k : Int) := by omega
            have HLEN := Lib.hid hlen
            clear hlen hq0 hq1 hq0m hq1m hO3 hsub
            by_cases he : q0.xs = q1.xs
            · have HS2 := Lib.hid (show kept.map Row.xs = compL ((rs.map Row.xs).take (k + (u + 1))) by rw [show k + (u + 1) = k + u + 1 by omega, HT2.out, if_pos he.symm]; exact HKX.out)
              have HD := Lib.hid (decide_eq_true he)
              clear he
              go_wp2_with fail
              go_region_held3 (fun v => v.cell? ⟨g, k + u, none⟩ = some (Value.slice q0.A q0.xs.length q0.c) ∧ v.cell? ⟨g, k + (u - 1), none⟩ = some (Value.slice q1.A q1.xs.length q1.c)) (first | exact ⟨c0d, c1d⟩ | exact ⟨cq0, cq1⟩) ((first | (go_at_call 64; (with_reducible refine (equal_b _ _ _ _ _ _ _ _ wo.drew true rfl rfl hm0' hy0 hy1 HD.out).mono ?_); rintro e wq ⟨rfl, hdq⟩; have cq0 := (hdq.cell ⟨g, k + u, none⟩).trans c0d; have cq1 := (hdq.cell ⟨g, k + (u - 1), none⟩).trans c1d) | fail))
              have hdo := (Dr.refl wo).drew.trans hdq
              have hVq := hdo.own hV
              go_wp2_with fail
              go_roundw
              case rel => exact ⟨u + 1, kept, V, by omega, by omega, by go_num, rfl, by omega, HS2, HSL.out.1, hVq, HVT, Lib.hid (fun i hi => HVR.out i (by omega)), Lib.hid (grown_trans HG.out (below_grown (below_dr (Below.refl _ _) hdo)))⟩
              case measure => simp [intOf]; omega
            · have HS2 := Lib.hid (show (kept ++ [q0]).map Row.xs = compL ((rs.map Row.xs).take (k + (u + 1))) by
                rw [show k + (u + 1) = k + u + 1 by omega, HT2.out, if_neg (fun h => he h.symm), List.map_append, HKX.out]; rfl)
              have HD := Lib.hid (decide_eq_false he)
              clear he
              go_wp2_with fail
              go_region_held3 (fun v => v.cell? ⟨g, k + u, none⟩ = some (Value.slice q0.A q0.xs.length q0.c) ∧ v.cell? ⟨g, k + (u - 1), none⟩ = some (Value.slice q1.A q1.xs.length q1.c)) (first | exact ⟨c0d, c1d⟩ | exact ⟨cq0, cq1⟩) ((first | (go_at_call 64; (with_reducible refine (equal_b _ _ _ _ _ _ _ _ wo.drew false rfl rfl hm0' hy0 hy1 HD.out).mono ?_); rintro e wq ⟨rfl, hdq⟩; have cq0 := (hdq.cell ⟨g, k + u, none⟩).trans c0d; have cq1 := (hdq.cell ⟨g, k + (u - 1), none⟩).trans c1d) | fail))
              have hdo := (Dr.refl wo).drew.trans hdq
              have hVq := hdo.own hV
              have hVl := own_len hV
              have cz : wq.cell? ⟨g, kept.length, none⟩ = some (V[kept.length]'(by omega)) := by rw [hVq.cellAt kept.length (by omega)]; exact List.getElem?_eq_getElem (by omega)
              have fz : wq.frozen? ⟨g, kept.length, none⟩ = false := hVq.frozenAt kept.length
              have hVs := own_set_at hVq (show kept.length < rs.length by omega) (Value.slice q0.A q0.xs.length q0.c)
              have HVT2 := Lib.hid (show (V.set kept.length (Value.slice q0.A q0.xs.length q0.c)).take (kept ++ [q0]).length = (kept ++ [q0]).map Row.v by
                rw [List.length_append, List.length_singleton, List.take_succ_eq_append_getElem (by rw [List.length_set]; omega), List.take_set_of_le (Nat.le_refl _), HVT.out, List.getElem_set_self, List.map_append]; rfl)
              have HVR2 := Lib.hid (show ∀ i, k + (u + 1) - 1 ≤ i → (V.set kept.length (Value.slice q0.A q0.xs.length q0.c))[i]? = (rs.map Row.v)[i]? from fun i hi => by
                rw [List.getElem?_set_ne (by omega)]; exact HVR.out i (by omega))
              have HG2 := Lib.hid (show w.grownBy (wq.setCell ⟨g, kept.length, none⟩ (Value.slice q0.A q0.xs.length q0.c)) (some g) from grown_trans (grown_trans HG.out (below_grown (below_dr (Below.refl _ _) hdo))) (grown_set _ _ _ _))
              have j1 : (kept.length : Int) < (rs.length : Int) := by omega
              have HVS := Lib.hid hVs
              clear hVs hVq hdq cz fz
              have cz : wq.cell? ⟨g, kept.length, none⟩ = some (V[kept.length]'(by omega)) := by rw [(hdo.own hV).cellAt kept.length (by omega)]; exact List.getElem?_eq_getElem (by omega)
              have fz : wq.frozen? ⟨g, kept.length, none⟩ = false := (hdo.own hV).frozenAt kept.length
              clear hdo
              go_wp2_with fail
              go_roundw
              case rel => exact ⟨u + 1, kept ++ [q0], _, by omega, by omega, by go_num, by rw [List.length_append]; go_num, by rw [List.length_append, List.length_singleton]; omega, HS2, HSL.out.2, HVS.out, HVT2, HVR2, HG2⟩
              case measure => simp [intOf]; omega
          · obtain rfl : u = rs.length - k := by omega
            have hkn : k + (rs.length - k) = rs.length := by omega
            have HKF := Lib.hid (show kept.map Row.xs = compL (rs.map Row.xs) by
              have h1 := HKX.out
              rw [hkn, List.take_of_length_le (by simp)] at h1; exact h1)
            have hsubr : kept.Sublist rs := hsub.trans (List.take_sublist _ _)
            have hkl2 : kept.length < rs.length := by omega
            have hVl := own_len hV
            have hkc2 : ¬ c = kept.length := by omega
            have hsl3 : ∀ w, (Instr.slice 27 (.slice (some ⟨g, 0, none⟩) rs.length c) (some (.int .i64 (kept.length : Int))) none none).run Try.prog w = .ok (.slice (some ⟨g, kept.length, none⟩) (rs.length - kept.length) (c - kept.length)) w := fun w => by
              rw [run_cut (P := Try.prog) (t := 27) Try.underlying27 sizeL (some ⟨g, 0, none⟩) rs.length c kept.length (kept.length : Int) rfl (by omega) w]
              unfold cutA
              rw [if_neg hkc2]
              by_cases h0 : kept.length = 0 <;> simp [Addr.add, h0]
            have hcl : ∀ ty, (Builtin.clear_ #[27] ty #[.slice (some ⟨g, kept.length, none⟩) (rs.length - kept.length) (c - kept.length)]).run Try.prog wo = .ok (.tuple #[]) (wo.setCells g kept.length (List.replicate (rs.length - kept.length) (.slice none 0 0))) :=
              fun ty => Lib.run_clear_slice wo _ _ ty _ Try.underlying27 zeroL rfl rfl g kept.length _ _ (by omega) (fun j hj => by rw [hV.cellAt (kept.length + j) (by omega), List.getElem?_eq_getElem (by omega)]; rfl) (fun j _ => hV.frozenAt _)
            have hfin := own_sets (List.replicate (rs.length - kept.length) (Value.slice none 0 0)) kept.length wo (own_take hV (Nat.le_of_lt hkl2)) (Nat.le_refl _)
            rw [HVT.out] at hfin
            have hgw := grown_trans HG.out hfin.2
            have hOw := ((Own.kept HO.out (Nat.le_refl _) (by simp) (show w.grownBy _ (Value.slice (some ⟨g, 0, none⟩) rs.length c).ownBlock from hgw)).sub hsubr).with_ (A := some ⟨g, 0, none⟩) (c := c) (vs := kept.map Row.v) (by rw [List.length_map]; exact hfin.1) (Nat.le_refl _)
            have K := Lib.hid (And.intro hOw hgw)
            have hkcc : kept.length ≤ c := by omega
            clear hOw hgw hfin hsub hsubr hO3 hV
            go_wp2_with fail
            go_ret
            exact ⟨some ⟨g, 0, none⟩, c, kept, rfl, HKF.out, K.out.1, K.out.2⟩
      · have HS := Lib.hid (show compL ((rs.map Row.xs).take (k + 1)) = (rs.map Row.xs).take (k + 1) by
          rw [HT.out, HXk.out, HXk1.out, if_neg (fun h => he h.symm), HC.out, List.take_succ_eq_append_getElem (by simpa using hlt), HXk.out])
        have HD := Lib.hid (decide_eq_false he)
        clear he
        go_wp2_with fail
        go_region_held3 (fun v => v.cell? ⟨g, k, none⟩ = some ((Value.slice rs[k].A rs[k].xs.length rs[k].c)) ∧ v.cell? ⟨g, k - 1, none⟩ = some ((Value.slice (rs[k - 1]'(by omega)).A (rs[k - 1]'(by omega)).xs.length (rs[k - 1]'(by omega)).c))) (first | exact ⟨c0d, c1d⟩ | exact ⟨cq0, cq1⟩) ((first | (go_at_call 64; (with_reducible refine (equal_b _ _ _ _ _ _ _ _ wr.drew false rfl rfl hl0' hx0 hx1 HD.out).mono ?_); rintro e wq ⟨rfl, hdq⟩; have cq0 := (hdq.cell ⟨g, k, none⟩).trans c0d; have cq1 := (hdq.cell ⟨g, k - 1, none⟩).trans c1d) | fail))
        go_wp2_with fail
        go_roundw
        case rel => exact ⟨k + 1, by omega, by omega, by go_num, HS, (hd.trans (Dr.refl _).drew).trans hdq⟩
        case measure => simp [intOf]; omega
    · obtain rfl : k = rs.length := by omega
      have HE := Lib.hid (show compL (rs.map Row.xs) = rs.map Row.xs by have := HC.out; rwa [List.take_of_length_le (by simp)] at this)
      go_wp2_with fail
      go_ret
      exact ⟨_, c, rs, rfl, HE.out.symm, (HO.out.dr hd).wider (Nat.le_refl _) (by omega), below_grown (below_dr (Below.refl _ _) hd)⟩
end Go.Proofs.Ytfcgohhmpgffjaa

/- Contracts of without and ParentOf. -/
namespace Go.Proofs.Ytfcgohhmpgffjaa
set_option maxRecDepth 100000
open Go Go.RowKit

open Go.Lib Go.Sort in
theorem delete_own (g n c i base : Nat) (xs : List Int) (w : World) (h : w.ownsRow base 3 1 (.slice (some ⟨g, 0, none⟩) n c) n (xs.map (Value.int .i64))) (hi : i < n) :
    Calls Try.prog 65 #[.slice (some ⟨g, 0, none⟩) n c, .int .i64 i, .int .i64 ((i : Int) + 1)] w fun e w' => e = .returned (.slice (some ⟨g, 0, none⟩) (n - 1) c) ∧
      w'.ownsRow base 3 1 (.slice (some ⟨g, 0, none⟩) (n - 1) c) (n - 1) ((cutAt xs i).map (Value.int .i64)) ∧ ∀ B w0, Below B w0 w → B ≤ g → Below B w0 w' := by
  obtain ⟨g', cap, he, _, _, hc1, hc2, hl, hH⟩ := holds_of_ownsRow h (by simp)
  simp only [Value.slice.injEq, Option.some.injEq, Addr.mk.injEq, and_true, true_and] at he
  obtain ⟨rfl, rfl⟩ := he
  subst hl
  have hcc : c ≤ 9223372036854775807 := by unfold maxLen at hc2; omega
  have hD := Try.slices_Delete_int g 0 c i (i + 1) xs w hH hc1 hcc (by omega) (by omega)
  rw [show i + 1 - i = 1 by omega, show ((i + 1 : Nat) : Int) = (i : Int) + 1 from rfl] at hD
  refine hD.mono ?_
  rintro e w' ⟨rfl, q, rfl⟩
  have hlen : (xs.take i ++ xs.drop (i + 1) ++ List.replicate 1 0).length = xs.length := by
    rw [List.length_append, List.length_append, List.length_take, List.length_drop, List.length_replicate]; omega
  refine ⟨rfl, ?_, fun B w0 hb hB => below_putRow hb hB⟩
  have := ownsRow_putRow (q := q) (k := xs.length - 1) h hlen (by omega)
  have he : (xs.take i ++ xs.drop (i + 1) ++ List.replicate 1 0).take (xs.length - 1) = cutAt xs i := by
    rw [List.take_append_of_le_length (by rw [List.length_append, List.length_take, List.length_drop]; omega), List.take_of_length_le (by rw [List.length_append, List.length_take, List.length_drop]; omega)]
    rfl
  rw [he] at this
  exact this

set_option maxHeartbeats 400000 in
theorem without_impl (A : Option Addr) (c i : Nat) (xs : List Int) (w : World) (h : In w A c xs) (hi : i < xs.length) :
    Calls Try.prog 41 #[.slice A xs.length c, .int .i64 i] w (Ret (Value.int .i64) 3 w (patL (cutAt xs i))) := by
  have hl := h.len
  go_enter Try.func41, Try.ntmps41
  go_wp2_with fail
  (with_reducible refine (clone_any _ _ _ _ h).mono ?_)
  rintro e w1 ⟨T, t, rfl, _, _, o1, b1⟩
  obtain ⟨g, cap, hv, hg, _⟩ := o1.form (by omega)
  have hT : T = some ⟨g, 0, none⟩ := by injection hv
  subst hT
  clear hv
  go_wp2_with fail
  (with_reducible refine (delete_own g xs.length t i w.heap.size xs _ o1 hi).mono ?_)
  rintro e w2 ⟨rfl, o2, hB⟩
  have b2 := hB _ _ b1 hg
  have hlen := cutAt_length xs i hi
  have r2 : Rd (Value.int .i64) w2 w2.heap.size (some ⟨g, 0, none⟩) (cutAt xs i) := Rd.of_own (by rw [hlen]; exact o2)
  have hk : xs.length - 1 ≤ 1048576 := by omega
  clear hB
  go_wp2_with fail
  (with_reducible refine (pattern_impl _ _ _ (cutAt xs i) _ hlen hk r2).mono ?_)
  rintro e w3 ⟨T3, t3, rfl, k1, k2, o3, b3⟩
  go_wp2_with fail
  go_ret
  exact ⟨T3, t3, rfl, k1, k2, own_mono o3 b2.size, b2.trans (b3.mono b2.size)⟩

def parentL (xs : List Int) : List Int := xs.filter fun y => decide (y < (xs.length : Int))
def parentG (xs : List Int) : List Int := if permB xs = true ∧ xs.length ≠ 0 then parentL xs else []
def parentB (xs : List Int) : Bool := permB xs && decide (xs.length ≠ 0)
theorem parentG_length (xs : List Int) : (parentG xs).length ≤ 8 := by
  unfold parentG
  split
  · rename_i h
    have := (permB_true h.1).1
    exact Nat.le_trans (List.length_filter_le _ _) this
  · simp


end Go.Proofs.Ytfcgohhmpgffjaa

/- slices.SortFunc of a list of rows; ordered. -/
namespace Go.Proofs.Ytfcgohhmpgffjaa
set_option maxRecDepth 100000
open Go Go.RowKit

theorem before_ntrans {x y z : List Int} (h1 : before x y = false) (h2 : before y z = false) : before x z = false := by
  cases h : before x z with
  | false => rfl
  | true =>
    cases h3 : before y x with
    | true => rw [before_trans h3 h] at h2; cases h2
    | false =>
      have e := before_total h1 h3
      subst e
      rw [h] at h2; cases h2
theorem permIn_list {α : Type} [Inhabited α] {d d' : Array α} (h : Sort.PermIn 0 d.size d d') : d'.toList.Perm d.toList := by
  have h1 := h.2.2
  have e1 : d'.extract 0 d.size = d' := by rw [← h.1]; exact Array.extract_size
  have e2 : d.extract 0 d.size = d := Array.extract_size
  rw [e1, e2] at h1
  exact h1
theorem sortedIn_list {α : Type} [Inhabited α] {lt : α → α → Bool} {d : Array α} {n : Nat} (hn : d.size = n) (h : Sort.SortedIn lt 0 n d) : d.toList.Pairwise fun x y => lt y x = false := by
  rw [List.pairwise_iff_getElem]
  intro i j hi hj hij
  rw [Array.length_toList] at hi hj
  have := h i j (Nat.zero_le _) hij (by omega)
  rw [getElem!_pos d j hj, getElem!_pos d i hi] at this
  simpa using this
/-- The row's cells in a world that the sort passes through. -/
theorem rd_sortWorld {α : Type} [Inhabited α] {enc : α → Value} {w : World} {blk m : Nat} {dk : Array α} {os : Array Obj} {A : Option Addr} {xs : List Int} (h : Rd (Value.int .i64) w w.heap.size A xs) (hne : ∀ b off, A = some ⟨b, off, none⟩ → 0 < xs.length → b ≠ blk) :
    Rd (Value.int .i64) (sortWorld enc w blk 0 m dk os) (sortWorld enc w blk 0 m dk os).heap.size A xs := fun h0 => by
  obtain ⟨b, off, rfl, hb, hc⟩ := h h0
  have hn := hne b off rfl h0
  have hs : (Sort.putRow enc (Sort.ahead w m) blk 0 dk).heap.size = w.heap.size := by simp [Sort.putRow, Sort.mapBlock, Sort.ahead]
  refine ⟨b, off, rfl, ?_, fun j hj => ?_⟩
  · show b < (Sort.grow (Sort.putRow enc (Sort.ahead w m) blk 0 dk) os).heap.size
    simp only [Sort.grow, Array.size_append, hs]
    omega
  · have h1 : (Sort.putRow enc (Sort.ahead w m) blk 0 dk).cell? ⟨b, off + j, none⟩ = some (.int .i64 xs[j]) :=
      (Sort.cell?_putRow_other enc (Sort.ahead w m) blk 0 dk ⟨b, off + j, none⟩ (Or.inl hn)).trans (hc j hj)
    exact cell_grown (show b < _ by rw [hs]; exact hb) h1 0 os
theorem sort_none (p : Option Addr) (c : Nat) (fv : Value) (w : World) : Calls Try.prog 61 #[.slice p 0 c, fv] w fun e w' => e = .returned (.tuple #[]) ∧ w' = w :=
  AnyF.slices_SortFunc_none { Try.sortF with } p c fv w
theorem grow_below (W : World) (os : Array Obj) : Below W.heap.size W (Sort.grow W os) := ⟨rfl, rfl, rfl, by simp [Sort.grow], fun k hk => by simp [Sort.grow, Array.getElem?_append, hk]⟩
theorem putRow_grown {α : Type} [Inhabited α] (enc : α → Value) (w : World) (q g : Nat) (d : Array α) : w.grownBy (Sort.putRow enc (Sort.ahead w q) g 0 d) (some g) :=
  ⟨rfl, rfl, rfl, by simp [Sort.putRow, Sort.mapBlock, Sort.ahead], fun k _ hne => by
    have hk : g ≠ k := fun e => hne (by rw [e])
    simp [Sort.putRow, Sort.mapBlock, Sort.ahead, Array.getElem?_modify, hk]⟩
set_option maxHeartbeats 1000000 in
theorem sort_any (A : Option Addr) (c lo : Nat) (rs : List Row) (w : World) (F : Nat) (cf : List Int → List Int → Int) (hO : Own w lo w.heap.size rs [⟨A, c, rs.map Row.v⟩]) (hn : rs.length ≤ 1048576)
    (hF : ∀ args w, (callFunc F args).run Try.prog w = .ok (.enter F args) w)
    (hcf : ∀ x ∈ rs, ∀ y ∈ rs, decide (cf x.xs y.xs < 0) = before x.xs y.xs)
    (hcmp : ∀ (W : World) (x y : Row), x ∈ rs → y ∈ rs → Rd (Value.int .i64) W W.heap.size x.A x.xs → Rd (Value.int .i64) W W.heap.size y.A y.xs → Calls Try.prog F #[x.v, y.v] W fun e w' => e = .returned (.int .i64 (cf x.xs y.xs)) ∧ ∃ q os', w' = Sort.grow (W.drewN q) os') :
    Calls Try.prog 61 #[.slice A rs.length c, .func (.func F) #[] #[]] w fun e w' => e = .returned (.tuple #[]) ∧ ∃ rs' : List Row, rs'.Perm rs ∧ (rs'.map Row.xs).Pairwise (fun x y => before y x = false) ∧ Own w' lo w'.heap.size rs' [⟨A, c, rs'.map Row.v⟩] ∧ w.grownBy w' (Value.slice A 0 0).ownBlock := by
  rcases Nat.eq_zero_or_pos rs.length with h0 | h0
  · have hr : rs = [] := List.eq_nil_of_length_eq_zero h0
    subst hr
    refine (sort_none A c _ w).mono ?_
    rintro e w' ⟨rfl, rfl⟩
    exact ⟨rfl, [], List.Perm.refl _, List.Pairwise.nil, hO, World.grownBy.refl _ _⟩
  obtain ⟨g, hgA, hglo, hglt⟩ : ∃ g, A = some ⟨g, 0, none⟩ ∧ lo ≤ g ∧ g < w.heap.size := by
    obtain ⟨g, cap, hv, h1, h3⟩ := hO.out.form (by rw [List.length_map]; omega)
    injection hv with hv _ _
    exact ⟨g, hv, h1, h3⟩
  subst hgA
  let α := {r : Row // r ∈ rs}
  haveI : Inhabited α := ⟨⟨rs[0], List.getElem_mem h0⟩⟩
  let enc : α → Value := fun r => r.1.v
  have hz : (rs.attach : List α).map enc = rs.map Row.v := by
    show rs.attach.map (fun r => Row.v r.1) = _
    rw [show (fun r : {r : Row // r ∈ rs} => Row.v r.1) = Row.v ∘ Subtype.val from rfl, ← List.map_map, List.attach_map_subtype_val]
  have hown : w.ownsRow lo 24 1 (.slice (some ⟨g, 0, none⟩) rs.length c) rs.length ((rs.attach : List α).map enc) := by
    rw [hz]; exact hO.outN (by simp)
  obtain ⟨g', cap', hv', _, _, _, _, _, hH⟩ := Lib.holds_of_ownsRow hown (by simp)
  injection hv' with hv1 _ _
  injection hv1 with hv1
  injection hv1 with hv1 _ _
  subst hv1
  let cfa : α → α → Int := fun a b => cf a.1.xs b.1.xs
  have hlt : ∀ a b : α, ltOf cfa a b = before a.1.xs b.1.xs := fun a b => hcf a.1 a.2 b.1 b.2
  have hS : Sort.SWO (ltOf cfa) := ⟨fun x => by rw [hlt]; exact before_irrefl _, fun x y z h1 h2 => by rw [hlt] at *; exact before_trans h1 h2, fun x y z h1 h2 => by rw [hlt] at *; exact before_ntrans h1 h2⟩
  have hrd : ∀ (r : Row), r ∈ rs → ∀ (m : Nat) (os : Array Obj) (dk : Array α), Rd (Value.int .i64) (sortWorld enc w g 0 m dk os) (sortWorld enc w g 0 m dk os).heap.size r.A r.xs := fun r hr m os dk =>
    rd_sortWorld (hO.read.rd r hr) (fun b off he _ hbg => by
      subst hbg
      exact own_ne hO hr (List.mem_singleton.2 rfl) b (by show (Value.slice r.A _ _).ownBlock = _; rw [he]; rfl) rfl)
  have hC : CmpLays1 Try.prog F #[] enc cfa g 0 (rs.attach : List α).toArray.size w := fun m os dk _ x y =>
    hcmp (sortWorld enc w g 0 m dk os) x.1 y.1 x.2 y.2 (hrd x.1 x.2 m os dk) (hrd y.1 y.2 m os dk)
  have hsz : (rs.attach : List α).toArray.size = rs.length := by simp
  have h := Any.slices_SortFunc Try.sortF enc (fun _ => rfl) cfa hS F #[] g 0 c (rs.attach : List α).toArray w hF hC hH hglt (by rw [hsz]; omega)
  rw [hsz] at h
  refine Calls.mono h ?_
  rintro e w' ⟨rfl, d', n, os, hp, hs, rfl⟩
  have hd' : d'.size = rs.length := by
    have := hp.1
    rw [← hsz]; exact this
  have hp' : Sort.PermIn 0 (rs.attach : List α).toArray.size (rs.attach : List α).toArray d' := by rw [hsz]; exact hp
  have hpl := permIn_list hp'
  have hperm : (d'.toList.map Subtype.val).Perm rs := by
    have h1 := hpl.map Subtype.val
    have e : ((rs.attach : List α).toArray.toList).map Subtype.val = rs := by simp
    rwa [e] at h1
  have hsl := sortedIn_list hd' hs
  refine ⟨rfl, d'.toList.map Subtype.val, hperm, ?_, ?_, ?_⟩
  · rw [List.map_map, List.pairwise_map]
    exact hsl.imp fun {a b} hab => by rw [hlt] at hab; exact hab
  · have hg1 := putRow_grown enc w n g d'
    have hbg : Below (Sort.putRow enc (Sort.ahead w n) g 0 d').heap.size (Sort.putRow enc (Sort.ahead w n) g 0 d') (sortWorld enc w g 0 n d' os) := grow_below _ os
    have hrows := (Own.kept hO (Nat.le_refl _) (show (rs.map Row.v).length = rs.length by simp) (show w.grownBy _ (Value.slice (some ⟨g, 0, none⟩) rs.length c).ownBlock from hg1)).below hbg
    have hout := Lib.ownsRow_putRow (q := n) (k := rs.length) (ys := d'.toList) hown (by simpa using hd') (Nat.le_refl _)
    rw [List.take_of_length_le (by simp [hd'])] at hout
    have hout2 := own_below hout hbg
    have he : d'.toList.map enc = (d'.toList.map Subtype.val).map Row.v := by rw [List.map_map]; rfl
    refine ((hrows.perm hperm.symm).wider (Nat.le_refl _) hbg.size).with_ (A := some ⟨g, 0, none⟩) (c := c) ?_ (Nat.le_refl _)
    rw [← he, List.length_map, Array.length_toList, hd']
    exact hout2
  · exact grown_trans (putRow_grown enc w n g d') (below_grown (grow_below _ os))
theorem grow_alloc (w : World) (o : Obj) : w.alloc o = Sort.grow (w.drewN 0) #[o] := by
  show ({ w with heap := w.heap.push o } : World) = { w with heap := w.heap ++ #[o] }
  rw [Array.push_eq_append]
set_option maxHeartbeats 800000 in
theorem comparePerms_x (A A' : Option Addr) (c c' : Nat) (p q : List Int) (w : World) (hl : p.length ≤ 1048576) (hl' : q.length ≤ 1048576)
    (hx : Rd (Value.int .i64) w w.heap.size A p) (hy : Rd (Value.int .i64) w w.heap.size A' q) :
    Calls Try.prog 62 #[.slice A p.length c, .slice A' q.length c'] w fun e w' => e = .returned (.int .i64 (cmpP p q)) ∧ ∃ q os', w' = Sort.grow (w.drewN q) os' := by
  have HO := Lib.hid (cmpP_or p q)
  have HG := Lib.hid (grow_alloc w (Obj.cells #[.int .i64 (cmpI p.length q.length), .int .i64 (cmpL p q)] 3))
  have hnew : Rd (Value.int .i64) (w.alloc (Obj.cells #[.int .i64 (cmpI p.length q.length), .int .i64 (cmpL p q)] 3)) (w.alloc (Obj.cells #[.int .i64 (cmpI p.length q.length), .int .i64 (cmpL p q)] 3)).heap.size (some ⟨w.heap.size, 0, none⟩) [cmpI p.length q.length, cmpL p q] :=
    Rd.of_own (c := 2) (World.ownsRow_lit (base := w.heap.size) w #[.int .i64 (cmpI p.length q.length), .int .i64 (cmpL p q)] 2 (Nat.le_refl _) (by unfold maxLen; omega) rfl)
  go_enter Try.func62, Try.ntmps62
  go_wp2_with fail
  (with_reducible refine (compare_any (p.length : Int) (q.length : Int) w).mono ?_)
  rintro e w' ⟨rfl, rfl⟩
  go_wp2_with fail
  (with_reducible refine (compareS_any A A' c c' p.length q.length p q w rfl rfl (by omega) (by omega) hx hy).mono ?_)
  rintro e w' ⟨rfl, rfl⟩
  go_wp2_with fail
  (with_reducible refine (or_any (some ⟨w.heap.size, 0, none⟩) 2 2 [cmpI p.length q.length, cmpL p q] _ rfl (by omega) hnew).mono ?_)
  rintro e w' ⟨rfl, rfl⟩
  go_wp2_with fail
  go_ret
  exact ⟨ret_int HO.out, 0, _, HG.out⟩
theorem call_cmpP (args : Array Value) (w : World) : (callFunc 62 args).run Try.prog w = .ok (.enter 62 args) w := by kernel_rfl
set_option maxHeartbeats 2000000 in
theorem ordered_impl (A : Option Addr) (c : Nat) (rs : List Row) (w : World) (h : InL w A c rs) :
    Calls Try.prog 39 #[.slice A rs.length c] w (RetL w (ordL (rs.map Row.xs))) := by
  obtain ⟨j0, hj, hy0, hy1, hy2⟩ := info_parts infoL
  have hlen := h.len
  have hlit := Own.lit (lo := w.heap.size) w (Nat.le_refl _)
  have hb0 := (Below.refl w.heap.size w).alloc (Nat.le_refl _) (.cells #[] 24)
  go_enter Try.func39, Try.ntmps39
  go_wp2_with fail
  go_loopw [3, 9] (fun v i wr => ∃ (k : Nat) (A1 : Option Addr) (c1 : Nat) (ds : List Row), k ≤ rs.length ∧ i = .int .i64 k ∧ v = .slice A1 ds.length c1 ∧ Hid (ds.map Row.xs = (rs.map Row.xs).take k) ∧ Own wr w.heap.size wr.heap.size ds [⟨A1, c1, ds.map Row.v⟩] ∧ Below w.heap.size w wr) (fun _ i _ => rs.length - (intOf i).toNat)
  case atStart => exact ⟨0, _, _, [], Nat.zero_le _, rfl, rfl, Lib.hid rfl, hlit, hb0⟩
  case round =>
    clear hlit hb0
    obtain ⟨k, A1, c1, ds, hk, rfl, rfl, HX, hO, hb⟩ := hrel
    have hdl : ds.length = k := by have := congrArg List.length HX.out; simp at this; omega
    have hsz := hb.size
    rcases Nat.lt_or_ge k rs.length with hlt | hge
    · obtain ⟨b, off, rfl, _, hc⟩ := (h.next hb).read.at (by omega)
      have c1' := hc k hlt
      have hin := (h.next hb).row (List.getElem_mem hlt)
      have hrl := hin.len
      have HD := Lib.hid hdl
      have hkd : ds.length ≤ 1048576 := by omega
      have HT := Lib.hid (show (rs.map Row.xs).take (k + 1) = (rs.map Row.xs).take k ++ [rs[k].xs] by rw [List.take_succ_eq_append_getElem (by simpa using hlt)]; simp)
      clear hc hdl
      go_wp2_with fail
      (with_reducible refine (clone_any rs[k].A rs[k].c rs[k].xs wr hin).mono ?_)
      rintro e w1 ⟨A3, c3, rfl, _, _, own3, hbB⟩
      have hszB := hbB.size
      have hO2 := (hO.below hbB).add (r := ⟨A3, c3, rs[k].xs⟩) own3 hszB hsz
      have ho2 := hO2.outN (n := ds.length) (by simp)
      clear own3 hO
      go_wp2_with (at_builtin; refine wpList_append_own _ rfl _ _ 27 rfl (w.heap.size) 24 j0 (.slice none 0 0) 1 24 Try.underlying27 hj hy0 hy1 hy2 rfl (by decide) _ _ _ rfl (World.ownsRow.alloc ho2 _) ⟨w1.heap.size, 0, none⟩ 1 1 [Value.slice A3 rs[k].xs.length c3] rfl rfl (cell_one_at _ _ (by simp)) (by intro u hu; simp at hu; subst hu; rfl) (by unfold maxLen; omega) (by omega) (by simp; omega) ?_; intro v9 w9 hown9 hgrow9 _)
      obtain ⟨A5, c5, rfl, hO3, hg3⟩ := hO2.grow (Nat.le_refl _) (by simp) hown9 hgrow9
      have hbw := (hb.trans (hbB.mono hsz)).grown hg3 (by omega) (fun g hg => (hO2.olim (by simp) g hg).1)
      have K := Lib.hid (And.intro hO3 hbw)
      clear hO3 hbw hown9 hgrow9 hg3 hO2 ho2 hbB hb
      go_wp2_with fail
      go_roundw
      case rel => exact ⟨k + 1, A5, c5, ds ++ [⟨A3, c3, rs[k].xs⟩], by omega, by go_num, by rw [List.length_append]; rfl, Lib.hid (by rw [HT.out, List.map_append, HX.out]; rfl), by simpa [Row.v] using K.out.1, K.out.2⟩
      case measure => simp [intOf]; omega
    · obtain rfl : k = rs.length := by omega
      have HT := Lib.hid (show ds.map Row.xs = rs.map Row.xs by rw [HX.out]; exact List.take_of_length_le (by simp))
      have hr8 : ∀ r ∈ ds, r.xs.length ≤ 1048576 := fun r hr => by
        have h1 := map_memX HT.out hr
        obtain ⟨q, hq, he⟩ := List.mem_map.1 h1
        have h2 := sizeR_mem hq
        rw [← he]; omega
      have hS := sort_any A1 c1 w.heap.size ds wr 62 cmpP (hO.wider (Nat.le_refl _) (Nat.le_refl _)) (by omega) (fun args w => call_cmpP args w) (fun x _ y _ => (before_cmp x.xs y.xs).symm) (fun W x y hx hy h1 h2 => comparePerms_x x.A y.A x.c y.c x.xs y.xs W (hr8 x hx) (hr8 y hy) h1 h2)
      have HS := Lib.hid hS
      have hdl2 : ds.length ≤ 1048576 := by omega
      have HR8 := Lib.hid hr8
      have hA1 := hO.olim (n := ds.length) (by simp)
      clear hS hr8 hO hdl HX
      go_wp2_with fail
      (with_reducible refine HS.out.mono ?_)
      rintro e w1 ⟨rfl, ss, hperm, hsorted, hO1, hg1⟩
      have hsl : ss.length = ds.length := hperm.length_eq
      have HE := Lib.hid (show compL (ss.map Row.xs) = ordL (rs.map Row.xs) from comp_ord hsorted (fun q => by rw [← HT.out, List.mem_map, List.mem_map]; constructor <;> rintro ⟨r, hr, he⟩; exact ⟨r, hperm.mem_iff.1 hr, he⟩; exact ⟨r, hperm.mem_iff.2 hr, he⟩))
      have hC := compact_any A1 c1 w.heap.size ss w1 hO1 (by omega) (fun r hr => HR8.out r (hperm.mem_iff.1 hr))
      rw [hsl] at hC
      have HC := Lib.hid hC
      have hb1 := hb.grown hg1 hsz (fun g hg => (hA1 g (by rw [← hg]; exact ownBlock_len _ _ _ _ _)).1)
      have HG1 := Lib.hid hA1
      have hs1 := hb1.size
      clear hC hperm hsorted hO1 hg1 hsl hA1 HS
      go_wp2_with fail
      (with_reducible refine HC.out.mono ?_)
      rintro e w2 ⟨A4, c4, qs, rfl, hX4, hO4, hg4⟩
      have hb2 := hb1.grown hg4 hs1 (fun g hg => (HG1.out g (by rw [← hg]; exact ownBlock_len _ _ _ _ _)).1)
      go_wp2_with fail
      go_ret
      exact ⟨A4, c4, qs, rfl, by rw [hX4, HE.out], hO4, hb2⟩
end Go.Proofs.Ytfcgohhmpgffjaa

/- OrderPerms of the reference; MakeBasis, program and reference. -/
namespace Go.Proofs.Ytfcgohhmpgffjaa
set_option maxRecDepth 100000
open Go Go.RowKit

/-- A call's result of two: a list of rows of its own, and a truth value. -/
def RetLb (w : World) (X : List (List Int)) (b : Bool) (e : Ending) (w' : World) : Prop :=
  ∃ A c rs, e = .returned (.tuple #[.slice A rs.length c, .bool b]) ∧ rs.map Row.xs = X ∧ Own w' w.heap.size w'.heap.size rs [⟨A, c, rs.map Row.v⟩] ∧ Below w.heap.size w w'
/-- The lists in which none that was kept before occurs. -/
def sieve (L : List (List Int)) : List (List Int) := L.foldl (fun acc p => if avoidB acc p = true then acc ++ [p] else acc) []
theorem sieve_take (L : List (List Int)) (k : Nat) (h : k < L.length) : sieve (L.take (k + 1)) = if avoidB (sieve (L.take k)) L[k] = true then sieve (L.take k) ++ [L[k]] else sieve (L.take k) := by
  unfold sieve
  rw [List.take_succ_eq_append_getElem h, List.foldl_append]
  rfl
theorem sieve_fold (L acc : List (List Int)) : ∃ u, L.foldl (fun acc p => if avoidB acc p = true then acc ++ [p] else acc) acc = acc ++ u := by
  induction L generalizing acc with
  | nil => exact ⟨[], by simp⟩
  | cons a t ih =>
    rw [List.foldl_cons]
    by_cases h : avoidB acc a = true
    · rw [if_pos h]
      obtain ⟨u, hu⟩ := ih (acc ++ [a])
      exact ⟨a :: u, by rw [hu]; simp⟩
    · rw [if_neg h]
      exact ih acc
theorem sieve_sub (L : List (List Int)) : ∀ q ∈ sieve L, q ∈ L := by
  have : ∀ (L acc : List (List Int)), ∀ q ∈ L.foldl (fun acc p => if avoidB acc p = true then acc ++ [p] else acc) acc, q ∈ acc ∨ q ∈ L := by
    intro L
    induction L with
    | nil => intro acc q hq; exact .inl hq
    | cons a t ih =>
      intro acc q hq
      rw [List.foldl_cons] at hq
      rcases ih _ q hq with h | h
      · split at h
        · rcases List.mem_append.1 h with h | h
          · exact .inl h
          · rw [List.mem_singleton.1 h]; exact .inr (by simp)
        · exact .inl h
      · exact .inr (by simp [h])
  intro q hq
  rcases this L [] q hq with h | h
  · simp at h
  · exact h
def mkB (X : List (List Int)) : Bool := allPermB X && basisB (sieve (ordL X))
def mkG (X : List (List Int)) : List (List Int) := if mkB X = true then sieve (ordL X) else []
theorem mk_empty {X : List (List Int)} (h : [] ∈ X) : basisB (sieve (ordL X)) = false := by
  have h1 := (ordL_mem X []).2 h
  have hs := ordL_srt X
  match hO : ordL X with
  | [] => rw [hO] at h1; simp at h1
  | a :: t =>
    rw [hO] at h1 hs
    have ha : a = [] := by
      rcases List.mem_cons.1 h1 with e | h1
      · exact e.symm
      · have := (List.pairwise_cons.1 hs).1 _ h1
        unfold before at this
        split at this
        · rename_i hl
          exact List.eq_nil_of_length_eq_zero hl
        · simp at this
    subst ha
    obtain ⟨u, hu⟩ := sieve_fold t [[]]
    have e : sieve ([] :: t) = [[]] ++ u := hu
    rw [e]
    unfold basisB
    rw [Bool.and_eq_false_iff]
    right
    exact basTo_false (k := 0) (by simp) rfl
theorem mkB_basis {X : List (List Int)} (h : mkB X = true) : basisB (mkG X) = true := by
  unfold mkG; rw [if_pos h]
  unfold mkB at h; rw [Bool.and_eq_true] at h; exact h.2
theorem basis_size {X : List (List Int)} (h : basisB X = true) : X.length + sizeX X ≤ 1048576 := by
  have h1 := basis_len h
  have h2 : sizeX X ≤ X.length * 8 := by
    have hp := basis_perm h
    clear h h1
    induction X with
    | nil => simp [sizeX]
    | cons a t ih =>
      have h1 := (permB_true (hp a (by simp))).1
      have h2 := ih (fun q hq => hp q (by simp [hq]))
      simp only [sizeX, List.map_cons, List.sum_cons, List.length_cons, Nat.add_mul, Nat.one_mul] at h2 ⊢
      omega
  omega
theorem mkG_le (X : List (List Int)) : (mkG X).length + sizeX (mkG X) ≤ 1048576 := by
  by_cases h : mkB X = true
  · exact basis_size (mkB_basis h)
  · unfold mkG; rw [if_neg h]; simp [sizeX]
theorem sizeR_sub {rs rs' : List Row} (h : rs'.Sublist rs) : rs'.length + sizeR rs' ≤ rs.length + sizeR rs := by
  induction h with
  | slnil => exact Nat.le_refl _
  | cons a _ ih => simp only [sizeR, List.map_cons, List.sum_cons, List.length_cons] at ih ⊢; omega
  | cons_cons a _ ih => simp only [sizeR, List.map_cons, List.sum_cons, List.length_cons] at ih ⊢; omega
theorem sizeX_append (X Y : List (List Int)) : sizeX (X ++ Y) = sizeX X + sizeX Y := by simp [sizeX]
theorem putL_size (X : List (List Int)) (p : List Int) : (putL X p).length + sizeX (putL X p) ≤ X.length + sizeX X + 1 + p.length := by
  unfold putL
  split
  · omega
  · have h1 : sizeX X = sizeX (X.take (putAt X p X.length)) + sizeX (X.drop (putAt X p X.length)) := by rw [← sizeX_append, List.take_append_drop]
    have h2 : X.length = (X.take (putAt X p X.length)).length + (X.drop (putAt X p X.length)).length := by rw [← List.length_append, List.take_append_drop]
    rw [sizeX_append, List.length_append]
    have h3 : sizeX (p :: X.drop (putAt X p X.length)) = p.length + sizeX (X.drop (putAt X p X.length)) := by simp [sizeX]
    rw [h3, List.length_cons]
    omega
theorem ordL_size (X : List (List Int)) : (ordL X).length + sizeX (ordL X) ≤ X.length + sizeX X := by
  have : ∀ (X Y : List (List Int)), (X.foldl putL Y).length + sizeX (X.foldl putL Y) ≤ Y.length + sizeX Y + (X.length + sizeX X) := by
    intro X
    induction X with
    | nil => intro Y; simp [sizeX]
    | cons a t ih =>
      intro Y
      have h1 := ih (putL Y a)
      have h2 := putL_size Y a
      have h3 : sizeX (a :: t) = a.length + sizeX t := by simp [sizeX]
      rw [List.foldl_cons, List.length_cons, h3]
      omega
  have := this X []
  simpa [ordL, sizeX] using this
/-- The rows that are kept. -/
def sieveR (rs : List Row) : Nat → List Row
  | 0 => []
  | k + 1 => match rs[k]? with
    | some r => if avoidB ((sieveR rs k).map Row.xs) r.xs = true then sieveR rs k ++ [r] else sieveR rs k
    | none => sieveR rs k
theorem sieveR_succ (rs : List Row) (k : Nat) (h : k < rs.length) : sieveR rs (k + 1) = if avoidB ((sieveR rs k).map Row.xs) rs[k].xs = true then sieveR rs k ++ [rs[k]] else sieveR rs k := by
  rw [sieveR, List.getElem?_eq_getElem h]
theorem sieveR_sub (rs : List Row) (k : Nat) (h : k ≤ rs.length) : (sieveR rs k).Sublist (rs.take k) := by
  induction k with
  | zero => exact List.Sublist.refl _
  | succ k ih =>
    rw [sieveR_succ rs k (by omega), List.take_succ_eq_append_getElem (by omega)]
    split
    · exact (ih (by omega)).append (List.Sublist.refl _)
    · exact (ih (by omega)).trans (List.sublist_append_left _ _)
theorem sieveR_map (rs : List Row) (k : Nat) (h : k ≤ rs.length) : (sieveR rs k).map Row.xs = sieve ((rs.map Row.xs).take k) := by
  induction k with
  | zero => rfl
  | succ k ih =>
    have ih := ih (by omega)
    have hk : (rs.map Row.xs)[k]'(by rw [List.length_map]; omega) = rs[k].xs := by simp
    rw [sieveR_succ rs k (by omega), sieve_take _ k (by rw [List.length_map]; omega), ih, hk]
    split
    · rw [List.map_append, ih]; rfl
    · exact ih
theorem sieveR_all (rs : List Row) : (sieveR rs rs.length).map Row.xs = sieve (rs.map Row.xs) := by
  rw [sieveR_map rs rs.length (Nat.le_refl _), List.take_of_length_le (by simp)]
end Go.Proofs.Ytfcgohhmpgffjaa

/- Symmetries of permutations: inverse, complement, symmetry; SymmetryBasis. -/
namespace Go.Proofs.Ytfcgohhmpgffjaa
set_option maxRecDepth 100000
open Go Go.RowKit

/-- The inverse, as far as the first k numbers tell it. -/
def invTo (p : List Int) : Nat → List Int
  | 0 => List.replicate p.length 0
  | k + 1 => (invTo p k).set ((p[k]?.getD 0) - 1).toNat ((k : Int) + 1)
def invL (p : List Int) : List Int := invTo p p.length
theorem invTo_length (p : List Int) (k : Nat) : (invTo p k).length = p.length := by
  induction k with
  | zero => simp [invTo]
  | succ k ih => simp [invTo, ih]
theorem invTo_bound (p : List Int) (k : Nat) (hk : k ≤ p.length) : ∀ x ∈ invTo p k, 0 ≤ x ∧ x ≤ p.length := by
  induction k with
  | zero =>
    intro x hx
    rw [invTo] at hx
    rw [List.eq_of_mem_replicate hx]
    omega
  | succ k ih =>
    intro x hx
    rw [invTo] at hx
    rcases List.mem_or_eq_of_mem_set hx with h | h
    · exact ih (by omega) x h
    · omega
def complL (p : List Int) : List Int := p.map fun v => (p.length : Int) + 1 - v
def complTo (p : List Int) (k : Nat) : List Int := (p.take k).map fun v => (p.length : Int) + 1 - v
theorem complTo_succ (p : List Int) (k : Nat) (h : k < p.length) : complTo p (k + 1) = complTo p k ++ [(p.length : Int) + 1 - p[k]] := by
  unfold complTo; rw [List.take_succ_eq_append_getElem h, List.map_append]; rfl
theorem complTo_all (p : List Int) : complTo p p.length = complL p := by unfold complTo complL; rw [List.take_length]
theorem complTo_len (p : List Int) (k : Nat) (h : k ≤ p.length) : (complTo p k).length = k := by unfold complTo; simp; omega
def revL (p : List Int) : List Int := p.reverse
/-- The symmetry number k. -/
def symL (p : List Int) : Nat → List Int
  | 0 => p
  | 1 => invL p
  | 2 => revL p
  | 3 => revL (invL p)
  | 4 => complL p
  | 5 => complL (invL p)
  | 6 => complL (revL p)
  | _ => complL (revL (invL p))
theorem small_perm {p : List Int} (h : permB p = true) : p.length ≤ 8 ∧ ∀ x ∈ p, 0 ≤ x ∧ x ≤ 8 := by
  have h8 := (permB_true h).1
  exact ⟨h8, fun x hx => by have := (permB_true h).2.1 x hx; omega⟩
theorem small_inv {p : List Int} (h : p.length ≤ 8) : (invL p).length ≤ 8 ∧ ∀ x ∈ invL p, 0 ≤ x ∧ x ≤ 8 :=
  ⟨by unfold invL; rw [invTo_length]; exact h, fun x hx => by have := invTo_bound p p.length (Nat.le_refl _) x hx; omega⟩
theorem small_rev {p : List Int} (h : p.length ≤ 8 ∧ ∀ x ∈ p, 0 ≤ x ∧ x ≤ 8) : (revL p).length ≤ 8 ∧ ∀ x ∈ revL p, 0 ≤ x ∧ x ≤ 8 :=
  ⟨by unfold revL; rw [List.length_reverse]; exact h.1, fun x hx => h.2 x (List.mem_reverse.1 hx)⟩
theorem symL_len {p : List Int} (h : p.length ≤ 8) (k : Nat) : (symL p k).length ≤ 8 := by
  have hi : (invL p).length = p.length := invTo_length p p.length
  unfold symL
  split <;> simp [complL, revL, hi, h]
set_option maxHeartbeats 2000000 in
theorem l2Inverse_any (A : Option Addr) (c : Nat) (p : List Int) (w : World) (h : In w A c p) (hP : permB p = true) :
    Calls Try.prog 53 #[.slice A p.length c] w (Ret (Value.int .i64) 3 w (invL p)) := by
  obtain ⟨i0, hi, hz0, hz1, hz2⟩ := info_parts infoI
  have h8 := (permB_true hP).1
  have HR := Lib.hid (permB_true hP).2.1
  clear hP
  go_enter Try.func53, Try.ntmps53
  go_wp2_with (at_make; refine wpList_make_full _ rfl _ _ 24 rfl (w.heap.size) 3 i0 (.int .i64 0) 1 Try.underlying24 hi hz0 hz1 .i64 .i64 _ _ (p.length) rfl rfl (by omega) (by omega) (by rw [hz2]; omega) (by unfold maxLen; omega) (by omega) ?_; intro w1 hown1 hgrow1)
  have hown0 : w1.ownsRow w.heap.size 3 1 (.slice (some ⟨w.heap.size, 0, none⟩) p.length p.length) p.length ((invTo p 0).map (Value.int .i64)) := made_zeros hown1
  have hb1 := below_none hgrow1
  clear hown1 hgrow1
  go_loopw [4] (fun i wr => ∃ k : Nat, k ≤ p.length ∧ i = .int .i64 k ∧ wr.ownsRow w.heap.size 3 1 (.slice (some ⟨w.heap.size, 0, none⟩) p.length p.length) p.length ((invTo p k).map (Value.int .i64)) ∧ Below w.heap.size w wr) (fun i _ => p.length - (intOf i).toNat)
  case atStart => exact ⟨0, Nat.zero_le _, rfl, hown0, hb1⟩
  case round =>
    clear hown0 hb1
    obtain ⟨k, hk, rfl, hown, hb⟩ := hrel
    rcases Nat.lt_or_ge k p.length with hlt | hge
    · obtain ⟨b, off, rfl, _, hc⟩ := (h.next hb).rd (by omega)
      have c1 := hc k hlt
      have hv := HR.out p[k] (List.getElem_mem hlt)
      obtain ⟨u, hu⟩ : ∃ u : Nat, p[k] = (u : Int) + 1 := ⟨(p[k] - 1).toNat, by omega⟩
      have hul : u < p.length := by omega
      have HS := Lib.hid (show invTo p (k + 1) = (invTo p k).set u ((k : Int) + 1) by
        rw [invTo, List.getElem?_eq_getElem hlt, Option.getD_some, hu, show ((u : Int) + 1 - 1).toNat = u by omega])
      rw [hu] at c1
      have hput := own_put hown u (by rw [invTo_length]; exact hul) ((k : Int) + 1)
      obtain ⟨cz, fz, hown2⟩ := hput
      have hb2 := hb.setCell (p := ⟨w.heap.size, u, none⟩) (Nat.le_refl _) (.int .i64 ((k : Int) + 1))
      have K := Lib.hid (And.intro hown2 hb2)
      have e1 : IntKind.i64.wrap ((u : Int) + 1 - 1) = (u : Int) := by rw [Int.add_sub_cancel]; exact IntWalk.i64_in _ (by omega)
      have e2 : (u : Int) < (p.length : Int) := by omega
      clear hc hown2 hb2 hu hv
      go_wp2_with fail
      go_roundw
      case rel => exact ⟨k + 1, by omega, by go_num, by rw [HS.out]; exact K.out.1, K.out.2⟩
      case measure => simp [intOf]; omega
    · obtain rfl : k = p.length := by omega
      have hll : (invL p).length = p.length := invTo_length p p.length
      have HLL := Lib.hid hll
      clear hll
      go_wp2_with fail
      go_ret
      exact ⟨some ⟨w.heap.size, 0, none⟩, p.length, by rw [HLL.out]; rfl, by rw [HLL.out]; exact Nat.le_refl _, by unfold maxLen; omega, by rw [HLL.out]; exact hown, hb⟩
end Go.Proofs.Ytfcgohhmpgffjaa

/- Plain maths of occurrences: the inverse and the complement. -/
namespace Go.Proofs.Ytfcgohhmpgffjaa
set_option maxRecDepth 100000

theorem invTo_get {p : List Int} (hp : permB p = true) : ∀ (k : Nat), k ≤ p.length → ∀ i : Int, 1 ≤ i → i ≤ k → at1 (invTo p k) (at1 p i) = i := by
  intro k
  induction k with
  | zero => intro _ i h1 h2; omega
  | succ k ih =>
    intro hk i h1 h2
    have hr := perm_rng hp h1 (by omega)
    have hk1 := perm_rng hp (x := (k : Int) + 1) (by omega) (by omega)
    have e1 : p[k]?.getD 0 = at1 p ((k : Int) + 1) := by rw [at1_get (by omega), List.getElem?_eq_getElem (by omega)]; rfl
    have hl := invTo_length p k
    rw [invTo, e1]
    unfold at1
    by_cases hik : i = (k : Int) + 1
    · subst hik
      rw [show (p[((k : Int) + 1 - 1).toNat]?.getD 0) = at1 p ((k : Int) + 1) from rfl]
      rw [List.getElem?_set_self (by omega)]; rfl
    · have hne : at1 p i ≠ at1 p ((k : Int) + 1) := fun e => hik (perm_inj hp ⟨h1, by omega⟩ ⟨by omega, by omega⟩ e)
      rw [show (p[(i - 1).toNat]?.getD 0) = at1 p i from rfl]
      rw [show (p[((k : Int) + 1 - 1).toNat]?.getD 0) = at1 p ((k : Int) + 1) from rfl]
      rw [List.getElem?_set_ne (by omega)]
      exact ih (by omega) i h1 (by omega)
theorem inv_at {p : List Int} (hp : permB p = true) {i : Int} (h1 : 1 ≤ i) (h2 : i ≤ p.length) : at1 (invL p) (at1 p i) = i := invTo_get hp p.length (Nat.le_refl _) i h1 h2
theorem invL_length (p : List Int) : (invL p).length = p.length := invTo_length p p.length
theorem at_inv {p : List Int} (hp : permB p = true) {v : Int} (h1 : 1 ≤ v) (h2 : v ≤ p.length) : at1 p (at1 (invL p) v) = v ∧ 1 ≤ at1 (invL p) v ∧ at1 (invL p) v ≤ p.length := by
  obtain ⟨x, hx1, hx2, rfl⟩ := perm_onto hp h1 h2
  rw [inv_at hp hx1 hx2]
  exact ⟨rfl, hx1, hx2⟩
theorem perm_inv {p : List Int} (hp : permB p = true) : permB (invL p) = true := by
  have h8 := (permB_true hp).1
  have hl := invL_length p
  refine perm_of (by omega) (fun x h1 h2 => ?_) (fun x y hx hy e => ?_)
  · have := (at_inv hp h1 (by omega)).2
    omega
  · have h1 := (at_inv hp hx.1 (by omega)).1
    have h2 := (at_inv hp hy.1 (by omega)).1
    rw [e, h2] at h1
    exact h1.symm
theorem inv_inv {p : List Int} (hp : permB p = true) : invL (invL p) = p := by
  have hl := invL_length p
  have hl2 := invL_length (invL p)
  refine at1_ext (by omega) fun x h1 h2 => ?_
  have hr := perm_rng hp h1 (by omega)
  have h3 := inv_at (perm_inv hp) (i := at1 p x) hr.1 (by omega)
  rw [inv_at hp h1 (by omega)] at h3
  exact h3
/-- The numbers at the places, in their order: the places of the inverse. -/
def invPl (p q l : List Int) : List Int := ofF q.length fun j => at1 p (at1 l (at1 (invL q) j))
theorem occ_inverse {p q l : List Int} (hp : permB p = true) (hq : permB q = true) (h : Occ p q l) : Occ (invL p) (invL q) (invPl p q l) := by
  have hl := h.len
  have hip := invL_length p
  have hiq := invL_length q
  have hb : ∀ j : Int, 1 ≤ j ∧ j ≤ q.length → 1 ≤ at1 (invL q) j ∧ at1 (invL q) j ≤ q.length := fun j hj => (at_inv hq hj.1 hj.2).2
  have hr : ∀ j : Int, 1 ≤ j ∧ j ≤ q.length → 1 ≤ at1 l (at1 (invL q) j) ∧ at1 l (at1 (invL q) j) ≤ p.length := fun j hj => h.rng _ (hb j hj).1 (by have := (hb j hj).2; omega)
  refine ⟨by rw [invPl, ofF_length, hiq], fun i j h1 h2 h3 => ?_, fun i h1 h2 => ?_, fun i j hi hj => ?_⟩
  · rw [invPl, ofF_length] at h3
    unfold invPl
    rw [at1_ofF h1 (by omega), at1_ofF (by omega) h3]
    rw [← h.ord _ _ (hb i ⟨h1, by omega⟩) (hb j ⟨by omega, h3⟩), (at_inv hq h1 (by omega)).1, (at_inv hq (by omega) h3).1]
    exact h2
  · rw [invPl, ofF_length] at h2
    unfold invPl
    rw [at1_ofF h1 h2, hip]
    have a := hr i ⟨h1, h2⟩
    exact perm_rng hp a.1 a.2
  · rw [hiq] at hi hj
    unfold invPl
    rw [at1_ofF hi.1 hi.2, at1_ofF hj.1 hj.2]
    have a := hr i hi
    have b := hr j hj
    rw [inv_at hp a.1 a.2, inv_at hp b.1 b.2, h.inc.lt (by have := hb i hi; omega) (by have := hb j hj; omega)]
theorem invPl_at {p q l : List Int} (hq : permB q = true) {i : Int} (h1 : 1 ≤ i) (h2 : i ≤ q.length) : at1 (invPl p q l) (at1 q i) = at1 p (at1 l i) := by
  have hr := perm_rng hq h1 h2
  unfold invPl
  rw [at1_ofF hr.1 hr.2, inv_at hq h1 h2]
theorem invPl_inj {p q l k : List Int} (hp : permB p = true) (hq : permB q = true) (hl : Occ p q l) (hk : Occ p q k) (e : invPl p q l = invPl p q k) : l = k := by
  have h1 := hl.len
  have h2 := hk.len
  refine at1_ext (by omega) fun x hx1 hx2 => ?_
  have : at1 (invPl p q l) (at1 q x) = at1 (invPl p q k) (at1 q x) := by rw [e]
  rw [invPl_at hq hx1 (by omega), invPl_at hq hx1 (by omega)] at this
  exact perm_inj hp (hl.rng x hx1 hx2) (hk.rng x hx1 (by omega)) this
theorem occ_count_inverse {p q : List Int} (hp : permB p = true) (hq : permB q = true) : (occI (invL p) (invL q)).length = (occI p q).length := by
  have hp' := perm_inv hp
  have hq' := perm_inv hq
  refine len_of_inj (occI_nodup _ _) (occI_nodup _ _) (invPl (invL p) (invL q)) (invPl p q) (fun l hl => ?_) (fun l hl k hk e => ?_) (fun l hl => ?_) (fun l hl k hk e => ?_)
  · have h := occ_inverse hp' hq' ((occ_iff hp' hq').1 hl)
    rw [inv_inv hp, inv_inv hq] at h
    exact (occ_iff hp hq).2 h
  · exact invPl_inj hp' hq' ((occ_iff hp' hq').1 hl) ((occ_iff hp' hq').1 hk) e
  · exact (occ_iff hp' hq').2 (occ_inverse hp hq ((occ_iff hp hq).1 hl))
  · exact invPl_inj hp hq ((occ_iff hp hq).1 hl) ((occ_iff hp hq).1 hk) e

/-! The complement. -/
theorem complL_length (p : List Int) : (complL p).length = p.length := by simp [complL]
theorem at1_compl {p : List Int} {x : Int} (h1 : 1 ≤ x) (h2 : x ≤ p.length) : at1 (complL p) x = (p.length : Int) + 1 - at1 p x := by
  obtain ⟨i, h, e1, e2⟩ := at1_nat (p := p) h1 h2
  have h' : i < (complL p).length := by rw [complL_length]; exact h
  rw [e2, e1, at1_get h']
  simp [complL]
theorem perm_compl {p : List Int} (hp : permB p = true) : permB (complL p) = true := by
  have h8 := (permB_true hp).1
  have hl := complL_length p
  refine perm_of (by omega) (fun x h1 h2 => ?_) (fun x y hx hy e => ?_)
  · rw [at1_compl h1 (by omega)]
    have := perm_rng hp h1 (by omega)
    omega
  · rw [at1_compl hx.1 (by omega), at1_compl hy.1 (by omega)] at e
    exact perm_inj hp ⟨hx.1, by omega⟩ ⟨hy.1, by omega⟩ (by omega)
theorem occ_compl {p q l : List Int} (h : Occ p q l) : Occ (complL p) (complL q) l := by
  have hl := h.len
  refine ⟨by rw [complL_length]; exact hl, h.inc, by rw [complL_length]; exact h.rng, fun i j hi hj => ?_⟩
  rw [complL_length] at hi hj
  have a := h.rng i hi.1 (by omega)
  have b := h.rng j hj.1 (by omega)
  rw [at1_compl hi.1 hi.2, at1_compl hj.1 hj.2, at1_compl a.1 a.2, at1_compl b.1 b.2]
  have := h.ord j i hj hi
  omega
theorem compl_compl {p : List Int} : complL (complL p) = p := by
  refine at1_ext (by rw [complL_length, complL_length]) fun x h1 h2 => ?_
  rw [complL_length, complL_length] at h2
  rw [at1_compl h1 (by rw [complL_length]; exact h2), at1_compl h1 h2, complL_length]
  omega

/-! All symmetries. -/
theorem perm_sym {p : List Int} (hp : permB p = true) (k : Nat) : permB (symL p k) = true := by
  unfold symL
  split
  all_goals first | exact hp | exact perm_inv hp | exact perm_reverse hp | exact perm_reverse (perm_inv hp) | exact perm_compl hp | exact perm_compl (perm_inv hp) | exact perm_compl (perm_reverse hp) | exact perm_compl (perm_reverse (perm_inv hp))
theorem has_reverse {p q : List Int} (hp : permB p = true) (hq : permB q = true) : hasB p.reverse q.reverse = hasB p q := by
  rw [Bool.eq_iff_iff, has_iff hp hq, has_iff (perm_reverse hp) (perm_reverse hq)]
  constructor
  · rintro ⟨l, h⟩
    have := occ_reverse h
    rw [List.reverse_reverse, List.reverse_reverse] at this
    exact ⟨_, this⟩
  · rintro ⟨l, h⟩; exact ⟨_, occ_reverse h⟩
theorem has_inverse {p q : List Int} (hp : permB p = true) (hq : permB q = true) : hasB (invL p) (invL q) = hasB p q := by
  rw [Bool.eq_iff_iff, has_iff hp hq, has_iff (perm_inv hp) (perm_inv hq)]
  constructor
  · rintro ⟨l, h⟩
    have := occ_inverse (perm_inv hp) (perm_inv hq) h
    rw [inv_inv hp, inv_inv hq] at this
    exact ⟨_, this⟩
  · rintro ⟨l, h⟩; exact ⟨_, occ_inverse hp hq h⟩
theorem has_compl {p q : List Int} (hp : permB p = true) (hq : permB q = true) : hasB (complL p) (complL q) = hasB p q := by
  rw [Bool.eq_iff_iff, has_iff hp hq, has_iff (perm_compl hp) (perm_compl hq)]
  constructor
  · rintro ⟨l, h⟩
    have := occ_compl h
    rw [compl_compl, compl_compl] at this
    exact ⟨_, this⟩
  · rintro ⟨l, h⟩; exact ⟨_, occ_compl h⟩
theorem has_sym {p q : List Int} (hp : permB p = true) (hq : permB q = true) (k : Nat) : hasB (symL p k) (symL q k) = hasB p q := by
  match k with
  | 0 => rfl
  | 1 => exact has_inverse hp hq
  | 2 => exact has_reverse hp hq
  | 3 => exact (has_reverse (perm_inv hp) (perm_inv hq)).trans (has_inverse hp hq)
  | 4 => exact has_compl hp hq
  | 5 => exact (has_compl (perm_inv hp) (perm_inv hq)).trans (has_inverse hp hq)
  | 6 => exact (has_compl (perm_reverse hp) (perm_reverse hq)).trans (has_reverse hp hq)
  | _ + 7 => exact (has_compl (perm_reverse (perm_inv hp)) (perm_reverse (perm_inv hq))).trans ((has_reverse (perm_inv hp) (perm_inv hq)).trans (has_inverse hp hq))
end Go.Proofs.Ytfcgohhmpgffjaa
