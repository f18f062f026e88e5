/- Several texts in one, each with its own head: X2, OC7, PN3. No program of ours. -/
import Derived.Test.YtfcgohhmpgffjaaGreatDoorShelf
import Derived.Lib.OthersKept
import Derived.Laws.RangeAny
import Derived.WalkSmall
import Derived.Test.YtfcgohhmpgffjaaGreatDoorMNears7
/- slices.Sort of an owned row of numbers; a falling list's order. -/
namespace Go.Proofs.YtfcgohhmpgffjaaGreatDoor
set_option maxRecDepth 100000
open Go Go.RowKit

theorem mergeSort_unique {xs ys : List Int} (hp : ys.Perm xs) (hs : ys.Pairwise (fun x y => x ≤ y)) : xs.mergeSort (fun x y => decide (x ≤ y)) = ys := by
  have h1 : (xs.mergeSort (fun x y => decide (x ≤ y))).Pairwise (fun x y => decide (x ≤ y) = true) :=
    List.pairwise_mergeSort (fun a b c h1 h2 => by simp only [decide_eq_true_eq] at *; omega) (fun a b => by simp only [Bool.or_eq_true, decide_eq_true_eq]; omega) xs
  have h2 : (xs.mergeSort (fun x y => decide (x ≤ y))).Perm ys := (List.mergeSort_perm xs _).trans hp.symm
  refine List.Perm.eq_of_pairwise (le := fun x y => x ≤ y) (fun a b _ _ h1 h2 => by omega) (h1.imp fun h => by simpa using h) hs h2

theorem sortI_any (A : Option Addr) (c base n : Nat) (xs ys : List Int) (w : World) (hn : xs.length = n) (hl : n ≤ 1048576) (h : w.ownsRow base 3 1 (.slice A n c) n (xs.map (Value.int .i64)))
    (hs : xs.mergeSort (fun x y => decide (x ≤ y)) = ys) :
    Calls Tryz.prog 36 #[.slice A n c] w fun e w' => e = .returned (.tuple #[]) ∧ w'.ownsRow base 3 1 (.slice A n c) n (ys.map (Value.int .i64)) ∧ w.grownBy w' (Value.slice A 0 0).ownBlock := by
  rcases Nat.eq_zero_or_pos n with h0 | h0
  · subst h0
    have hx : xs = [] := List.eq_nil_of_length_eq_zero hn
    subst hx
    have hy : ys = [] := by rw [← hs]; simp
    subst hy
    refine (Tryz.slices_Sort_int_none A c w).mono ?_
    rintro e w' ⟨rfl, rfl⟩
    exact ⟨rfl, h, World.grownBy.refl _ _⟩
  · obtain ⟨g, cap, hv, hb, hg, _, _, _, hH⟩ := Lib.holds_of_ownsRow h (by intro he; injection he with _ he _; omega)
    injection hv with hv1 _ hv2
    subst hv1 hv2
    subst hn
    have hlen : ys.length = xs.length := by rw [← hs, List.length_mergeSort]
    refine Calls.mono (Tryz.slices_Sort_int g 0 c xs w hH hg (by omega)) ?_
    rintro e w' ⟨rfl, q, os, rfl⟩
    rw [hs]
    have h1 := Lib.ownsRow_putRow (q := q) (k := xs.length) (ys := ys) h hlen (Nat.le_refl _)
    rw [List.take_of_length_le (by omega)] at h1
    have hbg : Below (Sort.putRow (Value.int .i64) (Sort.ahead w q) g 0 ys.toArray).heap.size (Sort.putRow (Value.int .i64) (Sort.ahead w q) g 0 ys.toArray) (Sort.grow (Sort.putRow (Value.int .i64) (Sort.ahead w q) g 0 ys.toArray) os) := grow_below _ os
    have hg1 := putRow_grown (Value.int .i64) w q g ys.toArray
    exact ⟨rfl, own_below h1 hbg, grown_trans hg1 (below_grown (grow_below _ os))⟩

def rnUp (n : Nat) (ys : List Int) (j : Nat) : List Int := (ys.take j).map fun y => (n : Int) - y
theorem rnUp_len (n : Nat) (ys : List Int) (j : Nat) (h : j ≤ ys.length) : (rnUp n ys j).length = j := by simp [rnUp]; omega
theorem rnUp_succ (n : Nat) (ys : List Int) (j : Nat) (h : j < ys.length) : rnUp n ys (j + 1) = rnUp n ys j ++ [(n : Int) - ys[j]] := by
  unfold rnUp
  rw [List.take_succ_eq_append_getElem h, List.map_append]; rfl
theorem near_rise {xs ys : List Int} (h : nearB xs ys = true) : ys.Pairwise (fun x y => x < y) := by
  unfold nearB at h
  rw [Bool.and_eq_true] at h
  have hj : ∀ j, j < ys.length → joinAt xs.length ys j = true := fun j hj => by
    have := h.2
    unfold joinTo at this
    exact List.all_eq_true.1 this j (List.mem_range.2 hj)
  have hs : ∀ j (h1 : j + 1 < ys.length), ys[j] < ys[j + 1] := fun j h1 => by
    have := hj (j + 1) h1
    simp only [joinAt, List.getElem?_eq_getElem h1, Nat.add_sub_cancel, List.getElem?_eq_getElem (show j < ys.length by omega), Option.getD_some, decide_eq_true_eq] at this
    omega
  have hd : ∀ d i (h1 : i + d + 1 < ys.length), ys[i] < ys[i + d + 1] := fun d => by
    induction d with
    | zero => exact fun i h1 => hs i h1
    | succ d ih =>
      intro i h1
      have h2 := ih i (by omega)
      have h3 := hs (i + d + 1) (by omega)
      exact Int.lt_trans h2 h3
  rw [List.pairwise_iff_getElem]
  intro i k hi hk hik
  obtain ⟨d, rfl⟩ : ∃ d, k = i + d + 1 := ⟨k - i - 1, by omega⟩
  exact hd d i hk
theorem rnUp_sort {xs ys : List Int} (h : nearB xs ys = true) : (rnUp xs.length ys ys.length).mergeSort (fun x y => decide (x ≤ y)) = rnTo xs.length ys ys.length := by
  unfold rnUp rnTo
  rw [List.take_length, List.take_of_length_le (by simp)]
  refine mergeSort_unique ((List.reverse_perm ys).map _) ?_
  rw [List.pairwise_map, List.pairwise_reverse]
  exact (near_rise h).imp fun h => by omega

set_option maxHeartbeats 2000000 in
theorem reverseNear_impl (A B : Option Addr) (c k : Nat) (xs ys : List Int) (w : World) (h : InN w A c xs B k ys) :
    Calls Tryz.prog 10 #[.agg #[.slice A xs.length c, .slice B ys.length k]] w (RetNb w (rnG1 xs ys) (rnG2 xs ys) (nearB xs ys)) := by
  obtain ⟨i0, hi, hz0, hz1, hz2⟩ := info_parts infoI
  have hlx := h.1.len
  have hly := h.2.len
  go_enter Tryz.func10, Tryz.ntmps10
  have hb0 : Below w.heap.size w ((w.alloc (Obj.cells #[Value.slice A xs.length c, Value.slice B ys.length k] 26)).alloc (Obj.cells #[Value.slice none 0 0, Value.slice none 0 0] 26)) := ((Below.refl _ _).alloc (Nat.le_refl _) _).alloc (by simp) _
  go_wp2_with fail
  have oa := obj_alloc (obj_new w (Obj.cells #[Value.slice A xs.length c, Value.slice B ys.length k] 26)) (Obj.cells #[Value.slice none 0 0, Value.slice none 0 0] 26)
  have ob := obj_new (w.alloc (Obj.cells #[Value.slice A xs.length c, Value.slice B ys.length k] 26)) (Obj.cells #[Value.slice none 0 0, Value.slice none 0 0] 26)
  have hzw : ((w.alloc (Obj.cells #[Value.slice A xs.length c, Value.slice B ys.length k] 26)).alloc (Obj.cells #[Value.slice none 0 0, Value.slice none 0 0] 26)).heap.size = w.heap.size + 1 + 1 := by simp
  simp only [World.size_alloc] at ob
  generalize ((w.alloc (Obj.cells #[Value.slice A xs.length c, Value.slice B ys.length k] 26)).alloc (Obj.cells #[Value.slice none 0 0, Value.slice none 0 0] 26)) = w0 at hb0 oa ob hzw ⊢
  by_cases hn : nearB xs ys = true
  · have HN := Lib.hid hn
    have H1 := Lib.hid (show rnG1 xs ys = rnP xs by unfold rnG1; rw [if_pos hn])
    have H2 := Lib.hid (show rnG2 xs ys = rnTo xs.length ys ys.length by unfold rnG2; rw [if_pos hn])
    have hy8 := nearB_len hn
    have hx8 := (permB_true (nearB_permB hn)).1
    have HR := Lib.hid (nearB_range hn)
    (with_reducible refine (near_ib A B c k xs ys w0 true (h.next hb0) HN.out).mono ?_)
    rintro e wn ⟨rfl, hb1⟩
    have oa := obj_below oa hb1 (obj_lt oa)
    have ob := obj_below ob hb1 (obj_lt ob)
    have hb := hb0.trans (hb1.mono hb0.size)
    have hsz1 := hb1.size
    have f0 : wn.cell? ⟨w.heap.size, 0, none⟩ = some (Value.slice A xs.length c) := (obj_cell oa).trans rfl
    have f1 : wn.cell? ⟨w.heap.size, 1, none⟩ = some (Value.slice B ys.length k) := (obj_cell oa).trans rfl
    clear hn hb1
    go_wp2_with fail
    (with_reducible refine (reverse_rn A c xs wn (h.1.next hb)).mono ?_)
    rintro e w2 ⟨A2, c2, rfl, _, _, own2, hb2⟩
    have oa := obj_below oa hb2 (obj_lt oa)
    have ob := obj_below ob hb2 (obj_lt ob)
    have hb' := hb.trans (hb2.mono hb.size)
    have hsz2 := hb2.size
    have hsb := hb'.size
    have oa3 := obj_alloc oa (Obj.cells #[Value.slice A2 (rnP xs).length c2, Value.slice none 0 0] 26)
    have ob3 := obj_alloc ob (Obj.cells #[Value.slice A2 (rnP xs).length c2, Value.slice none 0 0] 26)
    have oc3 := obj_new w2 (Obj.cells #[Value.slice A2 (rnP xs).length c2, Value.slice none 0 0] 26)
    have hA3 := own2.alloc (Obj.cells #[Value.slice A2 (rnP xs).length c2, Value.slice none 0 0] 26)
    have lA : ∀ q, (Value.slice A2 (rnP xs).length c2).ownBlock = some q → wn.heap.size ≤ q ∧ q < w2.heap.size := fun q hq => own2.lt q hq
    have hb3 := hb'.alloc hsb (Obj.cells #[Value.slice A2 (rnP xs).length c2, Value.slice none 0 0] 26)
    have hz3 : (w2.alloc (Obj.cells #[Value.slice A2 (rnP xs).length c2, Value.slice none 0 0] 26)).heap.size = w2.heap.size + 1 := by simp
    have g1 : (w2.alloc (Obj.cells #[Value.slice A2 (rnP xs).length c2, Value.slice none 0 0] 26)).cell? ⟨w.heap.size, 1, none⟩ = some (Value.slice B ys.length k) := (obj_cell oa3).trans rfl
    have hlt2 : w.heap.size + 1 < w2.heap.size := by omega
    clear own2 hb2 hb oa ob f0 f1
    go_wp2_with fail
    generalize (w2.alloc (Obj.cells #[Value.slice A2 (rnP xs).length c2, Value.slice none 0 0] 26)) = w3 at oa3 ob3 oc3 hA3 hb3 hz3 g1 ⊢
    obtain ⟨g, hg⟩ : ∃ g, g = w2.heap.size := ⟨_, rfl⟩
    rw [← hg] at oc3 hz3 hlt2 lA hsz2 ⊢
    have HZ3 := Lib.hid hz3
    clear hg hz3 g1
    go_loopw [18] (fun i wr => ∃ (j : Nat) (B1 : Option Addr) (kk : Nat), j ≤ ys.length ∧ i = .int .i64 (j : Int) ∧ wr.heap[g]? = some (Obj.cells #[Value.slice A2 (rnP xs).length c2, Value.slice B1 j kk] 26) ∧
      wr.heap[w.heap.size]? = some (Obj.cells #[Value.slice A xs.length c, Value.slice B ys.length k] 26) ∧
      wr.heap[w.heap.size + 1]? = some (Obj.cells #[Value.slice none 0 0, Value.slice none 0 0] 26) ∧ wr.ownsRow wn.heap.size 3 1 (.slice A2 (rnP xs).length c2) (rnP xs).length ((rnP xs).map (Value.int .i64)) ∧
      wr.ownsRow w3.heap.size 3 1 (.slice B1 j kk) j ((rnUp xs.length ys j).map (Value.int .i64)) ∧ Below w.heap.size w wr ∧ w3.heap.size ≤ wr.heap.size) (fun i _ => ys.length - (intOf i).toNat)
    case atStart => exact ⟨0, none, 0, Nat.zero_le _, rfl, oc3, oa3, ob3, hA3, World.ownsRow_nil _ _ _ _, hb3, Nat.le_refl _⟩
    case round =>
      clear oc3 oa3 ob3 hA3 hb3
      obtain ⟨j, B1, kk, hj, rfl, og, oa, ob, hA, hB, hbw, hsw⟩ := hrel
      have f1 : wr.cell? ⟨g, 1, none⟩ = some (Value.slice B1 j kk) := (obj_cell og).trans rfl
      have f0 : wr.cell? ⟨g, 0, none⟩ = some (Value.slice A2 (rnP xs).length c2) := (obj_cell og).trans rfl
      have a0 : wr.cell? ⟨w.heap.size, 0, none⟩ = some (Value.slice A xs.length c) := (obj_cell oa).trans rfl
      have a1 : wr.cell? ⟨w.heap.size, 1, none⟩ = some (Value.slice B ys.length k) := (obj_cell oa).trans rfl
      by_cases hlt : j < ys.length
      · have HS := Lib.hid (rnUp_succ xs.length ys j hlt)
        obtain ⟨b, off, rfl, _, hc⟩ := (h.2.next hbw).rd (by omega)
        have cc := hc j hlt
        have hr := HR.out ys[j] (List.getElem_mem hlt)
        obtain ⟨yv, hyv⟩ : ∃ yv, yv = ys[j] := ⟨_, rfl⟩
        rw [← hyv] at cc hr
        have HYV := Lib.hid hyv
        have e2 : IntKind.i64.wrap ((xs.length : Int) - yv) = (xs.length : Int) - yv := IntWalk.i64_in _ (by omega)
        have hq0 : (0 : Int) ≤ (j : Int) := Int.natCast_nonneg _
        have hq1 : (j : Int) < (ys.length : Int) := by omega
        have s3 : g < w3.heap.size := by have := HZ3.out; omega
        have hlim : ∀ q, (Value.slice B1 j kk).ownBlock = some q → w3.heap.size ≤ q ∧ q < wr.heap.size := fun q hq => hB.lt q hq
        have ogr := obj_alloc og (Obj.cells #[Value.int .i64 ((xs.length : Int) - yv)] 3)
        have oar := obj_alloc oa (Obj.cells #[Value.int .i64 ((xs.length : Int) - yv)] 3)
        have obr := obj_alloc ob (Obj.cells #[Value.int .i64 ((xs.length : Int) - yv)] 3)
        have hAr := hA.alloc (Obj.cells #[Value.int .i64 ((xs.length : Int) - yv)] 3)
        have hbr := hbw.alloc hbw.size (Obj.cells #[Value.int .i64 ((xs.length : Int) - yv)] 3)
        have f1d : wr.drew.cell? ⟨g, 1, none⟩ = some (Value.slice B1 j kk) := f1
        have f1r : (wr.alloc (Obj.cells #[Value.int .i64 ((xs.length : Int) - yv)] 3)).cell? ⟨g, 1, none⟩ = some (Value.slice B1 j kk) := (obj_cell ogr).trans rfl
        have a0d : wr.drew.cell? ⟨w.heap.size, 0, none⟩ = some (Value.slice A xs.length c) := a0
        have a1d : wr.drew.cell? ⟨w.heap.size, 1, none⟩ = some (Value.slice (some ⟨b, off, none⟩) ys.length k) := a1
        have ccd : wr.drew.cell? ⟨b, off + j, none⟩ = some (.int .i64 yv) := cc
        clear hc hyv
        go_wp2_with ((at_builtin; refine wpList_append_own _ rfl _ _ 24 rfl (w3.heap.size) 3 i0 (.int .i64 0) 1 8 Tryz.underlying24 hi hz0 hz1 hz2 rfl (by decide) _ _ _ rfl (World.ownsRow.alloc hB _) ⟨wr.heap.size, 0, none⟩ 1 1 [.int .i64 ((xs.length : Int) - yv)] rfl rfl (cell_one_new _ _ _) (by intro u hu; simp at hu; subst hu; rfl) (by unfold maxLen; omega) (by omega) (by simp; omega) ?_; intro v1 w1 hown1 hgrow1 _)
                     obtain ⟨B2, k1, rfl, _, _⟩ := own_shape hown1
                     have hg3 := hgrow1
                     clear hgrow1
                     have og1 := (hg3.block _ (obj_lt ogr) (by intro he; have := hlim _ he.symm; omega)).trans ogr
                     have oa1 := (hg3.block _ (obj_lt oar) (by intro he; have := hlim _ he.symm; omega)).trans oar
                     have ob1 := (hg3.block _ (obj_lt obr) (by intro he; have := hlim _ he.symm; omega)).trans obr
                     have f3 : w1.cell? ⟨g, 1, none⟩ = some (Value.slice B1 j kk) := (obj_cell og1).trans rfl
                     have f4 : w1.frozen? ⟨g, 1, none⟩ = false := obj_frozen og1)
        have hA1 := hAr.kept hg3 (own_off (lim := g) (fun q hq => (lA q hq).2) (fun q hq => by have := hlim q hq; omega))
        have hbw3 := hbr.grown hg3 (by simp; omega) (fun q hq => by have := hlim q hq; omega)
        have hsp : Span g (g + 1) w1 (w1.setCell ⟨g, 1, none⟩ (Value.slice B2 (j + 1) k1)) := Span.set (p := ⟨g, 1, none⟩) (Nat.le_refl _) (Nat.lt_succ_self _) _
        have hA2 := own_span hA1 hsp (fun q hq => .inl (lA q hq).2)
        have hB1 : w1.ownsRow w3.heap.size 3 1 (.slice B2 (j + 1) k1) (j + 1) ((rnUp xs.length ys (j + 1)).map (Value.int .i64)) := by rw [HS.out, ← HYV.out]; simpa using hown1
        have hB2 := own_span hB1 hsp (fun q hq => by have := (hB1.lt q hq).1; omega)
        have og2 := obj_set (i := 1) og1 (Value.slice B2 (j + 1) k1)
        have oa2 := obj_other (g' := g) (i := 1) oa1 (by omega) (Value.slice B2 (j + 1) k1)
        have ob2 := obj_other (g' := g) (i := 1) ob1 (by omega) (Value.slice B2 (j + 1) k1)
        have hb5 := hbw3.setCell (p := ⟨g, 1, none⟩) (by simp; omega) (Value.slice B2 (j + 1) k1)
        have hb6 : w3.heap.size ≤ (w1.setCell ⟨g, 1, none⟩ (Value.slice B2 (j + 1) k1)).heap.size := by have h1 := hg3.size; have h2 := hsp.size; simp at h1; omega
        have K := Lib.hid (And.intro og2 (And.intro oa2 (And.intro ob2 (And.intro hA2 (And.intro hB2 (And.intro hb5 hb6))))))
        clear og2 oa2 ob2 hA2 hB2 hb5 hb6 hsp hA1 hB1 hbw3 hown1 hg3 og1 oa1 ob1 f3 f4 f1 f0 a0 a1 f1d f1r a0d a1d ccd hA hB og oa ob hbw hlim ogr oar obr hAr hbr
        go_wp2_with fail
        go_roundw
        case rel => exact ⟨j + 1, B2, k1, by omega, by go_num, K.out.1, K.out.2.1, K.out.2.2.1, K.out.2.2.2.1, K.out.2.2.2.2.1, K.out.2.2.2.2.2.1, K.out.2.2.2.2.2.2⟩
        case measure => (simp [intOf]) <;> omega
      · obtain rfl : j = ys.length := by omega
        have HSR := Lib.hid (rnUp_sort (xs := xs) (ys := ys) HN.out)
        have s3 := HZ3.out
        have hlim : ∀ q, (Value.slice B1 0 0).ownBlock = some q → w3.heap.size ≤ q := fun q hq => (hB.lt q (by rw [← hq]; exact ownBlock_len _ _ _ _ _)).1
        have hS := sortI_any B1 kk w3.heap.size ys.length (rnUp xs.length ys ys.length) (rnTo xs.length ys ys.length) wr (rnUp_len _ _ _ (Nat.le_refl _)) (by omega) hB HSR.out
        go_wp2_with fail
        (with_reducible refine hS.mono ?_)
        rintro e wq ⟨rfl, hB2, hgq⟩
        have og := (hgq.block g (obj_lt og) (by intro he; have := hlim _ he.symm; omega)).trans og
        have ob := (hgq.block (w.heap.size + 1) (obj_lt ob) (by intro he; have := hlim _ he.symm; omega)).trans ob
        have hA2 := hA.kept hgq (own_off (lim := g) (fun q hq => (lA q hq).2) (fun q hq => by have := hlim q hq; omega))
        have hbq := hbw.grown hgq hbw.size (fun q hq => by have := hlim q hq; omega)
        have hsq := hgq.size
        have f1 : wq.cell? ⟨g, 1, none⟩ = some (Value.slice B1 ys.length kk) := (obj_cell og).trans rfl
        have f0 : wq.cell? ⟨g, 0, none⟩ = some (Value.slice A2 (rnP xs).length c2) := (obj_cell og).trans rfl
        have g0 : wq.cell? ⟨w.heap.size + 1, 0, none⟩ = some (Value.slice none 0 0) := (obj_cell ob).trans rfl
        have g1 : wq.cell? ⟨w.heap.size + 1, 1, none⟩ = some (Value.slice none 0 0) := (obj_cell ob).trans rfl
        have g2 : wq.frozen? ⟨w.heap.size + 1, 0, none⟩ = false := obj_frozen ob
        have g3 : wq.frozen? ⟨w.heap.size + 1, 1, none⟩ = false := obj_frozen ob
        have o2 := obj_set (i := 1) (obj_set (i := 0) ob (Value.slice A2 (rnP xs).length c2)) (Value.slice B1 ys.length kk)
        have hsp : Span (w.heap.size + 1) (w.heap.size + 1 + 1) wq ((wq.setCell ⟨w.heap.size + 1, 0, none⟩ (Value.slice A2 (rnP xs).length c2)).setCell ⟨w.heap.size + 1, 1, none⟩ (Value.slice B1 ys.length kk)) :=
          (Span.set (p := ⟨w.heap.size + 1, 0, none⟩) (Nat.le_refl _) (Nat.lt_succ_self _) _).trans (Span.set (p := ⟨w.heap.size + 1, 1, none⟩) (Nat.le_refl _) (Nat.lt_succ_self _) _)
        have hrl := rnTo_len xs.length ys ys.length (Nat.le_refl _)
        have hB' : wq.ownsRow w3.heap.size 3 1 (.slice B1 (rnTo xs.length ys ys.length).length kk) (rnTo xs.length ys ys.length).length ((rnTo xs.length ys ys.length).map (Value.int .i64)) := by rw [hrl]; exact hB2
        have own : Own wq wn.heap.size wq.heap.size [⟨A2, c2, rnP xs⟩, ⟨B1, kk, rnTo xs.length ys ys.length⟩] [] :=
          ((Own.one hA2 (Nat.le_refl _)).lim g (fun r hr => by obtain rfl := List.mem_singleton.1 hr; exact fun q hq => (lA q hq).2)).app ((Own.one hB' (Nat.le_refl _)).wider (by omega) (Nat.le_refl _)) (by omega) (by omega)
        have own := own.span hsp (.inr (by omega))
        have hb4 := (hbq.setCell (p := ⟨w.heap.size + 1, 0, none⟩) (by simp) (Value.slice A2 (rnP xs).length c2)).setCell (p := ⟨w.heap.size + 1, 1, none⟩) (by simp) (Value.slice B1 ys.length kk)
        have l0 := (obj_cell (i := 0) o2).trans rfl
        have l1 := (obj_cell (i := 1) o2).trans rfl
        have hq2 := hsp.size
        have HL := Lib.hid hrl
        clear hsp hrl
        go_wp2_with fail
        refine bodyPost_ret (v := .tuple #[.agg #[.slice A2 (rnP xs).length c2, .slice B1 ys.length kk], .bool true]) (by simp [results, Tryz.results10, go_sem, l0, l1]) rfl ?_
        rw [H1.out, H2.out, HN.out]
        exact ⟨_, _, _, _, by rw [HL.out], own.wider (by omega) (by omega), hb4⟩
  · have hnf : nearB xs ys = false := by simpa using hn
    have H1 := Lib.hid (show rnG1 xs ys = [] by unfold rnG1; rw [hnf]; rfl)
    have H2 := Lib.hid (show rnG2 xs ys = [] by unfold rnG2; rw [hnf]; rfl)
    have HN := Lib.hid hnf
    (with_reducible refine (near_ib A B c k xs ys w0 false (h.next hb0) hnf).mono ?_)
    rintro e w1 ⟨rfl, hb1⟩
    have oa := obj_below oa hb1 (obj_lt oa)
    have ob := obj_below ob hb1 (obj_lt ob)
    have hb := hb0.trans (hb1.mono hb0.size)
    have f0 : w1.cell? ⟨w.heap.size, 0, none⟩ = some (Value.slice A xs.length c) := (obj_cell oa).trans rfl
    have g0 : w1.cell? ⟨w.heap.size + 1, 0, none⟩ = some (Value.slice none 0 0) := (obj_cell ob).trans rfl
    have g1 : w1.cell? ⟨w.heap.size + 1, 1, none⟩ = some (Value.slice none 0 0) := (obj_cell ob).trans rfl
    have g2 : w1.frozen? ⟨w.heap.size + 1, 0, none⟩ = false := obj_frozen ob
    have g3 : w1.frozen? ⟨w.heap.size + 1, 1, none⟩ = false := obj_frozen ob
    have o2 := obj_set (i := 1) (obj_set (i := 0) ob (Value.slice none 0 0)) (Value.slice none 0 0)
    have hb4 := (hb.setCell (p := ⟨w.heap.size + 1, 0, none⟩) (by simp) (Value.slice none 0 0)).setCell (p := ⟨w.heap.size + 1, 1, none⟩) (by simp) (Value.slice none 0 0)
    have l0 := (obj_cell (i := 0) o2).trans rfl
    have l1 := (obj_cell (i := 1) o2).trans rfl
    clear hn hnf
    go_wp2_with fail
    refine bodyPost_ret (v := .tuple #[.agg #[.slice none 0 0, .slice none 0 0], .bool false]) (by simp [results, Tryz.results10, go_sem, l0, l1]) rfl ?_
    rw [H1.out, H2.out, HN.out]
    exact ⟨_, _, _, _, rfl, own_nilrow _ _ _, hb4⟩
end Go.Proofs.YtfcgohhmpgffjaaGreatDoor

/- Plain maths of FnNears: what ParseNear makes of NearText. -/
namespace Go.Proofs.YtfcgohhmpgffjaaGreatDoor
set_option maxRecDepth 100000

theorem jnTo_take (l k' : List UInt8) : ∀ k, k ≤ l.length → jnTo (l ++ k') k = jnTo l k := by
  intro k
  induction k with
  | zero => intro _; rfl
  | succ k ih =>
    intro hk
    unfold jnTo
    rw [ih (by omega), List.getElem?_append_left (by omega), List.take_append_of_le_length (by omega)]
    rcases Nat.eq_zero_or_pos k with h0 | h0
    · subst h0; simp
    · rw [List.getElem?_append_left (by omega)]
theorem jn_one (A : List UInt8) (x : UInt8) (hx : x ≠ 95) : jnTo (A ++ [x]) (A ++ [x]).length = if 0 < A.length ∧ A[A.length - 1]?.getD 0 ≠ 95 then jnTo A A.length ++ [((dgs A).length : Int)] else jnTo A A.length := by
  rw [List.length_append, List.length_singleton]
  show (if (A ++ [x])[A.length]?.getD 0 = 95 then _ else _) = _
  rw [List.getElem?_concat_length, Option.getD_some, if_neg hx, jnTo_take A [x] _ (Nat.le_refl _), List.take_append_of_le_length (Nat.le_refl _), List.take_length]
  rcases Nat.eq_zero_or_pos A.length with h0 | h0
  · rw [if_neg (by omega), if_neg (by omega)]
  · rw [List.getElem?_append_left (by omega)]
theorem jn_sep (A : List UInt8) : jnTo (A ++ [95]) (A ++ [95]).length = jnTo A A.length := by
  rw [List.length_append, List.length_singleton]
  show (if (A ++ [95])[A.length]?.getD 0 = 95 then _ else _) = _
  rw [List.getElem?_concat_length, Option.getD_some, if_pos rfl, jnTo_take A [95] _ (Nat.le_refl _)]
def jnL (ys : List Int) (k : Nat) : List Int := ((List.range k).filter fun i : Nat => decide (0 < i ∧ (i : Int) ∈ ys)).map fun i : Nat => (i : Int)
theorem jnL_succ (ys : List Int) (k : Nat) : jnL ys (k + 1) = jnL ys k ++ (if 0 < k ∧ (k : Int) ∈ ys then [(k : Int)] else []) := by
  unfold jnL
  rw [List.range_succ, List.filter_append, List.map_append]
  by_cases h : 0 < k ∧ (k : Int) ∈ ys
  · simp [h]
  · simp [h]
theorem dgs_one (l : List UInt8) (x : UInt8) (hx : x ≠ 95) : dgs (l ++ [x]) = dgs l ++ [x] := by rw [dgs_snoc, if_neg hx]
theorem dgs_sep (l : List UInt8) : dgs (l ++ [95]) = dgs l := by rw [dgs_snoc, if_pos rfl]
theorem join_back (d : List UInt8) (ys : List Int) (hd : ∀ x ∈ d, x ≠ 95) : ∀ k, k ≤ d.length → dgs (joinT d ys k) = d.take k ∧ jnTo (joinT d ys k) (joinT d ys k).length = jnL ys k ∧ (0 < k → 0 < (joinT d ys k).length ∧ (joinT d ys k)[(joinT d ys k).length - 1]?.getD 0 ≠ 95) := by
  intro k
  induction k with
  | zero => intro _; exact ⟨rfl, rfl, fun h => by omega⟩
  | succ k ih =>
    intro hk
    obtain ⟨h1, h2, h3⟩ := ih (by omega)
    have hx : d[k]?.getD 0 = d[k] := by rw [List.getElem?_eq_getElem (by omega)]; rfl
    have hne := hd d[k] (List.getElem_mem (by omega))
    have hlast : ∀ L : List UInt8, 0 < (L ++ [d[k]]).length ∧ (L ++ [d[k]])[(L ++ [d[k]]).length - 1]?.getD 0 ≠ 95 := fun L => by
      refine ⟨by simp, ?_⟩
      rw [show (L ++ [d[k]]).length - 1 = L.length by simp, List.getElem?_concat_length]
      exact hne
    unfold joinT
    rw [hx]
    by_cases hs : 0 < k ∧ (k : Int) ∉ ys
    · rw [if_pos hs]
      refine ⟨?_, ?_, fun _ => hlast _⟩
      · rw [dgs_one _ _ hne, dgs_sep, h1, List.take_succ_eq_append_getElem (by omega)]
      · rw [jn_one _ _ hne, if_neg (by simp), jn_sep, h2, jnL_succ, if_neg (fun h => hs.2 h.2), List.append_nil]
    · rw [if_neg hs, List.append_nil]
      refine ⟨?_, ?_, fun _ => hlast _⟩
      · rw [dgs_one _ _ hne, h1, List.take_succ_eq_append_getElem (by omega)]
      · rw [jn_one _ _ hne, h2, jnL_succ, h1]
        rcases Nat.eq_zero_or_pos k with h0 | h0
        · subst h0
          rw [if_neg (by intro h; have := h.1; simp [joinT] at this), if_neg (by omega), List.append_nil]
        · have hin : (k : Int) ∈ ys := by
            rcases Classical.em ((k : Int) ∈ ys) with h | h
            · exact h
            · exact absurd ⟨h0, h⟩ hs
          rw [if_pos (h3 h0), if_pos ⟨h0, hin⟩, List.length_take, Nat.min_eq_left (by omega)]
theorem dig_facts {x : Int} (h1 : 1 ≤ x) (h2 : x ≤ 8) : dig x ≠ 95 ∧ dig x ≠ 45 ∧ ((dig x).toNat : Int) - 48 = x := by
  obtain h | h | h | h | h | h | h | h : x = 1 ∨ x = 2 ∨ x = 3 ∨ x = 4 ∨ x = 5 ∨ x = 6 ∨ x = 7 ∨ x = 8 := by omega
  all_goals subst h; decide
theorem perm_dig {xs : List Int} (hp : permB xs = true) {x : Int} (hx : x ∈ xs) : 1 ≤ x ∧ x ≤ 8 := by
  have h8 := (permB_true hp).1
  obtain ⟨i, h1, h2, rfl⟩ := mem_at1 hx
  have := perm_rng hp h1 h2
  omega
theorem pp_text {xs : List Int} (hp : permB xs = true) : (∀ x ∈ textD xs, x ≠ 95) ∧ ppB (textD xs) = true ∧ ppG (textD xs) = xs := by
  unfold textD
  by_cases h0 : xs = []
  · rw [if_pos h0]
    subst h0
    refine ⟨by decide, rfl, rfl⟩
  · rw [if_neg h0]
    have hl : ppL (xs.map dig) = xs := by
      unfold ppL
      rw [List.map_map]
      refine (List.map_congr_left (g := id) fun x hx => ?_).trans (List.map_id _)
      exact (dig_facts (perm_dig hp hx).1 (perm_dig hp hx).2).2.2
    have hne : xs.map dig ≠ [] := by simpa using h0
    have h45 : xs.map dig ≠ [45] := by
      intro h
      cases xs with
      | nil => exact h0 rfl
      | cons a u =>
        have := perm_dig hp (x := a) (by simp)
        have h2 := (dig_facts this.1 this.2).2.1
        simp at h
        exact h2 h.1
    have hb : ppB (xs.map dig) = true := by
      unfold ppB
      rw [hl, hp]
      simp [h0]
    refine ⟨fun x hx => ?_, hb, by rw [ppG, if_pos hb, if_neg h45, hl]⟩
    obtain ⟨y, hy, rfl⟩ := List.mem_map.1 hx
    exact (dig_facts (perm_dig hp hy).1 (perm_dig hp hy).2).1
theorem jnL_mem {ys : List Int} {k : Nat} {x : Int} : x ∈ jnL ys k ↔ 1 ≤ x ∧ x < k ∧ x ∈ ys := by
  unfold jnL
  rw [List.mem_map]
  constructor
  · rintro ⟨i, hi, rfl⟩
    obtain ⟨a, b⟩ := List.mem_filter.1 hi
    have a := List.mem_range.1 a
    have b := of_decide_eq_true b
    exact ⟨by omega, by omega, b.2⟩
  · rintro ⟨h1, h2, h3⟩
    exact ⟨x.toNat, List.mem_filter.2 ⟨List.mem_range.2 (by omega), decide_eq_true ⟨by omega, by rw [show ((x.toNat : Nat) : Int) = x by omega]; exact h3⟩⟩, by omega⟩
theorem jnL_inc (ys : List Int) (k : Nat) : (jnL ys k).Pairwise (· < ·) := by
  unfold jnL
  rw [List.pairwise_map]
  exact (List.pairwise_lt_range.sublist List.filter_sublist).imp fun h => by omega
/-- ParseNear gives back what NearText has told. -/
theorem near_back {xs ys : List Int} (h : nearB xs ys = true) : pnOk ((ntext xs ys).data.toList) = true ∧ pnG1 ((ntext xs ys).data.toList) = xs ∧ pnG2 ((ntext xs ys).data.toList) = ys := by
  obtain ⟨hp, hi, hr⟩ := near_parts h
  obtain ⟨h95, hB, hG⟩ := pp_text hp
  have hT : (ntext xs ys).data.toList = joinT (textD xs) ys (textD xs).length := by unfold ntext; rw [if_pos h]; simp [bs]
  obtain ⟨h1, h2, _⟩ := join_back (textD xs) ys h95 _ (Nat.le_refl _)
  rw [List.take_length] at h1
  have hJ : jnL ys (textD xs).length = ys := inc_ext (jnL_inc _ _) hi fun x => by
    rw [jnL_mem]
    constructor
    · exact fun h => h.2.2
    · intro hx
      have := hr x hx
      have hl : xs.length ≤ (textD xs).length := by
        unfold textD
        split
        · rename_i h0; subst h0; simp
        · simp
      exact ⟨this.1, by omega, hx⟩
  rw [hJ] at h2
  have hOk : pnOk ((ntext xs ys).data.toList) = true := by
    unfold pnOk pnT
    rw [hT, h1, hB, hG, h2, hT]
    simp
  refine ⟨hOk, ?_, ?_⟩
  · rw [pnG1, if_pos hOk, hT, h1, hG]
  · rw [pnG2, if_pos hOk, hT, h2]
theorem near_not {xs ys : List Int} (h : nearB xs ys = false) : pnOk ((ntext xs ys).data.toList) = false := by
  have hT : (ntext xs ys).data.toList = [] := by unfold ntext; rw [if_neg (by simp [h])]; simp [bs]
  rw [hT]
  rfl
end Go.Proofs.YtfcgohhmpgffjaaGreatDoor

/- ParseNear of the program. -/
namespace Go.Proofs.YtfcgohhmpgffjaaGreatDoor
set_option maxRecDepth 100000
open Go Go.RowKit

theorem own_iterAt {w : World} {base e n : Nat} {v : Value} {xs : List Value} (h : w.ownsRow base e 1 v n xs) {K p : Nat} {s : ByteArray} (hK : w.heap[K]? = some (.stringIter s p)) (q : Nat) : (w.iterAt K s q).ownsRow base e 1 v n xs := by
  obtain ⟨h1, h2⟩ := h
  refine ⟨h1, ?_⟩
  rcases h2 with h2 | ⟨g, cap, cur, a, b, c, d⟩
  · exact .inl h2
  · refine .inr ⟨g, cap, cur, a, b, ?_, d⟩
    rw [Lib.iterAt_other _ _ _ _ _ (fun e => by subst e; rw [hK] at c; cases c)]
    exact c
theorem dgs_pos {l : List UInt8} {k : Nat} (hk : 0 < k) (hkl : k ≤ l.length) (hy : l[k - 1]?.getD 0 ≠ 95) : 0 < (dgs (l.take k)).length := by
  have hm : l[k - 1]'(by omega) ∈ l.take k := by
    rw [List.mem_take_iff_getElem]
    exact ⟨k - 1, by omega, rfl⟩
  rw [List.getElem?_eq_getElem (by omega)] at hy
  exact List.length_pos_of_mem (List.mem_filter.2 ⟨hm, by simpa using hy⟩)
set_option maxHeartbeats 4000000 in
theorem parseNear_impl (l : List UInt8) (m : Int) (w : World) (hs : l.length ≤ 1048576) (hm : w.cell? ⟨0, 0, none⟩ = some (.int .i64 m)) :
    Calls Tryz.prog 8 #[.string (bs l)] w (RetNb w (pnG1 l) (pnG2 l) (pnOk l)) := by
  obtain ⟨i0, hi, hz0, hz1, hz2⟩ := info_parts infoI
  have hbz := bs_size l
  have hbd := bs_size (dgs l)
  have hdl0 := dgs_len l
  have hb0 : Below w.heap.size w (w.alloc (Obj.cells #[Value.slice none 0 0, Value.slice none 0 0] 26)) := (Below.refl _ _).alloc (Nat.le_refl _) _
  have or0 := obj_new w (Obj.cells #[Value.slice none 0 0, Value.slice none 0 0] 26)
  have hzw : (w.alloc (Obj.cells #[Value.slice none 0 0, Value.slice none 0 0] 26)).heap.size = w.heap.size + 1 := by simp
  have hm0 : (w.alloc (Obj.cells #[Value.slice none 0 0, Value.slice none 0 0] 26)).cell? ⟨0, 0, none⟩ = some (.int .i64 m) := (World.cell?_alloc_old _ _ _ (Nat.ne_of_lt (World.block_lt_of_cell? _ _ hm))).trans hm
  have HCR := Lib.hid (show ∀ W : World, W.cell? ⟨0, 0, none⟩ = some (.int .i64 m) → Calls Tryz.prog 33 #[.string (bs l), .string { data := #[95] }, .string { data := #[] }] W (fun e w' => e = .returned (.string (bs (dgs l))) ∧ Below W.heap.size W w') from fun W hW => by
    refine (Tryz.strings_ReplaceAll (bs l) { data := #[95] } { data := #[] } m W (by omega) hW (by decide) (by rw [show ({ data := #[] } : ByteArray).size = 0 from rfl, Nat.mul_zero]; omega)).mono ?_
    rintro e w' ⟨rfl, hb⟩
    refine ⟨?_, hb⟩
    have e1 : (bs l).data.toList = l := by simp [bs]
    rw [e1, show ({ data := #[95] } : ByteArray).data.toList = [95] from rfl, show ({ data := #[] } : ByteArray).data.toList = [] from rfl, replaceAll_dgs]
    rfl)
  clear hm
  go_enter Tryz.func8, Tryz.ntmps8
  go_wp2_with fail
  generalize (w.alloc (Obj.cells #[Value.slice none 0 0, Value.slice none 0 0] 26)) = w0 at hb0 or0 hzw hm0 ⊢
  (with_reducible refine (HCR.out w0 hm0).mono ?_)
  rintro e w1 ⟨rfl, hb1⟩
  have or1 := obj_below or0 hb1 (obj_lt or0)
  have hbw1 := hb0.trans (hb1.mono hb0.size)
  have hs1 := hb1.size
  have HC := Lib.hid (show Calls Tryz.prog 32 #[.string (bs (dgs l))] w1 (Ret2 (Value.int .i64) 3 w1 (ppG (dgs l)) (ppB (dgs l))) from by
    have := parsePerm_impl (bs (dgs l)) w1 (by rw [bs_size]; omega)
    have e : (bs (dgs l)).data.toList = dgs l := by unfold bs; simp
    rw [e] at this
    exact this)
  clear hb0 or0 hm0 HCR hb1
  go_wp2_with fail
  (with_reducible refine HC.out.mono ?_)
  rintro e w4 ⟨P, pc, rfl, _, _, ownP, hb4⟩
  have or4 := obj_below or1 hb4 (obj_lt or1)
  have hbw4 := hbw1.trans (hb4.mono hbw1.size)
  have hs4 := hb4.size
  clear or1 hbw1 HC hb4
  by_cases hp : ppB (dgs l) = true
  · have HPP := Lib.hid hp
    have HAS := Lib.hid (pp_ascii hp)
    rw [hp]
    clear hp
    have og5 := obj_new w4 (Obj.cells #[Value.slice P (ppG (dgs l)).length pc, Value.slice none 0 0] 26)
    have or5 := obj_alloc or4 (Obj.cells #[Value.slice P (ppG (dgs l)).length pc, Value.slice none 0 0] 26)
    have oP5 := ownP.alloc (Obj.cells #[Value.slice P (ppG (dgs l)).length pc, Value.slice none 0 0] 26)
    have hb5 := hbw4.alloc hbw4.size (Obj.cells #[Value.slice P (ppG (dgs l)).length pc, Value.slice none 0 0] 26)
    have hz5 : (w4.alloc (Obj.cells #[Value.slice P (ppG (dgs l)).length pc, Value.slice none 0 0] 26)).heap.size = w4.heap.size + 1 := by simp
    have og6 : ((w4.alloc (Obj.cells #[Value.slice P (ppG (dgs l)).length pc, Value.slice none 0 0] 26)).iter (bs l) 0).heap[w4.heap.size]? = some (Obj.cells #[Value.slice P (ppG (dgs l)).length pc, Value.slice none 0 0] 26) := obj_alloc og5 (.stringIter (bs l) 0)
    have or6 : ((w4.alloc (Obj.cells #[Value.slice P (ppG (dgs l)).length pc, Value.slice none 0 0] 26)).iter (bs l) 0).heap[w.heap.size]? = some (Obj.cells #[Value.slice none 0 0, Value.slice none 0 0] 26) := obj_alloc or5 (.stringIter (bs l) 0)
    have oP6 : ((w4.alloc (Obj.cells #[Value.slice P (ppG (dgs l)).length pc, Value.slice none 0 0] 26)).iter (bs l) 0).ownsRow w1.heap.size 3 1 (.slice P (ppG (dgs l)).length pc) (ppG (dgs l)).length ((ppG (dgs l)).map (Value.int .i64)) := oP5.alloc (.stringIter (bs l) 0)
    have hb6 : Below w.heap.size w ((w4.alloc (Obj.cells #[Value.slice P (ppG (dgs l)).length pc, Value.slice none 0 0] 26)).iter (bs l) 0) := hb5.alloc hb5.size (.stringIter (bs l) 0)
    have oK6 : ((w4.alloc (Obj.cells #[Value.slice P (ppG (dgs l)).length pc, Value.slice none 0 0] 26)).iter (bs l) 0).heap[w4.heap.size + 1]? = some (.stringIter (bs l) 0) := by
      have := World.iter_heap (w4.alloc (Obj.cells #[Value.slice P (ppG (dgs l)).length pc, Value.slice none 0 0] 26)) (bs l) 0
      rwa [hz5] at this
    have hz6 : ((w4.alloc (Obj.cells #[Value.slice P (ppG (dgs l)).length pc, Value.slice none 0 0] 26)).iter (bs l) 0).heap.size = w4.heap.size + 1 + 1 := by show (World.alloc _ _).heap.size = _; simp
    have lP : ∀ q, (Value.slice P (ppG (dgs l)).length pc).ownBlock = some q → w1.heap.size ≤ q ∧ q < w4.heap.size := fun q hq => ownP.lt q hq
    clear og5 or5 oP5 hb5 hz5 ownP or4
    go_wp2_with fail
    generalize ((w4.alloc (Obj.cells #[Value.slice P (ppG (dgs l)).length pc, Value.slice none 0 0] 26)).iter (bs l) 0) = w6 at og6 or6 oP6 hb6 oK6 hz6 ⊢
    obtain ⟨g, hg⟩ : ∃ g, g = w4.heap.size := ⟨_, rfl⟩
    rw [← hg] at og6 oK6 hz6 hs4 lP ⊢
    have hwg : w.heap.size < g := by omega
    have hw1g : w1.heap.size ≤ g := hs4
    clear hg
    go_loopw [7] (fun v wr => ∃ (k : Nat) (D : Option Addr) (d n : Nat), k ≤ l.length ∧ v = .int .i64 ((dgs (l.take k)).length : Int) ∧ Hid (n = (jnTo l k).length) ∧ wr.heap[g + 1]? = some (.stringIter (bs l) k) ∧ wr.heap[g]? = some (Obj.cells #[Value.slice P (ppG (dgs l)).length pc, Value.slice D n d] 26) ∧
      wr.heap[w.heap.size]? = some (Obj.cells #[Value.slice none 0 0, Value.slice none 0 0] 26) ∧ wr.ownsRow w1.heap.size 3 1 (.slice P (ppG (dgs l)).length pc) (ppG (dgs l)).length ((ppG (dgs l)).map (Value.int .i64)) ∧ wr.ownsRow (g + 2) 3 1 (.slice D n d) n ((jnTo l k).map (Value.int .i64)) ∧ Below w.heap.size w wr ∧ g + 2 ≤ wr.heap.size) (fun _ wr => l.length - wr.iterPos (g + 1))
    case atStart => exact ⟨0, none, 0, 0, Nat.zero_le _, rfl, Lib.hid rfl, oK6, og6, or6, oP6, World.ownsRow_nil _ _ _ _, hb6, by omega⟩
    case round =>
      clear oK6 og6 or6 oP6 hb6 hz6
      obtain ⟨k, D, d, n, hk, rfl, HN, oK, og, or_, oP, hO, hb, hgs⟩ := hrel
      have hn : n ≤ k := by rw [HN.out]; exact jnTo_le l k
      have hmu : wr.iterPos (g + 1) = k := by simp [World.iterPos, oK]
      have hgs' : g < wr.heap.size := by omega
      rcases Nat.lt_or_ge k l.length with hlt | hge
      · have hltb : k < (bs l).size := by rw [bs_size]; exact hlt
        obtain ⟨x, hx⟩ : ∃ x : UInt8, x = l[k] := ⟨_, rfl⟩
        have hx3 : (bs l)[k]'hltb = x := by rw [bs_get l k hlt]; exact hx.symm
        have h128 : ((bs l)[k]'hltb).toNat < 128 := by rw [hx3, hx]; exact HAS.out _ (List.getElem_mem hlt)
        have hnext : ∀ ty, (Instr.next (.pointer (some ⟨g + 1, 0, none⟩)) true ty).run Tryz.prog wr = _ := fun ty => Lib.run_next_ascii_at wr (g + 1) (bs l) k ty oK hltb h128
        have oK1 := Lib.iterAt_heap wr (g + 1) (bs l) k (k + 1) oK
        have og1 : (wr.iterAt (g + 1) (bs l) (k + 1)).heap[g]? = some (Obj.cells #[Value.slice P (ppG (dgs l)).length pc, Value.slice D n d] 26) := (Lib.iterAt_other wr (g + 1) g (bs l) (k + 1) (by omega)).trans og
        have or1 : (wr.iterAt (g + 1) (bs l) (k + 1)).heap[w.heap.size]? = some (Obj.cells #[Value.slice none 0 0, Value.slice none 0 0] 26) := (Lib.iterAt_other wr (g + 1) w.heap.size (bs l) (k + 1) (by omega)).trans or_
        have oP1 := own_iterAt oP oK (k + 1)
        have hO1 := own_iterAt hO oK (k + 1)
        have hb1 : Below w.heap.size w (wr.iterAt (g + 1) (bs l) (k + 1)) := Lib.below_iterAt hb (by omega) (bs l) (k + 1)
        have hz1' : (wr.iterAt (g + 1) (bs l) (k + 1)).heap.size = wr.heap.size := Lib.iterAt_size wr (g + 1) (bs l) (k + 1)
        have HMU := Lib.hid hmu
        generalize wr.iterAt (g + 1) (bs l) (k + 1) = W1 at hnext oK1 og1 or1 oP1 hO1 hb1 hz1'
        have hgs1 : g + 2 ≤ W1.heap.size := by omega
        have hT : l.take (k + 1) = l.take k ++ [x] := (List.take_succ_eq_append_getElem hlt).trans (congrArg (fun z => l.take k ++ [z]) hx.symm)
        have hxg : l[k]?.getD 0 = x := by rw [List.getElem?_eq_getElem hlt]; exact hx.symm
        have hlt' : (k : Int) < (l.length : Int) := by omega
        have hk0 : (0 : Int) ≤ (k : Int) := by omega
        obtain ⟨dn, hdn⟩ : ∃ dn, dn = (dgs (l.take k)).length := ⟨_, rfl⟩
        have hdl : dn ≤ k := by rw [hdn]; exact Nat.le_trans (dgs_len _) (by simp; omega)
        rw [← hdn]
        have e1 : IntKind.i64.wrap ((dn : Int) + 1) = (dn : Int) + 1 := IntWalk.i64_in _ (by omega)
        have e2 : IntKind.i64.wrap ((dn : Int) + 1 - 1) = (dn : Int) := by rw [IntWalk.i64_in _ (by omega)]; omega
        clear hx oK og or_ oP hO hb hz1'
        by_cases h95 : x = 95
        · have dx : ((x.toNat : Int) == 95) = true := by rw [h95]; rfl
          have HD := Lib.hid (show (dgs (l.take (k + 1))).length = dn by rw [hT, dgs_snoc, if_pos h95, hdn])
          have HJ := Lib.hid (show jnTo l (k + 1) = jnTo l k by rw [jnTo, hxg, if_pos h95])
          have K := Lib.hid (And.intro oK1 (And.intro og1 (And.intro or1 (And.intro oP1 (And.intro hO1 (And.intro hb1 hgs1))))))
          clear h95 hT hxg hmu hdn oK1 og1 or1 oP1 hO1 hb1
          go_wp2_with fail
          go_roundw
          case rel => exact ⟨k + 1, D, d, n, by omega, by rw [HD.out], Lib.hid (by rw [HJ.out]; exact HN.out), K.out.1, K.out.2.1, K.out.2.2.1, K.out.2.2.2.1, by rw [HJ.out]; exact K.out.2.2.2.2.1, K.out.2.2.2.2.2.1, K.out.2.2.2.2.2.2⟩
          case measure => rw [iterPos_of K.out.1, HMU.out]; omega
        · have dx : ((x.toNat : Int) == 95) = false := by simp; intro h; exact h95 (UInt8.toNat_inj.1 (by show x.toNat = 95; omega))
          have HD := Lib.hid (show (dgs (l.take (k + 1))).length = dn + 1 by rw [hT, dgs_snoc, if_neg h95, List.length_append, ← hdn]; rfl)
          obtain ⟨y, hy⟩ : ∃ y : UInt8, y = l[k - 1]?.getD 0 := ⟨_, rfl⟩
          have hkm : k - 1 < l.length := by omega
          have hy3 : (bs l)[k - 1]'(by rw [bs_size]; exact hkm) = y := by rw [bs_get l (k - 1) hkm, hy, List.getElem?_eq_getElem hkm]; rfl
          by_cases hj : 0 < k ∧ y ≠ 95
          · have hdp : 0 < dn := by rw [hdn]; exact dgs_pos hj.1 (by omega) (by rw [← hy]; exact hj.2)
            have HJ := Lib.hid (show jnTo l (k + 1) = jnTo l k ++ [(dn : Int)] by rw [jnTo, hxg, if_neg h95, if_pos (by rw [← hy]; exact hj), ← hdn])
            have dk : decide ((dn : Int) + 1 > 1) = true := decide_eq_true (by omega)
            have dk' : decide (1 < (dn : Int) + 1) = true := decide_eq_true (by omega)
            have dy : ((y.toNat : Int) != 95) = true := by simp; intro h; exact hj.2 (UInt8.toNat_inj.1 (by show y.toNat = 95; omega))
            have e4 : IntKind.i64.wrap ((k : Int) - 1) = (k : Int) - 1 := IntWalk.i64_in _ (by omega)
            have e5 : ((k : Int) - 1).toNat = k - 1 := by omega
            have q1 : (0 : Int) ≤ (k : Int) - 1 := by omega
            have q2 : (k : Int) - 1 < (l.length : Int) := by omega
            have f1 : W1.cell? ⟨g, 1, none⟩ = some (Value.slice D n d) := (obj_cell og1).trans rfl
            have hlim : ∀ q, (Value.slice D n d).ownBlock = some q → g + 2 ≤ q ∧ q < W1.heap.size := fun q hq => hO1.lt q hq
            have hsW := hb1.size
            clear hj hT hxg h95 hy hdn hmu
            go_wp2_with ((at_builtin; refine wpList_append_own _ rfl _ _ 24 rfl (g + 2) 3 i0 (.int .i64 0) 1 8 Tryz.underlying24 hi hz0 hz1 hz2 rfl (by decide) _ _ _ rfl (World.ownsRow.alloc hO1 _) ⟨W1.heap.size, 0, none⟩ 1 1 [.int .i64 ((dn : Int))] rfl rfl (cell_one_new _ _ _) (by intro u hu; simp at hu; subst hu; rfl) (by unfold maxLen; omega) (by omega) (by simp; omega) ?_; intro v1 w1 hown1 hgrow1 _)
                         obtain ⟨D2, d2, rfl, _, _⟩ := own_shape hown1
                         have ogr := obj_alloc og1 (Obj.cells #[Value.int .i64 (dn : Int)] 3)
                         have orr := obj_alloc or1 (Obj.cells #[Value.int .i64 (dn : Int)] 3)
                         have oKr := obj_alloc oK1 (Obj.cells #[Value.int .i64 (dn : Int)] 3)
                         have oPr := oP1.alloc (Obj.cells #[Value.int .i64 (dn : Int)] 3)
                         have og2 := (hgrow1.block _ (obj_lt ogr) (by intro he; have := hlim _ he.symm; omega)).trans ogr
                         have or2 := (hgrow1.block _ (obj_lt orr) (by intro he; have := hlim _ he.symm; omega)).trans orr
                         have oK2 := (hgrow1.block _ (obj_lt oKr) (by intro he; have := hlim _ he.symm; omega)).trans oKr
                         have f3 : w1.cell? ⟨g, 1, none⟩ = some (Value.slice D n d) := (obj_cell og2).trans rfl
                         have f4 : w1.frozen? ⟨g, 1, none⟩ = false := obj_frozen og2)
            have hbr := hb1.alloc hb1.size (Obj.cells #[Value.int .i64 (dn : Int)] 3)
            have oP2 := oPr.kept hgrow1 (own_off (lim := g) (fun q hq => (lP q hq).2) (fun q hq => by have := hlim q hq; omega))
            have hb2 := hbr.grown hgrow1 (by simp; omega) (fun q hq => by have := hlim q hq; omega)
            have hsp : Span g (g + 1) w1 (w1.setCell ⟨g, 1, none⟩ (Value.slice D2 (n + 1) d2)) := Span.set (p := ⟨g, 1, none⟩) (Nat.le_refl _) (Nat.lt_succ_self _) _
            have hO2 : w1.ownsRow (g + 2) 3 1 (.slice D2 (n + 1) d2) (n + 1) ((jnTo l (k + 1)).map (Value.int .i64)) := by rw [HJ.out]; simpa using hown1
            have hO3 := own_span hO2 hsp (fun q hq => by have := (hO2.lt q hq).1; omega)
            have oP3 := own_span oP2 hsp (fun q hq => .inl (lP q hq).2)
            have og3 := obj_set (i := 1) og2 (Value.slice D2 (n + 1) d2)
            have or3 := obj_other (g' := g) (i := 1) or2 (by omega) (Value.slice D2 (n + 1) d2)
            have oK3 := obj_other (g' := g) (i := 1) oK2 (by omega) (Value.slice D2 (n + 1) d2)
            have hb3 := hb2.setCell (p := ⟨g, 1, none⟩) (by show w.heap.size ≤ g; omega) (Value.slice D2 (n + 1) d2)
            have hs3 : g + 2 ≤ (w1.setCell ⟨g, 1, none⟩ (Value.slice D2 (n + 1) d2)).heap.size := by have h1 := hgrow1.size; have h2 := hsp.size; simp at h1; omega
            have K := Lib.hid (And.intro oK3 (And.intro og3 (And.intro or3 (And.intro oP3 (And.intro hO3 (And.intro hb3 hs3))))))
            clear oK3 og3 or3 oP3 hO3 hb3 hs3 hsp hO2 hb2 hbr hown1 hgrow1 og2 or2 oK2 ogr orr oKr oPr oP2 f3 f4 f1 hO1 og1 or1 oK1 oP1 hb1 hlim
            go_wp2_with fail
            go_roundw
            case rel => exact ⟨k + 1, D2, d2, n + 1, by omega, by rw [HD.out]; go_num, Lib.hid (by rw [HJ.out, List.length_append, ← HN.out]; rfl), K.out.1, K.out.2.1, K.out.2.2.1, K.out.2.2.2.1, K.out.2.2.2.2.1, K.out.2.2.2.2.2.1, K.out.2.2.2.2.2.2⟩
            case measure => rw [iterPos_of K.out.1, HMU.out]; omega
          · have HJ := Lib.hid (show jnTo l (k + 1) = jnTo l k by rw [jnTo, hxg, if_neg h95, if_neg (by rw [← hy]; exact hj)])
            have K := Lib.hid (And.intro oK1 (And.intro og1 (And.intro or1 (And.intro oP1 (And.intro hO1 (And.intro hb1 hgs1))))))
            rcases Nat.eq_zero_or_pos dn with hd0 | hd0
            · have dk : decide ((dn : Int) + 1 > 1) = false := decide_eq_false (by omega)
              have dk' : decide (1 < (dn : Int) + 1) = false := decide_eq_false (by omega)
              clear hj hT hxg h95 hy hdn hmu oK1 og1 or1 oP1 hO1 hb1 hy3 hd0
              go_wp2_with fail
              go_roundw
              case rel => exact ⟨k + 1, D, d, n, by omega, by rw [HD.out]; go_num, Lib.hid (by rw [HJ.out]; exact HN.out), K.out.1, K.out.2.1, K.out.2.2.1, K.out.2.2.2.1, by rw [HJ.out]; exact K.out.2.2.2.2.1, K.out.2.2.2.2.2.1, K.out.2.2.2.2.2.2⟩
              case measure => rw [iterPos_of K.out.1, HMU.out]; omega
            · have hkp : 0 < k := by omega
              have hy95 : y = 95 := by
                by_cases h : y = 95
                · exact h
                · exact absurd ⟨hkp, h⟩ hj
              have dk : decide ((dn : Int) + 1 > 1) = true := decide_eq_true (by omega)
              have dk' : decide (1 < (dn : Int) + 1) = true := decide_eq_true (by omega)
              have dy : ((y.toNat : Int) != 95) = false := by rw [hy95]; rfl
              have e4 : IntKind.i64.wrap ((k : Int) - 1) = (k : Int) - 1 := IntWalk.i64_in _ (by omega)
              have e5 : ((k : Int) - 1).toNat = k - 1 := by omega
              have q1 : (0 : Int) ≤ (k : Int) - 1 := by omega
              have q2 : (k : Int) - 1 < (l.length : Int) := by omega
              clear hj hT hxg h95 hy hdn hmu oK1 og1 or1 oP1 hO1 hb1 hy95
              go_wp2_with fail
              go_roundw
              case rel => exact ⟨k + 1, D, d, n, by omega, by rw [HD.out]; go_num, Lib.hid (by rw [HJ.out]; exact HN.out), K.out.1, K.out.2.1, K.out.2.2.1, K.out.2.2.2.1, by rw [HJ.out]; exact K.out.2.2.2.2.1, K.out.2.2.2.2.2.1, K.out.2.2.2.2.2.2⟩
              case measure => rw [iterPos_of K.out.1, HMU.out]; omega
      · obtain rfl : k = l.length := by omega
        have hnext : ∀ ty, (Instr.next (.pointer (some ⟨g + 1, 0, none⟩)) true ty).run Tryz.prog wr = _ := fun ty => Lib.run_next_end_at wr (g + 1) (bs l) l.length ty oK (by rw [bs_size]; omega)
        have k0 : wr.cell? ⟨g, 0, none⟩ = some (Value.slice P (ppG (dgs l)).length pc) := (obj_cell og).trans rfl
        have k1 : wr.cell? ⟨g, 1, none⟩ = some (Value.slice D n d) := (obj_cell og).trans rfl
        have hnJ := HN.out
        subst hnJ
        have hgl := (ppG_len (dgs l)).2
        have hjl := jnTo_le l l.length
        have hin : InN wr P pc (ppG (dgs l)) D d (jnTo l l.length) := ⟨In.own oP (by omega), In.own hO (by omega)⟩
        have HNT := Lib.hid (nearText_impl P D pc d (ppG (dgs l)) (jnTo l l.length) wr hin)
        have HO := Lib.hid (And.intro oP (And.intro hO hb))
        clear hin oP hO hb oK
        go_wp2_with fail
        (with_reducible refine HNT.out.mono ?_)
        rintro e w8 ⟨rfl, hb8⟩
        have og8 := obj_below og hb8 (obj_lt og)
        have or8 := obj_below or_ hb8 (obj_lt or_)
        have hbw8 := HO.out.2.2.trans (hb8.mono HO.out.2.2.size)
        have k0 : w8.cell? ⟨g, 0, none⟩ = some (Value.slice P (ppG (dgs l)).length pc) := (obj_cell og8).trans rfl
        have k1 : w8.cell? ⟨g, 1, none⟩ = some (Value.slice D (jnTo l l.length).length d) := (obj_cell og8).trans rfl
        have c0 : w8.cell? ⟨w.heap.size, 0, none⟩ = some (Value.slice none 0 0) := (obj_cell or8).trans rfl
        have c1 : w8.cell? ⟨w.heap.size, 1, none⟩ = some (Value.slice none 0 0) := (obj_cell or8).trans rfl
        have c2 : w8.frozen? ⟨w.heap.size, 0, none⟩ = false := obj_frozen or8
        have c3 : w8.frozen? ⟨w.heap.size, 1, none⟩ = false := obj_frozen or8
        by_cases hq : (pnT l).data.toList = l
        · have dq : ((ntext (ppG (dgs l)) (jnTo l l.length)).toList == (bs l).toList) = true := by
            rw [ByteArray.toList_eq, ByteArray.toList_eq, show (ntext (ppG (dgs l)) (jnTo l l.length)).data.toList = l from hq]
            simp [bs]
          have dq' : ((ntext (ppG (dgs l)) (jnTo l l.length)).toList != (bs l).toList) = false := by simp only [bne, dq]; rfl
          have H0 := Lib.hid (show pnOk l = true by unfold pnOk; rw [HPP.out, decide_eq_true hq]; rfl)
          have H1 := Lib.hid (show pnG1 l = ppG (dgs l) by unfold pnG1; rw [if_pos H0.out])
          have H2 := Lib.hid (show pnG2 l = jnTo l l.length by unfold pnG2; rw [if_pos H0.out])
          have o9 := obj_set (i := 1) (obj_set (i := 0) or8 (Value.slice P (ppG (dgs l)).length pc)) (Value.slice D (jnTo l l.length).length d)
          have hsp : Span w.heap.size (w.heap.size + 1) w8 ((w8.setCell ⟨w.heap.size, 0, none⟩ (Value.slice P (ppG (dgs l)).length pc)).setCell ⟨w.heap.size, 1, none⟩ (Value.slice D (jnTo l l.length).length d)) :=
            (Span.set (p := ⟨w.heap.size, 0, none⟩) (Nat.le_refl _) (Nat.lt_succ_self _) _).trans (Span.set (p := ⟨w.heap.size, 1, none⟩) (Nat.le_refl _) (Nat.lt_succ_self _) _)
          have hJ8 := own_below HO.out.2.1 hb8
          have hP8 := own_below HO.out.1 hb8
          have own : Own w8 w1.heap.size w8.heap.size [⟨P, pc, ppG (dgs l)⟩, ⟨D, d, jnTo l l.length⟩] [] :=
            ((Own.one hP8 (Nat.le_refl _)).lim (g + 2) (fun r hr => by obtain rfl := List.mem_singleton.1 hr; exact fun q hq => by have := (lP q hq).2; omega)).app ((Own.one hJ8 (Nat.le_refl _))) (by omega) (by have := hb8.size; omega)
          have own := own.span hsp (.inr (by omega))
          have hb9 := (hbw8.setCell (p := ⟨w.heap.size, 0, none⟩) (by simp) (Value.slice P (ppG (dgs l)).length pc)).setCell (p := ⟨w.heap.size, 1, none⟩) (by simp) (Value.slice D (jnTo l l.length).length d)
          have l0 := (obj_cell (i := 0) o9).trans rfl
          have l1 := (obj_cell (i := 1) o9).trans rfl
          have hz9 := hsp.size
          clear hsp hq hJ8 hP8
          go_wp2_with fail
          refine bodyPost_ret (v := .tuple #[.agg #[.slice P (ppG (dgs l)).length pc, .slice D (jnTo l l.length).length d], .bool true]) (by simp [results, Tryz.results8, go_sem, l0, l1]) rfl ?_
          rw [H1.out, H2.out, H0.out]
          exact ⟨_, _, _, _, rfl, own.wider (by omega) (by omega), hb9⟩
        · have dq : ((ntext (ppG (dgs l)) (jnTo l l.length)).toList == (bs l).toList) = false := by
            rw [ByteArray.toList_eq, ByteArray.toList_eq]
            have e2 : (bs l).data.toList = l := by simp [bs]
            rw [e2]
            exact beq_eq_false_iff_ne.2 hq
          have dq' : ((ntext (ppG (dgs l)) (jnTo l l.length)).toList != (bs l).toList) = true := by simp only [bne, dq]; rfl
          have H0 := Lib.hid (show pnOk l = false by unfold pnOk; rw [decide_eq_false hq, Bool.and_false])
          have H1 := Lib.hid (show pnG1 l = [] by unfold pnG1; rw [H0.out]; rfl)
          have H2 := Lib.hid (show pnG2 l = [] by unfold pnG2; rw [H0.out]; rfl)
          clear hq
          have o9 := obj_set (i := 1) (obj_set (i := 0) or8 (Value.slice none 0 0)) (Value.slice none 0 0)
          have hb9 := (hbw8.setCell (p := ⟨w.heap.size, 0, none⟩) (by simp) (Value.slice none 0 0)).setCell (p := ⟨w.heap.size, 1, none⟩) (by simp) (Value.slice none 0 0)
          have l0 := (obj_cell (i := 0) o9).trans rfl
          have l1 := (obj_cell (i := 1) o9).trans rfl
          go_wp2_with fail
          refine bodyPost_ret (v := .tuple #[.agg #[.slice none 0 0, .slice none 0 0], .bool false]) (by simp [results, Tryz.results8, go_sem, l0, l1]) rfl ?_
          rw [H1.out, H2.out, H0.out]
          exact ⟨_, _, _, _, rfl, own_nilrow _ _ _, hb9⟩
  · have hpf : ppB (dgs l) = false := by simpa using hp
    have H0 := Lib.hid (show pnOk l = false by unfold pnOk; rw [hpf, Bool.false_and])
    have H1 := Lib.hid (show pnG1 l = [] by unfold pnG1; rw [H0.out]; rfl)
    have H2 := Lib.hid (show pnG2 l = [] by unfold pnG2; rw [H0.out]; rfl)
    have c0 : w4.cell? ⟨w.heap.size, 0, none⟩ = some (Value.slice none 0 0) := (obj_cell or4).trans rfl
    have c1 : w4.cell? ⟨w.heap.size, 1, none⟩ = some (Value.slice none 0 0) := (obj_cell or4).trans rfl
    have c2 : w4.frozen? ⟨w.heap.size, 0, none⟩ = false := obj_frozen or4
    have c3 : w4.frozen? ⟨w.heap.size, 1, none⟩ = false := obj_frozen or4
    rw [hpf]
    clear hp hpf
    have o9 := obj_set (i := 1) (obj_set (i := 0) or4 (Value.slice none 0 0)) (Value.slice none 0 0)
    have hb9 := (hbw4.setCell (p := ⟨w.heap.size, 0, none⟩) (by simp) (Value.slice none 0 0)).setCell (p := ⟨w.heap.size, 1, none⟩) (by simp) (Value.slice none 0 0)
    have l0 := (obj_cell (i := 0) o9).trans rfl
    have l1 := (obj_cell (i := 1) o9).trans rfl
    go_wp2_with fail
    refine bodyPost_ret (v := .tuple #[.agg #[.slice none 0 0, .slice none 0 0], .bool false]) (by simp [results, Tryz.results8, go_sem, l0, l1]) rfl ?_
    rw [H1.out, H2.out, H0.out]
    exact ⟨_, _, _, _, rfl, own_nilrow _ _ _, hb9⟩
end Go.Proofs.YtfcgohhmpgffjaaGreatDoor
