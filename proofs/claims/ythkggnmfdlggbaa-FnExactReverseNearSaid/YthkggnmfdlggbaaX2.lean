/- slices.Sort of an owned row of numbers; a falling list's order. -/
import Derived.Test.YthkggnmfdlggbaaX1
import Derived.Test.YthkggnmfdlggbaaY2
namespace Go.Proofs.Ythkggnmfdlggbaa
set_option maxRecDepth 100000
open Go Go.RowKit

theorem mergeSort_unique {xs ys : List Int} (hp : ys.Perm xs) (hs : ys.Pairwise (fun x y => x ≤ y)) : xs.mergeSort (fun x y => decide (x ≤ y)) = ys := by
  have h1 : (xs.mergeSort (fun x y => decide (x ≤ y))).Pairwise (fun x y => decide (x ≤ y) = true) :=
    List.pairwise_mergeSort (fun a b c h1 h2 => by simp only [decide_eq_true_eq] at *; omega) (fun a b => by simp only [Bool.or_eq_true, decide_eq_true_eq]; omega) xs
  have h2 : (xs.mergeSort (fun x y => decide (x ≤ y))).Perm ys := (List.mergeSort_perm xs _).trans hp.symm
  refine List.Perm.eq_of_pairwise (le := fun x y => x ≤ y) (fun a b _ _ h1 h2 => by omega) (h1.imp fun h => by simpa using h) hs h2

theorem sortI_any (A : Option Addr) (c base n : Nat) (xs ys : List Int) (w : World) (hn : xs.length = n) (hl : n ≤ 1048576) (h : w.ownsRow base 3 1 (.slice A n c) n (xs.map (Value.int .i64)))
    (hs : xs.mergeSort (fun x y => decide (x ≤ y)) = ys) :
    Calls Try.prog 45 #[.slice A n c] w fun e w' => e = .returned (.tuple #[]) ∧ w'.ownsRow base 3 1 (.slice A n c) n (ys.map (Value.int .i64)) ∧ w.grownBy w' (Value.slice A 0 0).ownBlock := by
  rcases Nat.eq_zero_or_pos n with h0 | h0
  · subst h0
    have hx : xs = [] := List.eq_nil_of_length_eq_zero hn
    subst hx
    have hy : ys = [] := by rw [← hs]; simp
    subst hy
    refine (Try.slices_Sort_int_none A c w).mono ?_
    rintro e w' ⟨rfl, rfl⟩
    exact ⟨rfl, h, World.grownBy.refl _ _⟩
  · obtain ⟨g, cap, hv, hb, hg, _, _, _, hH⟩ := Lib.holds_of_ownsRow h (by intro he; injection he with _ he _; omega)
    injection hv with hv1 _ hv2
    subst hv1 hv2
    subst hn
    have hlen : ys.length = xs.length := by rw [← hs, List.length_mergeSort]
    refine Calls.mono (Try.slices_Sort_int g 0 c xs w hH hg (by omega)) ?_
    rintro e w' ⟨rfl, q, os, rfl⟩
    rw [hs]
    have h1 := Lib.ownsRow_putRow (q := q) (k := xs.length) (ys := ys) h hlen (Nat.le_refl _)
    rw [List.take_of_length_le (by omega)] at h1
    have hbg : Below (Sort.putRow (Value.int .i64) (Sort.ahead w q) g 0 ys.toArray).heap.size (Sort.putRow (Value.int .i64) (Sort.ahead w q) g 0 ys.toArray) (Sort.grow (Sort.putRow (Value.int .i64) (Sort.ahead w q) g 0 ys.toArray) os) := grow_below _ os
    have hg1 := putRow_grown (Value.int .i64) w q g ys.toArray
    exact ⟨rfl, own_below h1 hbg, grown_trans hg1 (below_grown (grow_below _ os))⟩

def rnUp (n : Nat) (ys : List Int) (j : Nat) : List Int := (ys.take j).map fun y => (n : Int) - y
theorem rnUp_len (n : Nat) (ys : List Int) (j : Nat) (h : j ≤ ys.length) : (rnUp n ys j).length = j := by simp [rnUp]; omega
theorem rnUp_succ (n : Nat) (ys : List Int) (j : Nat) (h : j < ys.length) : rnUp n ys (j + 1) = rnUp n ys j ++ [(n : Int) - ys[j]] := by
  unfold rnUp
  rw [List.take_succ_eq_append_getElem h, List.map_append]; rfl
theorem near_rise {xs ys : List Int} (h : nearB xs ys = true) : ys.Pairwise (fun x y => x < y) := by
  unfold nearB at h
  rw [Bool.and_eq_true] at h
  have hj : ∀ j, j < ys.length → joinAt xs.length ys j = true := fun j hj => by
    have := h.2
    unfold joinTo at this
    exact List.all_eq_true.1 this j (List.mem_range.2 hj)
  have hs : ∀ j (h1 : j + 1 < ys.length), ys[j] < ys[j + 1] := fun j h1 => by
    have := hj (j + 1) h1
    simp only [joinAt, List.getElem?_eq_getElem h1, Nat.add_sub_cancel, List.getElem?_eq_getElem (show j < ys.length by omega), Option.getD_some, decide_eq_true_eq] at this
    omega
  have hd : ∀ d i (h1 : i + d + 1 < ys.length), ys[i] < ys[i + d + 1] := fun d => by
    induction d with
    | zero => exact fun i h1 => hs i h1
    | succ d ih =>
      intro i h1
      have h2 := ih i (by omega)
      have h3 := hs (i + d + 1) (by omega)
      exact Int.lt_trans h2 h3
  rw [List.pairwise_iff_getElem]
  intro i k hi hk hik
  obtain ⟨d, rfl⟩ : ∃ d, k = i + d + 1 := ⟨k - i - 1, by omega⟩
  exact hd d i hk
theorem rnUp_sort {xs ys : List Int} (h : nearB xs ys = true) : (rnUp xs.length ys ys.length).mergeSort (fun x y => decide (x ≤ y)) = rnTo xs.length ys ys.length := by
  unfold rnUp rnTo
  rw [List.take_length, List.take_of_length_le (by simp)]
  refine mergeSort_unique ((List.reverse_perm ys).map _) ?_
  rw [List.pairwise_map, List.pairwise_reverse]
  exact (near_rise h).imp fun h => by omega

set_option maxHeartbeats 2000000 in
theorem reverseNear_impl (A B : Option Addr) (c k : Nat) (xs ys : List Int) (w : World) (h : InN w A c xs B k ys) :
    Calls Try.prog 13 #[.agg #[.slice A xs.length c, .slice B ys.length k]] w (RetNb w (rnG1 xs ys) (rnG2 xs ys) (nearB xs ys)) := by
  obtain ⟨i0, hi, hz0, hz1, hz2⟩ := info_parts infoI
  have hlx := h.1.len
  have hly := h.2.len
  go_enter Try.func13, Try.ntmps13
  have hb0 : Below w.heap.size w ((w.alloc (Obj.cells #[Value.slice A xs.length c, Value.slice B ys.length k] 26)).alloc (Obj.cells #[Value.slice none 0 0, Value.slice none 0 0] 26)) := ((Below.refl _ _).alloc (Nat.le_refl _) _).alloc (by simp) _
  go_wp2_with fail
  have oa := obj_alloc (obj_new w (Obj.cells #[Value.slice A xs.length c, Value.slice B ys.length k] 26)) (Obj.cells #[Value.slice none 0 0, Value.slice none 0 0] 26)
  have ob := obj_new (w.alloc (Obj.cells #[Value.slice A xs.length c, Value.slice B ys.length k] 26)) (Obj.cells #[Value.slice none 0 0, Value.slice none 0 0] 26)
  have hzw : ((w.alloc (Obj.cells #[Value.slice A xs.length c, Value.slice B ys.length k] 26)).alloc (Obj.cells #[Value.slice none 0 0, Value.slice none 0 0] 26)).heap.size = w.heap.size + 1 + 1 := by simp
  simp only [World.size_alloc] at ob
  generalize ((w.alloc (Obj.cells #[Value.slice A xs.length c, Value.slice B ys.length k] 26)).alloc (Obj.cells #[Value.slice none 0 0, Value.slice none 0 0] 26)) = w0 at hb0 oa ob hzw ⊢
  by_cases hn : nearB xs ys = true
  · have HN := Lib.hid hn
    have H1 := Lib.hid (show rnG1 xs ys = rnP xs by unfold rnG1; rw [if_pos hn])
    have H2 := Lib.hid (show rnG2 xs ys = rnTo xs.length ys ys.length by unfold rnG2; rw [if_pos hn])
    have hy8 := nearB_len hn
    have hx8 := (permB_true (nearB_permB hn)).1
    have HR := Lib.hid (nearB_range hn)
    (with_reducible refine (near_ib A B c k xs ys w0 true (h.next hb0) HN.out).mono ?_)
    rintro e wn ⟨rfl, hb1⟩
    have oa := obj_below oa hb1 (obj_lt oa)
    have ob := obj_below ob hb1 (obj_lt ob)
    have hb := hb0.trans (hb1.mono hb0.size)
    have hsz1 := hb1.size
    have f0 : wn.cell? ⟨w.heap.size, 0, none⟩ = some (Value.slice A xs.length c) := (obj_cell oa).trans rfl
    have f1 : wn.cell? ⟨w.heap.size, 1, none⟩ = some (Value.slice B ys.length k) := (obj_cell oa).trans rfl
    clear hn hb1
    go_wp2_with fail
    (with_reducible refine (reverse_rn A c xs wn (h.1.next hb)).mono ?_)
    rintro e w2 ⟨A2, c2, rfl, _, _, own2, hb2⟩
    have oa := obj_below oa hb2 (obj_lt oa)
    have ob := obj_below ob hb2 (obj_lt ob)
    have hb' := hb.trans (hb2.mono hb.size)
    have hsz2 := hb2.size
    have hsb := hb'.size
    have oa3 := obj_alloc oa (Obj.cells #[Value.slice A2 (rnP xs).length c2, Value.slice none 0 0] 26)
    have ob3 := obj_alloc ob (Obj.cells #[Value.slice A2 (rnP xs).length c2, Value.slice none 0 0] 26)
    have oc3 := obj_new w2 (Obj.cells #[Value.slice A2 (rnP xs).length c2, Value.slice none 0 0] 26)
    have hA3 := own2.alloc (Obj.cells #[Value.slice A2 (rnP xs).length c2, Value.slice none 0 0] 26)
    have lA : ∀ q, (Value.slice A2 (rnP xs).length c2).ownBlock = some q → wn.heap.size ≤ q ∧ q < w2.heap.size := fun q hq => own2.lt q hq
    have hb3 := hb'.alloc hsb (Obj.cells #[Value.slice A2 (rnP xs).length c2, Value.slice none 0 0] 26)
    have hz3 : (w2.alloc (Obj.cells #[Value.slice A2 (rnP xs).length c2, Value.slice none 0 0] 26)).heap.size = w2.heap.size + 1 := by simp
    have g1 : (w2.alloc (Obj.cells #[Value.slice A2 (rnP xs).length c2, Value.slice none 0 0] 26)).cell? ⟨w.heap.size, 1, none⟩ = some (Value.slice B ys.length k) := (obj_cell oa3).trans rfl
    have hlt2 : w.heap.size + 1 < w2.heap.size := by omega
    clear own2 hb2 hb oa ob f0 f1
    go_wp2_with fail
    generalize (w2.alloc (Obj.cells #[Value.slice A2 (rnP xs).length c2, Value.slice none 0 0] 26)) = w3 at oa3 ob3 oc3 hA3 hb3 hz3 g1 ⊢
    obtain ⟨g, hg⟩ : ∃ g, g = w2.heap.size := ⟨_, rfl⟩
    rw [← hg] at oc3 hz3 hlt2 lA hsz2 ⊢
    have HZ3 := Lib.hid hz3
    clear hg hz3 g1
    go_loopw [18] (fun i wr => ∃ (j : Nat) (B1 : Option Addr) (kk : Nat), j ≤ ys.length ∧ i = .int .i64 (j : Int) ∧ wr.heap[g]? = some (Obj.cells #[Value.slice A2 (rnP xs).length c2, Value.slice B1 j kk] 26) ∧
      wr.heap[w.heap.size]? = some (Obj.cells #[Value.slice A xs.length c, Value.slice B ys.length k] 26) ∧
      wr.heap[w.heap.size + 1]? = some (Obj.cells #[Value.slice none 0 0, Value.slice none 0 0] 26) ∧ wr.ownsRow wn.heap.size 3 1 (.slice A2 (rnP xs).length c2) (rnP xs).length ((rnP xs).map (Value.int .i64)) ∧
      wr.ownsRow w3.heap.size 3 1 (.slice B1 j kk) j ((rnUp xs.length ys j).map (Value.int .i64)) ∧ Below w.heap.size w wr ∧ w3.heap.size ≤ wr.heap.size) (fun i _ => ys.length - (intOf i).toNat)
    case atStart => exact ⟨0, none, 0, Nat.zero_le _, rfl, oc3, oa3, ob3, hA3, World.ownsRow_nil _ _ _ _, hb3, Nat.le_refl _⟩
    case round =>
      clear oc3 oa3 ob3 hA3 hb3
      obtain ⟨j, B1, kk, hj, rfl, og, oa, ob, hA, hB, hbw, hsw⟩ := hrel
      have f1 : wr.cell? ⟨g, 1, none⟩ = some (Value.slice B1 j kk) := (obj_cell og).trans rfl
      have f0 : wr.cell? ⟨g, 0, none⟩ = some (Value.slice A2 (rnP xs).length c2) := (obj_cell og).trans rfl
      have a0 : wr.cell? ⟨w.heap.size, 0, none⟩ = some (Value.slice A xs.length c) := (obj_cell oa).trans rfl
      have a1 : wr.cell? ⟨w.heap.size, 1, none⟩ = some (Value.slice B ys.length k) := (obj_cell oa).trans rfl
      by_cases hlt : j < ys.length
      · have HS := Lib.hid (rnUp_succ xs.length ys j hlt)
        obtain ⟨b, off, rfl, _, hc⟩ := (h.2.next hbw).rd (by omega)
        have cc := hc j hlt
        have hr := HR.out ys[j] (List.getElem_mem hlt)
        obtain ⟨yv, hyv⟩ : ∃ yv, yv = ys[j] := ⟨_, rfl⟩
        rw [← hyv] at cc hr
        have HYV := Lib.hid hyv
        have e2 : IntKind.i64.wrap ((xs.length : Int) - yv) = (xs.length : Int) - yv := IntWalk.i64_in _ (by omega)
        have hq0 : (0 : Int) ≤ (j : Int) := Int.natCast_nonneg _
        have hq1 : (j : Int) < (ys.length : Int) := by omega
        have s3 : g < w3.heap.size := by have := HZ3.out; omega
        have hlim : ∀ q, (Value.slice B1 j kk).ownBlock = some q → w3.heap.size ≤ q ∧ q < wr.heap.size := fun q hq => hB.lt q hq
        have ogr := obj_alloc og (Obj.cells #[Value.int .i64 ((xs.length : Int) - yv)] 3)
        have oar := obj_alloc oa (Obj.cells #[Value.int .i64 ((xs.length : Int) - yv)] 3)
        have obr := obj_alloc ob (Obj.cells #[Value.int .i64 ((xs.length : Int) - yv)] 3)
        have hAr := hA.alloc (Obj.cells #[Value.int .i64 ((xs.length : Int) - yv)] 3)
        have hbr := hbw.alloc hbw.size (Obj.cells #[Value.int .i64 ((xs.length : Int) - yv)] 3)
        have f1d : wr.drew.cell? ⟨g, 1, none⟩ = some (Value.slice B1 j kk) := f1
        have f1r : (wr.alloc (Obj.cells #[Value.int .i64 ((xs.length : Int) - yv)] 3)).cell? ⟨g, 1, none⟩ = some (Value.slice B1 j kk) := (obj_cell ogr).trans rfl
        have a0d : wr.drew.cell? ⟨w.heap.size, 0, none⟩ = some (Value.slice A xs.length c) := a0
        have a1d : wr.drew.cell? ⟨w.heap.size, 1, none⟩ = some (Value.slice (some ⟨b, off, none⟩) ys.length k) := a1
        have ccd : wr.drew.cell? ⟨b, off + j, none⟩ = some (.int .i64 yv) := cc
        clear hc hyv
        go_wp2_with ((at_builtin; refine wpList_append_own _ rfl _ _ 22 rfl (w3.heap.size) 3 i0 (.int .i64 0) 1 8 Try.underlying22 hi hz0 hz1 hz2 rfl (by decide) _ _ _ rfl (World.ownsRow.alloc hB _) ⟨wr.heap.size, 0, none⟩ 1 1 [.int .i64 ((xs.length : Int) - yv)] rfl rfl (cell_one_new _ _ _) (by intro u hu; simp at hu; subst hu; rfl) (by unfold maxLen; omega) (by omega) (by simp; omega) ?_; intro v1 w1 hown1 hgrow1 _)
                     obtain ⟨B2, k1, rfl, _, _⟩ := own_shape hown1
                     have hg3 := hgrow1
                     clear hgrow1
                     have og1 := (hg3.block _ (obj_lt ogr) (by intro he; have := hlim _ he.symm; omega)).trans ogr
                     have oa1 := (hg3.block _ (obj_lt oar) (by intro he; have := hlim _ he.symm; omega)).trans oar
                     have ob1 := (hg3.block _ (obj_lt obr) (by intro he; have := hlim _ he.symm; omega)).trans obr
                     have f3 : w1.cell? ⟨g, 1, none⟩ = some (Value.slice B1 j kk) := (obj_cell og1).trans rfl
                     have f4 : w1.frozen? ⟨g, 1, none⟩ = false := obj_frozen og1)
        have hA1 := hAr.kept hg3 (own_off (lim := g) (fun q hq => (lA q hq).2) (fun q hq => by have := hlim q hq; omega))
        have hbw3 := hbr.grown hg3 (by simp; omega) (fun q hq => by have := hlim q hq; omega)
        have hsp : Span g (g + 1) w1 (w1.setCell ⟨g, 1, none⟩ (Value.slice B2 (j + 1) k1)) := Span.set (p := ⟨g, 1, none⟩) (Nat.le_refl _) (Nat.lt_succ_self _) _
        have hA2 := own_span hA1 hsp (fun q hq => .inl (lA q hq).2)
        have hB1 : w1.ownsRow w3.heap.size 3 1 (.slice B2 (j + 1) k1) (j + 1) ((rnUp xs.length ys (j + 1)).map (Value.int .i64)) := by rw [HS.out, ← HYV.out]; simpa using hown1
        have hB2 := own_span hB1 hsp (fun q hq => by have := (hB1.lt q hq).1; omega)
        have og2 := obj_set (i := 1) og1 (Value.slice B2 (j + 1) k1)
        have oa2 := obj_other (g' := g) (i := 1) oa1 (by omega) (Value.slice B2 (j + 1) k1)
        have ob2 := obj_other (g' := g) (i := 1) ob1 (by omega) (Value.slice B2 (j + 1) k1)
        have hb5 := hbw3.setCell (p := ⟨g, 1, none⟩) (by simp; omega) (Value.slice B2 (j + 1) k1)
        have hb6 : w3.heap.size ≤ (w1.setCell ⟨g, 1, none⟩ (Value.slice B2 (j + 1) k1)).heap.size := by have h1 := hg3.size; have h2 := hsp.size; simp at h1; omega
        have K := Lib.hid (And.intro og2 (And.intro oa2 (And.intro ob2 (And.intro hA2 (And.intro hB2 (And.intro hb5 hb6))))))
        clear og2 oa2 ob2 hA2 hB2 hb5 hb6 hsp hA1 hB1 hbw3 hown1 hg3 og1 oa1 ob1 f3 f4 f1 f0 a0 a1 f1d f1r a0d a1d ccd hA hB og oa ob hbw hlim ogr oar obr hAr hbr
        go_wp2_with fail
        go_roundw
        case rel => exact ⟨j + 1, B2, k1, by omega, by go_num, K.out.1, K.out.2.1, K.out.2.2.1, K.out.2.2.2.1, K.out.2.2.2.2.1, K.out.2.2.2.2.2.1, K.out.2.2.2.2.2.2⟩
        case measure => (simp [intOf]) <;> omega
      · obtain rfl : j = ys.length := by omega
        have HSR := Lib.hid (rnUp_sort (xs := xs) (ys := ys) HN.out)
        have s3 := HZ3.out
        have hlim : ∀ q, (Value.slice B1 0 0).ownBlock = some q → w3.heap.size ≤ q := fun q hq => (hB.lt q (by rw [← hq]; exact ownBlock_len _ _ _ _ _)).1
        have hS := sortI_any B1 kk w3.heap.size ys.length (rnUp xs.length ys ys.length) (rnTo xs.length ys ys.length) wr (rnUp_len _ _ _ (Nat.le_refl _)) (by omega) hB HSR.out
        go_wp2_with fail
        (with_reducible refine hS.mono ?_)
        rintro e wq ⟨rfl, hB2, hgq⟩
        have og := (hgq.block g (obj_lt og) (by intro he; have := hlim _ he.symm; omega)).trans og
        have ob := (hgq.block (w.heap.size + 1) (obj_lt ob) (by intro he; have := hlim _ he.symm; omega)).trans ob
        have hA2 := hA.kept hgq (own_off (lim := g) (fun q hq => (lA q hq).2) (fun q hq => by have := hlim q hq; omega))
        have hbq := hbw.grown hgq hbw.size (fun q hq => by have := hlim q hq; omega)
        have hsq := hgq.size
        have f1 : wq.cell? ⟨g, 1, none⟩ = some (Value.slice B1 ys.length kk) := (obj_cell og).trans rfl
        have f0 : wq.cell? ⟨g, 0, none⟩ = some (Value.slice A2 (rnP xs).length c2) := (obj_cell og).trans rfl
        have g0 : wq.cell? ⟨w.heap.size + 1, 0, none⟩ = some (Value.slice none 0 0) := (obj_cell ob).trans rfl
        have g1 : wq.cell? ⟨w.heap.size + 1, 1, none⟩ = some (Value.slice none 0 0) := (obj_cell ob).trans rfl
        have g2 : wq.frozen? ⟨w.heap.size + 1, 0, none⟩ = false := obj_frozen ob
        have g3 : wq.frozen? ⟨w.heap.size + 1, 1, none⟩ = false := obj_frozen ob
        have o2 := obj_set (i := 1) (obj_set (i := 0) ob (Value.slice A2 (rnP xs).length c2)) (Value.slice B1 ys.length kk)
        have hsp : Span (w.heap.size + 1) (w.heap.size + 1 + 1) wq ((wq.setCell ⟨w.heap.size + 1, 0, none⟩ (Value.slice A2 (rnP xs).length c2)).setCell ⟨w.heap.size + 1, 1, none⟩ (Value.slice B1 ys.length kk)) :=
          (Span.set (p := ⟨w.heap.size + 1, 0, none⟩) (Nat.le_refl _) (Nat.lt_succ_self _) _).trans (Span.set (p := ⟨w.heap.size + 1, 1, none⟩) (Nat.le_refl _) (Nat.lt_succ_self _) _)
        have hrl := rnTo_len xs.length ys ys.length (Nat.le_refl _)
        have hB' : wq.ownsRow w3.heap.size 3 1 (.slice B1 (rnTo xs.length ys ys.length).length kk) (rnTo xs.length ys ys.length).length ((rnTo xs.length ys ys.length).map (Value.int .i64)) := by rw [hrl]; exact hB2
        have own : Own wq wn.heap.size wq.heap.size [⟨A2, c2, rnP xs⟩, ⟨B1, kk, rnTo xs.length ys ys.length⟩] [] :=
          ((Own.one hA2 (Nat.le_refl _)).lim g (fun r hr => by obtain rfl := List.mem_singleton.1 hr; exact fun q hq => (lA q hq).2)).app ((Own.one hB' (Nat.le_refl _)).wider (by omega) (Nat.le_refl _)) (by omega) (by omega)
        have own := own.span hsp (.inr (by omega))
        have hb4 := (hbq.setCell (p := ⟨w.heap.size + 1, 0, none⟩) (by simp) (Value.slice A2 (rnP xs).length c2)).setCell (p := ⟨w.heap.size + 1, 1, none⟩) (by simp) (Value.slice B1 ys.length kk)
        have l0 := (obj_cell (i := 0) o2).trans rfl
        have l1 := (obj_cell (i := 1) o2).trans rfl
        have hq2 := hsp.size
        have HL := Lib.hid hrl
        clear hsp hrl
        go_wp2_with fail
        refine bodyPost_ret (v := .tuple #[.agg #[.slice A2 (rnP xs).length c2, .slice B1 ys.length kk], .bool true]) (by simp [results, Try.results13, go_sem, l0, l1]) rfl ?_
        rw [H1.out, H2.out, HN.out]
        exact ⟨_, _, _, _, by rw [HL.out], own.wider (by omega) (by omega), hb4⟩
  · have hnf : nearB xs ys = false := by simpa using hn
    have H1 := Lib.hid (show rnG1 xs ys = [] by unfold rnG1; rw [hnf]; rfl)
    have H2 := Lib.hid (show rnG2 xs ys = [] by unfold rnG2; rw [hnf]; rfl)
    have HN := Lib.hid hnf
    (with_reducible refine (near_ib A B c k xs ys w0 false (h.next hb0) hnf).mono ?_)
    rintro e w1 ⟨rfl, hb1⟩
    have oa := obj_below oa hb1 (obj_lt oa)
    have ob := obj_below ob hb1 (obj_lt ob)
    have hb := hb0.trans (hb1.mono hb0.size)
    have f0 : w1.cell? ⟨w.heap.size, 0, none⟩ = some (Value.slice A xs.length c) := (obj_cell oa).trans rfl
    have g0 : w1.cell? ⟨w.heap.size + 1, 0, none⟩ = some (Value.slice none 0 0) := (obj_cell ob).trans rfl
    have g1 : w1.cell? ⟨w.heap.size + 1, 1, none⟩ = some (Value.slice none 0 0) := (obj_cell ob).trans rfl
    have g2 : w1.frozen? ⟨w.heap.size + 1, 0, none⟩ = false := obj_frozen ob
    have g3 : w1.frozen? ⟨w.heap.size + 1, 1, none⟩ = false := obj_frozen ob
    have o2 := obj_set (i := 1) (obj_set (i := 0) ob (Value.slice none 0 0)) (Value.slice none 0 0)
    have hb4 := (hb.setCell (p := ⟨w.heap.size + 1, 0, none⟩) (by simp) (Value.slice none 0 0)).setCell (p := ⟨w.heap.size + 1, 1, none⟩) (by simp) (Value.slice none 0 0)
    have l0 := (obj_cell (i := 0) o2).trans rfl
    have l1 := (obj_cell (i := 1) o2).trans rfl
    clear hn hnf
    go_wp2_with fail
    refine bodyPost_ret (v := .tuple #[.agg #[.slice none 0 0, .slice none 0 0], .bool false]) (by simp [results, Try.results13, go_sem, l0, l1]) rfl ?_
    rw [H1.out, H2.out, HN.out]
    exact ⟨_, _, _, _, rfl, own_nilrow _ _ _, hb4⟩
end Go.Proofs.Ythkggnmfdlggbaa
