/- ReverseNear, program and reference. -/
import Derived.Test.YthkggnmfdlggbaaN3
import Derived.Test.YthkggnmfdlggbaaK3
import Derived.Test.YthkggnmfdlggbaaG6
import Derived.Test.YthkggnmfdlggbaaV1
import Derived.Test.YthkggnmfdlggbaaZ2
import Derived.Test.YthkggnmfdlggbaaShelf
import Derived.Lib.OwnBridge
namespace Go.Proofs.Ythkggnmfdlggbaa
set_option maxRecDepth 100000
open Go Go.RowKit

/-- The joined places from the end, each seen from the other side: the first j of them. -/
def rnTo (n : Nat) (ys : List Int) (j : Nat) : List Int := (ys.reverse.take j).map fun y => (n : Int) - y
def rnP (xs : List Int) : List Int := xs.reverse
theorem rnP_len (xs : List Int) : (rnP xs).length = xs.length := by simp [rnP]
theorem rnTo_len (n : Nat) (ys : List Int) (j : Nat) (h : j ≤ ys.length) : (rnTo n ys j).length = j := by simp [rnTo]; omega
theorem rnTo_succ (n : Nat) (ys : List Int) (j q : Nat) (h : j + q + 1 = ys.length) (hq : q < ys.length) : rnTo n ys (j + 1) = rnTo n ys j ++ [(n : Int) - ys[q]] := by
  unfold rnTo
  rw [List.take_succ_eq_append_getElem (by simp; omega), List.map_append, List.getElem_reverse]
  simp only [List.map_cons, List.map_nil]
  congr 4
  omega
def rnG1 (xs ys : List Int) : List Int := if nearB xs ys then rnP xs else []
def rnG2 (xs ys : List Int) : List Int := if nearB xs ys then rnTo xs.length ys ys.length else []
theorem rnG_le (xs ys : List Int) : (rnG1 xs ys).length + (rnG2 xs ys).length ≤ 16 := by
  unfold rnG1 rnG2
  by_cases hp : nearB xs ys = true
  · rw [if_pos hp, if_pos hp, rnTo_len _ _ _ (Nat.le_refl _), rnP_len]
    have h1 := nearB_len hp
    have h2 := (permB_true (nearB_permB hp)).1
    omega
  · rw [if_neg hp, if_neg hp]
    simp
theorem reverse_rn (A : Option Addr) (c : Nat) (xs : List Int) (w : World) (h : In w A c xs) :
    Calls Try.prog 44 #[.slice A xs.length c] w (Ret (Value.int .i64) 3 w (rnP xs)) := reverse_impl A c xs w h
theorem l3Reverse_rn (A : Option Addr) (c : Nat) (xs : List Int) (w : World) (h : In w A c xs) :
    Calls Try.prog 41 #[.slice A xs.length c] w (Ret (Value.int .i64) 3 w (rnP xs)) := l3Reverse_any A c xs.length xs w rfl h.len h.rd

set_option maxHeartbeats 2000000 in
theorem reverseNear_spec (A B : Option Addr) (c k : Nat) (xs ys : List Int) (w : World) (h : InN w A c xs B k ys) :
    Calls Try.prog 11 #[.agg #[.slice A xs.length c, .slice B ys.length k]] w (RetNb w (rnG1 xs ys) (rnG2 xs ys) (nearB xs ys)) := by
  obtain ⟨i0, hi, hz0, hz1, hz2⟩ := info_parts infoI
  have hlx := h.1.len
  have hly := h.2.len
  go_enter Try.func11, Try.ntmps11
  have hb0 : Below w.heap.size w ((w.alloc (Obj.cells #[Value.slice A xs.length c, Value.slice B ys.length k] 26)).alloc (Obj.cells #[Value.slice none 0 0, Value.slice none 0 0] 26)) := ((Below.refl _ _).alloc (Nat.le_refl _) _).alloc (by simp) _
  go_wp2_with fail
  have oa := obj_alloc (obj_new w (Obj.cells #[Value.slice A xs.length c, Value.slice B ys.length k] 26)) (Obj.cells #[Value.slice none 0 0, Value.slice none 0 0] 26)
  have ob := obj_new (w.alloc (Obj.cells #[Value.slice A xs.length c, Value.slice B ys.length k] 26)) (Obj.cells #[Value.slice none 0 0, Value.slice none 0 0] 26)
  have hzw : ((w.alloc (Obj.cells #[Value.slice A xs.length c, Value.slice B ys.length k] 26)).alloc (Obj.cells #[Value.slice none 0 0, Value.slice none 0 0] 26)).heap.size = w.heap.size + 1 + 1 := by simp
  simp only [World.size_alloc] at ob
  generalize ((w.alloc (Obj.cells #[Value.slice A xs.length c, Value.slice B ys.length k] 26)).alloc (Obj.cells #[Value.slice none 0 0, Value.slice none 0 0] 26)) = w0 at hb0 oa ob hzw ⊢
  by_cases hn : nearB xs ys = true
  · have HN := Lib.hid hn
    have H1 := Lib.hid (show rnG1 xs ys = rnP xs by unfold rnG1; rw [if_pos hn])
    have H2 := Lib.hid (show rnG2 xs ys = rnTo xs.length ys ys.length by unfold rnG2; rw [if_pos hn])
    have hy8 := nearB_len hn
    have hx8 := (permB_true (nearB_permB hn)).1
    have HR := Lib.hid (nearB_range hn)
    (with_reducible refine (near_sb A B c k xs ys w0 true (h.next hb0) HN.out).mono ?_)
    rintro e wn ⟨rfl, hb1⟩
    have oa := obj_below oa hb1 (obj_lt oa)
    have ob := obj_below ob hb1 (obj_lt ob)
    have hb := hb0.trans (hb1.mono hb0.size)
    have hsz1 := hb1.size
    have f0 : wn.cell? ⟨w.heap.size, 0, none⟩ = some (Value.slice A xs.length c) := (obj_cell oa).trans rfl
    have f1 : wn.cell? ⟨w.heap.size, 1, none⟩ = some (Value.slice B ys.length k) := (obj_cell oa).trans rfl
    clear hn hb1
    go_wp2_with fail
    (with_reducible refine (l3Reverse_rn A c xs wn (h.1.next hb)).mono ?_)
    rintro e w2 ⟨A2, c2, rfl, _, _, own2, hb2⟩
    have oa := obj_below oa hb2 (obj_lt oa)
    have ob := obj_below ob hb2 (obj_lt ob)
    have hb' := hb.trans (hb2.mono hb.size)
    have hsz2 := hb2.size
    have hsb := hb'.size
    have oa3 := obj_alloc oa (Obj.cells #[Value.slice A2 (rnP xs).length c2, Value.slice none 0 0] 26)
    have ob3 := obj_alloc ob (Obj.cells #[Value.slice A2 (rnP xs).length c2, Value.slice none 0 0] 26)
    have oc3 := obj_new w2 (Obj.cells #[Value.slice A2 (rnP xs).length c2, Value.slice none 0 0] 26)
    have hA3 := own2.alloc (Obj.cells #[Value.slice A2 (rnP xs).length c2, Value.slice none 0 0] 26)
    have lA : ∀ q, (Value.slice A2 (rnP xs).length c2).ownBlock = some q → wn.heap.size ≤ q ∧ q < w2.heap.size := fun q hq => own2.lt q hq
    have hb3 := hb'.alloc hsb (Obj.cells #[Value.slice A2 (rnP xs).length c2, Value.slice none 0 0] 26)
    have hz3 : (w2.alloc (Obj.cells #[Value.slice A2 (rnP xs).length c2, Value.slice none 0 0] 26)).heap.size = w2.heap.size + 1 := by simp
    have g1 : (w2.alloc (Obj.cells #[Value.slice A2 (rnP xs).length c2, Value.slice none 0 0] 26)).cell? ⟨w.heap.size, 1, none⟩ = some (Value.slice B ys.length k) := (obj_cell oa3).trans rfl
    have e1 : IntKind.i64.wrap ((ys.length : Int) - 1) = (ys.length : Int) - 1 := IntWalk.i64_in _ (by omega)
    have hlt2 : w.heap.size + 1 < w2.heap.size := by omega
    clear own2 hb2 hb oa ob f0 f1
    go_wp2_with fail
    generalize (w2.alloc (Obj.cells #[Value.slice A2 (rnP xs).length c2, Value.slice none 0 0] 26)) = w3 at oa3 ob3 oc3 hA3 hb3 hz3 g1 ⊢
    obtain ⟨g, hg⟩ : ∃ g, g = w2.heap.size := ⟨_, rfl⟩
    rw [← hg] at oc3 hz3 hlt2 lA hsz2 ⊢
    have HZ3 := Lib.hid hz3
    clear hg hz3 g1 e1
    go_loopw [5] (fun i wr => ∃ (j : Nat) (z : Int) (B1 : Option Addr) (kk : Nat), j ≤ ys.length ∧ z = (ys.length : Int) - 1 - j ∧ i = .int .i64 z ∧ wr.heap[g]? = some (Obj.cells #[Value.slice A2 (rnP xs).length c2, Value.slice B1 j kk] 26) ∧
      wr.heap[w.heap.size]? = some (Obj.cells #[Value.slice A xs.length c, Value.slice B ys.length k] 26) ∧
      wr.heap[w.heap.size + 1]? = some (Obj.cells #[Value.slice none 0 0, Value.slice none 0 0] 26) ∧ wr.ownsRow wn.heap.size 3 1 (.slice A2 (rnP xs).length c2) (rnP xs).length ((rnP xs).map (Value.int .i64)) ∧
      wr.ownsRow w3.heap.size 3 1 (.slice B1 j kk) j ((rnTo xs.length ys j).map (Value.int .i64)) ∧ Below w.heap.size w wr ∧ w3.heap.size ≤ wr.heap.size) (fun i _ => (intOf i + 1).toNat)
    case atStart => exact ⟨0, _, none, 0, Nat.zero_le _, by omega, rfl, oc3, oa3, ob3, hA3, World.ownsRow_nil _ _ _ _, hb3, Nat.le_refl _⟩
    case round =>
      clear oc3 oa3 ob3 hA3 hb3
      obtain ⟨j, z, B1, kk, hj, hzz, rfl, og, oa, ob, hA, hB, hbw, hsw⟩ := hrel
      have f1 : wr.cell? ⟨g, 1, none⟩ = some (Value.slice B1 j kk) := (obj_cell og).trans rfl
      have f0 : wr.cell? ⟨g, 0, none⟩ = some (Value.slice A2 (rnP xs).length c2) := (obj_cell og).trans rfl
      have a0 : wr.cell? ⟨w.heap.size, 0, none⟩ = some (Value.slice A xs.length c) := (obj_cell oa).trans rfl
      have a1 : wr.cell? ⟨w.heap.size, 1, none⟩ = some (Value.slice B ys.length k) := (obj_cell oa).trans rfl
      have HZ := Lib.hid hzz
      by_cases hlt : j < ys.length
      · obtain ⟨q, hq⟩ : ∃ q : Nat, z = (q : Int) := ⟨ys.length - 1 - j, by omega⟩
        have hqy : q < ys.length := by omega
        have HQ := Lib.hid (show j + q + 1 = ys.length by omega)
        have HS := Lib.hid (rnTo_succ xs.length ys j q HQ.out hqy)
        obtain ⟨b, off, rfl, _, hc⟩ := (h.2.next hbw).rd (by omega)
        have cc := hc q hqy
        have hr := HR.out ys[q] (List.getElem_mem hqy)
        subst hq
        obtain ⟨yv, hyv⟩ : ∃ yv, yv = ys[q] := ⟨_, rfl⟩
        rw [← hyv] at cc hr
        have HYV := Lib.hid hyv
        have e2 : IntKind.i64.wrap ((xs.length : Int) - yv) = (xs.length : Int) - yv := IntWalk.i64_in _ (by omega)
        have hq0 : (0 : Int) ≤ (q : Int) := Int.natCast_nonneg _
        have hq1 : (q : Int) < (ys.length : Int) := by omega
        have s3 : g < w3.heap.size := by have := HZ3.out; omega
        have hlim : ∀ q, (Value.slice B1 j kk).ownBlock = some q → w3.heap.size ≤ q ∧ q < wr.heap.size := fun q hq => hB.lt q hq
        have ogr := obj_alloc og (Obj.cells #[Value.int .i64 ((xs.length : Int) - yv)] 3)
        have oar := obj_alloc oa (Obj.cells #[Value.int .i64 ((xs.length : Int) - yv)] 3)
        have obr := obj_alloc ob (Obj.cells #[Value.int .i64 ((xs.length : Int) - yv)] 3)
        have hAr := hA.alloc (Obj.cells #[Value.int .i64 ((xs.length : Int) - yv)] 3)
        have hbr := hbw.alloc hbw.size (Obj.cells #[Value.int .i64 ((xs.length : Int) - yv)] 3)
        have f1d : wr.drew.cell? ⟨g, 1, none⟩ = some (Value.slice B1 j kk) := f1
        have f1r : (wr.alloc (Obj.cells #[Value.int .i64 ((xs.length : Int) - yv)] 3)).cell? ⟨g, 1, none⟩ = some (Value.slice B1 j kk) := (obj_cell ogr).trans rfl
        have a0d : wr.drew.cell? ⟨w.heap.size, 0, none⟩ = some (Value.slice A xs.length c) := a0
        have a1d : wr.drew.cell? ⟨w.heap.size, 1, none⟩ = some (Value.slice (some ⟨b, off, none⟩) ys.length k) := a1
        have ccd : wr.drew.cell? ⟨b, off + q, none⟩ = some (.int .i64 yv) := cc
        clear hzz hc hyv
        go_wp2_with fail
        go_region_law
          ((refine step_append_lies _ (by rfl) _ _ _ (by rfl) w3.heap.size 3 i0 (.int .i64 0) 1 8 Try.underlying22 hi hz0 hz1 hz2 rfl (by decide) (Value.slice B1 j kk) j _ (by rfl) ((World.ownsRow.alloc hB _).drew) ⟨wr.heap.size, 0, none⟩ 1 1 [.int .i64 ((xs.length : Int) - yv)] (by rfl) (by rfl) (cell_one_new _ _ _) (by intro u hu; simp at hu; subst hu; rfl) (by omega) (by unfold maxLen; omega) (by omega) (by simp; omega) (wr.heap.size + 1) (by simp) ?_; intro gg cap w9 hown9 hgrow9 hat hlt9
            have hg3 := grown_drew hgrow9
            have og1 := (hg3.block _ (obj_lt ogr) (by intro he; have := hlim _ he.symm; omega)).trans ogr
            have oa1 := (hg3.block _ (obj_lt oar) (by intro he; have := hlim _ he.symm; omega)).trans oar
            have ob1 := (hg3.block _ (obj_lt obr) (by intro he; have := hlim _ he.symm; omega)).trans obr
            have f3 : w9.cell? ⟨g, 1, none⟩ = some (Value.slice B1 j kk) := (obj_cell og1).trans rfl
            have f4 : w9.frozen? ⟨g, 1, none⟩ = false := obj_frozen og1))
        all_goals
          have hA1 := hAr.kept hg3 (own_off (lim := g) (fun q hq => (lA q hq).2) (fun q hq => by have := hlim q hq; omega))
          have hbw3 := hbr.grown hg3 (by simp; omega) (fun q hq => by have := hlim q hq; omega)
          have hsp : Span g (g + 1) w9 (w9.setCell ⟨g, 1, none⟩ (Value.slice (some ⟨gg, 0, none⟩) (j + 1) cap)) := Span.set (p := ⟨g, 1, none⟩) (Nat.le_refl _) (Nat.lt_succ_self _) _
          have hA2 := own_span hA1 hsp (fun q hq => .inl (lA q hq).2)
          have hB1 : w9.ownsRow w3.heap.size 3 1 (.slice (some ⟨gg, 0, none⟩) (j + 1) cap) (j + 1) ((rnTo xs.length ys (j + 1)).map (Value.int .i64)) := by rw [HS.out, ← HYV.out]; simpa using hown9
          have hB2 := own_span hB1 hsp (fun q hq => by have := (hB1.lt q hq).1; omega)
          have og2 := obj_set (i := 1) og1 (Value.slice (some ⟨gg, 0, none⟩) (j + 1) cap)
          have oa2 := obj_other (g' := g) (i := 1) oa1 (by omega) (Value.slice (some ⟨gg, 0, none⟩) (j + 1) cap)
          have ob2 := obj_other (g' := g) (i := 1) ob1 (by omega) (Value.slice (some ⟨gg, 0, none⟩) (j + 1) cap)
          have hb5 := hbw3.setCell (p := ⟨g, 1, none⟩) (by simp; omega) (Value.slice (some ⟨gg, 0, none⟩) (j + 1) cap)
          have hb6 : w3.heap.size ≤ (w9.setCell ⟨g, 1, none⟩ (Value.slice (some ⟨gg, 0, none⟩) (j + 1) cap)).heap.size := by have h1 := hg3.size; have h2 := hsp.size; simp at h1; omega
          have K := Lib.hid (And.intro og2 (And.intro oa2 (And.intro ob2 (And.intro hA2 (And.intro hB2 (And.intro hb5 hb6))))))
          clear og2 oa2 ob2 hA2 hB2 hb5 hb6 hsp hA1 hB1 hbw3 hown9 hgrow9 hg3 og1 oa1 ob1 f3 f4 f1 f0 a0 a1 f1d f1r a0d a1d ccd hA hB og oa ob hbw hlim ogr oar obr hAr hbr
          go_wp2_with fail
          go_roundw
          case rel => exact ⟨j + 1, (q : Int) - 1, some ⟨gg, 0, none⟩, cap, by omega, by have := HZ.out; omega, by go_num, K.out.1, K.out.2.1, K.out.2.2.1, K.out.2.2.2.1, K.out.2.2.2.2.1, K.out.2.2.2.2.2.1, K.out.2.2.2.2.2.2⟩
          case measure => (simp [intOf]) <;> omega
      · obtain rfl : j = ys.length := by omega
        have hzn : z = -1 := by omega
        subst hzn
        have g0 : wr.cell? ⟨w.heap.size + 1, 0, none⟩ = some (Value.slice none 0 0) := (obj_cell ob).trans rfl
        have g1 : wr.cell? ⟨w.heap.size + 1, 1, none⟩ = some (Value.slice none 0 0) := (obj_cell ob).trans rfl
        have g2 : wr.frozen? ⟨w.heap.size + 1, 0, none⟩ = false := obj_frozen ob
        have g3 : wr.frozen? ⟨w.heap.size + 1, 1, none⟩ = false := obj_frozen ob
        have o2 := obj_set (i := 1) (obj_set (i := 0) ob (Value.slice A2 (rnP xs).length c2)) (Value.slice B1 ys.length kk)
        have s3 := HZ3.out
        have hsp : Span (w.heap.size + 1) (w.heap.size + 1 + 1) wr ((wr.setCell ⟨w.heap.size + 1, 0, none⟩ (Value.slice A2 (rnP xs).length c2)).setCell ⟨w.heap.size + 1, 1, none⟩ (Value.slice B1 ys.length kk)) :=
          (Span.set (p := ⟨w.heap.size + 1, 0, none⟩) (Nat.le_refl _) (Nat.lt_succ_self _) _).trans (Span.set (p := ⟨w.heap.size + 1, 1, none⟩) (Nat.le_refl _) (Nat.lt_succ_self _) _)
        have hrl := rnTo_len xs.length ys ys.length (Nat.le_refl _)
        have hB' : wr.ownsRow w3.heap.size 3 1 (.slice B1 (rnTo xs.length ys ys.length).length kk) (rnTo xs.length ys ys.length).length ((rnTo xs.length ys ys.length).map (Value.int .i64)) := by rw [hrl]; exact hB
        have own : Own wr wn.heap.size wr.heap.size [⟨A2, c2, rnP xs⟩, ⟨B1, kk, rnTo xs.length ys ys.length⟩] [] :=
          ((Own.one hA (Nat.le_refl _)).lim g (fun r hr => by obtain rfl := List.mem_singleton.1 hr; exact fun q hq => (lA q hq).2)).app ((Own.one hB' (Nat.le_refl _)).wider (by omega) (Nat.le_refl _)) (by omega) (by omega)
        have own := own.span hsp (.inr (by omega))
        have hb4 := (hbw.setCell (p := ⟨w.heap.size + 1, 0, none⟩) (by simp) (Value.slice A2 (rnP xs).length c2)).setCell (p := ⟨w.heap.size + 1, 1, none⟩) (by simp) (Value.slice B1 ys.length kk)
        have l0 := (obj_cell (i := 0) o2).trans rfl
        have l1 := (obj_cell (i := 1) o2).trans rfl
        have hq2 := hsp.size
        have HL := Lib.hid hrl
        clear hsp hrl hzz
        go_wp2_with fail
        refine bodyPost_ret (v := .tuple #[.agg #[.slice A2 (rnP xs).length c2, .slice B1 ys.length kk], .bool true]) (by simp [results, Try.results11, go_sem, l0, l1]) rfl ?_
        rw [H1.out, H2.out, HN.out]
        exact ⟨_, _, _, _, by rw [HL.out], own.wider (by omega) (by omega), hb4⟩
  · have hnf : nearB xs ys = false := by simpa using hn
    have H1 := Lib.hid (show rnG1 xs ys = [] by unfold rnG1; rw [hnf]; rfl)
    have H2 := Lib.hid (show rnG2 xs ys = [] by unfold rnG2; rw [hnf]; rfl)
    have HN := Lib.hid hnf
    (with_reducible refine (near_sb A B c k xs ys w0 false (h.next hb0) hnf).mono ?_)
    rintro e w1 ⟨rfl, hb1⟩
    have oa := obj_below oa hb1 (obj_lt oa)
    have ob := obj_below ob hb1 (obj_lt ob)
    have hb := hb0.trans (hb1.mono hb0.size)
    have f0 : w1.cell? ⟨w.heap.size, 0, none⟩ = some (Value.slice A xs.length c) := (obj_cell oa).trans rfl
    have g0 : w1.cell? ⟨w.heap.size + 1, 0, none⟩ = some (Value.slice none 0 0) := (obj_cell ob).trans rfl
    have g1 : w1.cell? ⟨w.heap.size + 1, 1, none⟩ = some (Value.slice none 0 0) := (obj_cell ob).trans rfl
    have g2 : w1.frozen? ⟨w.heap.size + 1, 0, none⟩ = false := obj_frozen ob
    have g3 : w1.frozen? ⟨w.heap.size + 1, 1, none⟩ = false := obj_frozen ob
    have o2 := obj_set (i := 1) (obj_set (i := 0) ob (Value.slice none 0 0)) (Value.slice none 0 0)
    have hb4 := (hb.setCell (p := ⟨w.heap.size + 1, 0, none⟩) (by simp) (Value.slice none 0 0)).setCell (p := ⟨w.heap.size + 1, 1, none⟩) (by simp) (Value.slice none 0 0)
    have l0 := (obj_cell (i := 0) o2).trans rfl
    have l1 := (obj_cell (i := 1) o2).trans rfl
    clear hn hnf
    go_wp2_with fail
    refine bodyPost_ret (v := .tuple #[.agg #[.slice none 0 0, .slice none 0 0], .bool false]) (by simp [results, Try.results11, go_sem, l0, l1]) rfl ?_
    rw [H1.out, H2.out, HN.out]
    exact ⟨_, _, _, _, rfl, own_nilrow _ _ _, hb4⟩
end Go.Proofs.Ythkggnmfdlggbaa
