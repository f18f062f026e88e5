/- MeshOf, program and reference. -/
import Derived.Test.YtgodlofkilgfjaaL3
import Derived.Test.YtgodlofkilgfjaaL2
import Derived.Test.YtgodlofkilgfjaaN1
import Derived.Test.YtgodlofkilgfjaaM2
import Derived.Test.YtgodlofkilgfjaaQ1
import Derived.Deep.RegionHeld3
import Derived.StillTailTactics
import Derived.Deep.RegionLaw
import Derived.Deep.AppendLies
namespace Go.Proofs.Ytgodlofkilgfjaa
open Go Go.RowKit

def boxesTo (i : Int) (y : Nat) : List (List Int) := (List.range y).map fun y : Nat => [i, (y : Int)]
theorem boxesTo_succ (i : Int) (y : Nat) : boxesTo i (y + 1) = boxesTo i y ++ [[i, (y : Int)]] := by simp [boxesTo, List.range_succ]
theorem boxesTo_length (i : Int) (y : Nat) : (boxesTo i y).length = y := by simp [boxesTo]
def boxesL (n : Nat) (ys : List Int) : List (List Int) := ys.flatMap fun i => boxesTo i (n + 1)
theorem boxesL_succ (n : Nat) (ys : List Int) (k : Nat) (h : k < ys.length) : boxesL n (ys.take (k + 1)) = boxesL n (ys.take k) ++ boxesTo ys[k] (n + 1) := by
  unfold boxesL
  rw [List.take_succ_eq_append_getElem h, List.flatMap_append]; simp
theorem boxesL_le (n : Nat) (ys : List Int) : (boxesL n ys).length ≤ ys.length * (n + 1) := flatMap_le _ _ _ fun i _ => by rw [boxesTo_length]; exact Nat.le_refl _
theorem boxesL_two {n : Nat} {ys : List Int} {s : List Int} (h : s ∈ boxesL n ys) : s.length = 2 := by
  obtain ⟨i, _, hs⟩ := List.mem_flatMap.1 h
  obtain ⟨y, _, rfl⟩ := List.mem_map.1 hs
  rfl
theorem sizeX_two {X : List (List Int)} (h : ∀ s ∈ X, s.length = 2) : sizeX X = 2 * X.length := by
  induction X with
  | nil => rfl
  | cons a t ih =>
    have h1 := h a (by simp)
    have h2 := ih (fun s hs => h s (by simp [hs]))
    simp only [sizeX, List.map_cons, List.sum_cons, List.length_cons] at h2 ⊢
    omega
theorem nearB_len {xs ys : List Int} (h : nearB xs ys = true) : ys.length ≤ 8 := by
  unfold nearB at h
  rw [Bool.and_eq_true] at h
  have h8 := (permB_true h.1).1
  have hj : ∀ j, j < ys.length → joinAt xs.length ys j = true := fun j hj => by
    have := h.2
    unfold joinTo at this
    exact List.all_eq_true.1 this j (List.mem_range.2 hj)
  have hge : ∀ j (hj' : j < ys.length), (j : Int) + 1 ≤ ys[j] := by
    intro j
    induction j with
    | zero =>
      intro h0
      have := hj 0 h0
      simp only [joinAt, List.getElem?_eq_getElem h0, Option.getD_some, decide_eq_true_eq] at this
      omega
    | succ j ih =>
      intro h0
      have h1 := ih (by omega)
      have := hj (j + 1) h0
      simp only [joinAt, List.getElem?_eq_getElem h0, Nat.add_sub_cancel, List.getElem?_eq_getElem (show j < ys.length by omega), Option.getD_some, decide_eq_true_eq] at this
      omega
  rcases Nat.eq_zero_or_pos ys.length with h0 | h0
  · omega
  · have h1 := hge (ys.length - 1) (by omega)
    have := hj (ys.length - 1) (by omega)
    simp only [joinAt, List.getElem?_eq_getElem (show ys.length - 1 < ys.length by omega), Option.getD_some, decide_eq_true_eq] at this
    omega

def moB (xs ys : List Int) : Bool := nearB xs ys && decide (xs.length ≤ 4)
def moG1 (xs ys : List Int) : List Int := if moB xs ys = true then xs else []
def moG2 (xs ys : List Int) : List (List Int) := if moB xs ys = true then boxesL xs.length ys else []
theorem moG_le (xs ys : List Int) : (moG1 xs ys).length + ((moG2 xs ys).length + sizeX (moG2 xs ys)) ≤ 1048576 := by
  unfold moG1 moG2
  by_cases h : moB xs ys = true
  · rw [if_pos h, if_pos h]
    unfold moB at h
    rw [Bool.and_eq_true, decide_eq_true_eq] at h
    have h1 := nearB_len h.1
    have h2 := boxesL_le xs.length ys
    have h3 := Nat.mul_le_mul h1 (show xs.length + 1 ≤ 5 by omega)
    rw [sizeX_two fun s hs => boxesL_two hs]
    omega
  · rw [if_neg h, if_neg h]
    simp [sizeX]
/-- A call's result: a mesh of its own, and a truth value. -/
def RetMb (w : World) (xs : List Int) (X : List (List Int)) (b : Bool) (e : Ending) (w' : World) : Prop :=
  ∃ A B c k rs, e = .returned (.tuple #[.agg #[.slice A xs.length c, .slice B rs.length k], .bool b]) ∧ rs.map Row.xs = X ∧ Own w' w.heap.size w'.heap.size (⟨A, c, xs⟩ :: rs) [⟨B, k, rs.map Row.v⟩] ∧ Below w.heap.size w w'
theorem own_nilmesh (w : World) (lo hi : Nat) : Own w lo hi [⟨none, 0, []⟩] [⟨none, 0, ([] : List Row).map Row.v⟩] := by
  refine ⟨fun r hr => ?_, fun r hr g hg => ?_, List.pairwise_singleton _ _, fun o ho => ?_, fun o ho g hg => ?_⟩
  · obtain rfl := List.mem_singleton.1 hr
    exact ⟨rfl, .inl ⟨rfl, rfl⟩⟩
  · obtain rfl := List.mem_singleton.1 hr
    cases hg
  · obtain rfl := List.mem_singleton.1 ho
    exact ⟨rfl, .inl ⟨rfl, rfl⟩⟩
  · obtain rfl := List.mem_singleton.1 ho
    cases hg
theorem grown_drew {w w' : World} {row : Option Nat} (h : w.drew.grownBy w' row) : w.grownBy w' row := ⟨h.os, h.tape, h.output, h.size, h.block⟩
theorem near_ib (A B : Option Addr) (c k : Nat) (xs ys : List Int) (w : World) (b : Bool) (h : InN w A c xs B k ys) (hb : nearB xs ys = b) :
    Calls Try.prog 24 #[.agg #[.slice A xs.length c, .slice B ys.length k]] w (Rb w (.bool b)) := by subst hb; exact near_impl A B c k xs ys w h
theorem near_sb (A B : Option Addr) (c k : Nat) (xs ys : List Int) (w : World) (b : Bool) (h : InN w A c xs B k ys) (hb : nearB xs ys = b) :
    Calls Try.prog 22 #[.agg #[.slice A xs.length c, .slice B ys.length k]] w (Rb w (.bool b)) := by subst hb; exact near_spec A B c k xs ys w h

set_option maxHeartbeats 4000000 in
theorem meshOf_impl (A B : Option Addr) (c k : Nat) (xs ys : List Int) (w : World) (h : InN w A c xs B k ys) :
    Calls Try.prog 48 #[.agg #[.slice A xs.length c, .slice B ys.length k]] w (RetMb w (moG1 xs ys) (moG2 xs ys) (moB xs ys)) := by
  obtain ⟨j0, hj, hy0, hy1, hy2⟩ := info_parts infoL
  have hlx := h.1.len
  have hly := h.2.len
  go_enter Try.func48, Try.ntmps48
  have hb0 : Below w.heap.size w ((w.alloc (Obj.cells #[Value.slice A xs.length c, Value.slice B ys.length k] 31)).alloc (Obj.cells #[Value.slice none 0 0, Value.slice none 0 0] 47)) := ((Below.refl _ _).alloc (Nat.le_refl _) _).alloc (by simp) _
  go_wp2_with fail
  have oa := obj_alloc (obj_new w (Obj.cells #[Value.slice A xs.length c, Value.slice B ys.length k] 31)) (Obj.cells #[Value.slice none 0 0, Value.slice none 0 0] 47)
  have ob := obj_new (w.alloc (Obj.cells #[Value.slice A xs.length c, Value.slice B ys.length k] 31)) (Obj.cells #[Value.slice none 0 0, Value.slice none 0 0] 47)
  have hz0 : ((w.alloc (Obj.cells #[Value.slice A xs.length c, Value.slice B ys.length k] 31)).alloc (Obj.cells #[Value.slice none 0 0, Value.slice none 0 0] 47)).heap.size = w.heap.size + 1 + 1 := by simp
  simp only [World.size_alloc] at ob
  generalize ((w.alloc (Obj.cells #[Value.slice A xs.length c, Value.slice B ys.length k] 31)).alloc (Obj.cells #[Value.slice none 0 0, Value.slice none 0 0] 47)) = w0 at hb0 oa ob hz0 ⊢
  by_cases hn : nearB xs ys = true
  · have HN := Lib.hid hn
    (with_reducible refine (near_ib A B c k xs ys w0 true (h.next hb0) HN.out).mono ?_)
    rintro e w1 ⟨rfl, hb1⟩
    have oa := obj_below oa hb1 (obj_lt oa)
    have ob := obj_below ob hb1 (obj_lt ob)
    have hb := hb0.trans (hb1.mono hb0.size)
    have hsz1 := hb1.size
    have f0 : w1.cell? ⟨w.heap.size, 0, none⟩ = some (Value.slice A xs.length c) := (obj_cell oa).trans rfl
    have f1 : w1.cell? ⟨w.heap.size, 1, none⟩ = some (Value.slice B ys.length k) := (obj_cell oa).trans rfl
    have hb1h := Lib.hid hb1
    clear hn hb1
    by_cases h4 : xs.length ≤ 4
    · have H1 := Lib.hid (show moG1 xs ys = xs by unfold moG1 moB; rw [HN.out, decide_eq_true h4]; rfl)
      have H2 := Lib.hid (show moG2 xs ys = boxesL xs.length ys by unfold moG2 moB; rw [HN.out, decide_eq_true h4]; rfl)
      have H3 := Lib.hid (show moB xs ys = true by unfold moB; rw [HN.out, decide_eq_true h4]; rfl)
      have d4 : decide ((xs.length : Int) > 4) = false := decide_eq_false (by omega)
      go_wp2_with fail
      (with_reducible refine (clone_any A c xs w1 (h.1.next hb)).mono ?_)
      rintro e w2 ⟨A2, c2, rfl, _, _, own2, hb2⟩
      have oa := obj_below oa hb2 (obj_lt oa)
      have ob := obj_below ob hb2 (obj_lt ob)
      have hb' := hb.trans (hb2.mono hb.size)
      have hsz2 := hb2.size
      have hsb := hb'.size
      have oa3 := obj_alloc oa (Obj.cells #[Value.slice A2 xs.length c2, Value.slice none 0 0] 47)
      have ob3 := obj_alloc ob (Obj.cells #[Value.slice A2 xs.length c2, Value.slice none 0 0] 47)
      have oc3 := obj_new w2 (Obj.cells #[Value.slice A2 xs.length c2, Value.slice none 0 0] 47)
      have hA3 := own2.alloc (Obj.cells #[Value.slice A2 xs.length c2, Value.slice none 0 0] 47)
      have lA : ∀ q, (Value.slice A2 xs.length c2).ownBlock = some q → w1.heap.size ≤ q ∧ q < w2.heap.size := fun q hq => own2.lt q hq
      have hb3 := hb'.alloc hsb (Obj.cells #[Value.slice A2 xs.length c2, Value.slice none 0 0] 47)
      have hz3 : (w2.alloc (Obj.cells #[Value.slice A2 xs.length c2, Value.slice none 0 0] 47)).heap.size = w2.heap.size + 1 := by simp
      have g0 : (w2.alloc (Obj.cells #[Value.slice A2 xs.length c2, Value.slice none 0 0] 47)).cell? ⟨w.heap.size, 1, none⟩ = some (Value.slice B ys.length k) := (obj_cell oa3).trans rfl
      have hys := ((h.2.next hb3).rd)
      have hlt2 : w.heap.size + 1 < w2.heap.size := by omega
      clear own2 hb2 hb oa ob d4 h4
      go_wp2_with fail
      generalize (w2.alloc (Obj.cells #[Value.slice A2 xs.length c2, Value.slice none 0 0] 47)) = w3 at oa3 ob3 oc3 hA3 hb3 hz3 hys g0 ⊢
      obtain ⟨g, hg⟩ : ∃ g, g = w2.heap.size := ⟨_, rfl⟩
      rw [← hg] at oc3 hz3 lA hlt2 hsb hsz2 ⊢
      have HZ3 := Lib.hid hz3
      have HBP := Lib.hid hb'
      clear hz3 hg hb'
      go_loopw [25] (fun i wr => ∃ (j : Nat) (D : Option Addr) (d : Nat) (rs : List Row), j ≤ ys.length ∧ i = .int .i64 j ∧ wr.heap[w.heap.size]? = some (Obj.cells #[Value.slice A xs.length c, Value.slice B ys.length k] 31) ∧
        wr.heap[w.heap.size + 1]? = some (Obj.cells #[Value.slice none 0 0, Value.slice none 0 0] 47) ∧ wr.heap[g]? = some (Obj.cells #[Value.slice A2 xs.length c2, Value.slice D rs.length d] 47) ∧
        wr.ownsRow w1.heap.size 3 1 (.slice A2 xs.length c2) xs.length (xs.map (Value.int .i64)) ∧ Own wr w3.heap.size wr.heap.size rs [⟨D, d, rs.map Row.v⟩] ∧ Hid (rs.map Row.xs = boxesL xs.length (ys.take j)) ∧ Below w.heap.size w wr ∧ w3.heap.size ≤ wr.heap.size) (fun i _ => ys.length - (intOf i).toNat)
      case atStart => exact ⟨0, none, 0, [], Nat.zero_le _, rfl, oa3, ob3, oc3, hA3, Own.nil_list _ _ _, Lib.hid rfl, hb3, Nat.le_refl _⟩
      case round =>
        clear oa3 ob3 oc3 hA3 hb3 g0 hys
        obtain ⟨j, D, d, rs, hjl, rfl, oa, ob, oc, hA, hO, HX, hbw, hsw⟩ := hrel
        by_cases hlt : j < ys.length
        · have hys := (h.2.next hbw).rd
          obtain ⟨b, off, rfl, hbb, hc⟩ := hys (by omega)
          have c1 := hc j hlt
          have f0 : wr.cell? ⟨w.heap.size, 0, none⟩ = some (Value.slice A xs.length c) := (obj_cell oa).trans rfl
          obtain ⟨iv, hiv⟩ : ∃ iv, iv = ys[j] := ⟨_, rfl⟩
          rw [← hiv] at c1
          have HIV := Lib.hid hiv
          clear hc hys hiv
          obtain ⟨wo, rfl⟩ : ∃ wo : World, wo = wr := ⟨_, rfl⟩
          go_wp2_with fail
          go_loopw [33] (fun i wr => ∃ (y : Nat) (D : Option Addr) (d : Nat) (rs : List Row), y ≤ xs.length + 1 ∧ i = .int .i64 y ∧ wr.heap[w.heap.size]? = some (Obj.cells #[Value.slice A xs.length c, Value.slice (some ⟨b, off, none⟩) ys.length k] 31) ∧
            wr.heap[w.heap.size + 1]? = some (Obj.cells #[Value.slice none 0 0, Value.slice none 0 0] 47) ∧ wr.heap[g]? = some (Obj.cells #[Value.slice A2 xs.length c2, Value.slice D rs.length d] 47) ∧
            wr.ownsRow w1.heap.size 3 1 (.slice A2 xs.length c2) xs.length (xs.map (Value.int .i64)) ∧ Own wr w3.heap.size wr.heap.size rs [⟨D, d, rs.map Row.v⟩] ∧ Hid (rs.map Row.xs = boxesL xs.length (ys.take j) ++ boxesTo iv y) ∧ Below w.heap.size w wr ∧ w3.heap.size ≤ wr.heap.size) (fun i _ => xs.length + 1 - (intOf i).toNat)
          case atStart => exact ⟨0, D, d, rs, Nat.zero_le _, rfl, oa, ob, oc, hA, hO, Lib.hid (by rw [HX.out]; simp [boxesTo]), hbw, hsw⟩
          case round =>
            clear oa ob oc hA hO HX hbw hsw f0 c1
            obtain ⟨y, D, d, rs, hy, rfl, oa, ob, oc, hA, hO, HX, hbw, hsw⟩ := hrel
            have hcount : rs.length ≤ 8388608 := by
              have h1 := congrArg List.length HX.out
              have h2 := boxesL_le xs.length (ys.take j)
              have h3 : (ys.take j).length ≤ 1048576 := by rw [List.length_take]; omega
              have h4 := Nat.mul_le_mul h3 (show xs.length + 1 ≤ 5 by have := H3.out; unfold moB at this; rw [Bool.and_eq_true, decide_eq_true_eq] at this; omega)
              rw [List.length_map, List.length_append, boxesTo_length] at h1
              omega
            by_cases hlt2 : y < xs.length + 1
            · have HB := Lib.hid (boxesTo_succ iv y)
              have f2 : wr.cell? ⟨g, 1, none⟩ = some (Value.slice D rs.length d) := (obj_cell oc).trans rfl
              have s3 : g < w3.heap.size := by have := HZ3.out; omega
              have hrow : (wr.alloc (.cells #[.int .i64 iv, .int .i64 y] 3)).ownsRow wr.heap.size 3 1 (Row.v ⟨some ⟨wr.heap.size, 0, none⟩, 2, [iv, (y : Int)]⟩) 2 ([iv, (y : Int)].map (Value.int .i64)) := World.ownsRow_lit wr #[.int .i64 iv, .int .i64 y] 2 (Nat.le_refl _) (by unfold maxLen; omega) rfl
              have hbr := (Below.refl wr.heap.size wr).alloc (Nat.le_refl _) (.cells #[.int .i64 iv, .int .i64 y] 3)
              have hO2 := (hO.below hbr).add (r := ⟨some ⟨wr.heap.size, 0, none⟩, 2, [iv, (y : Int)]⟩) hrow (by simp) hsw
              have ho2 := hO2.outN (n := rs.length) (by simp)
              have oar := obj_alloc oa (.cells #[.int .i64 iv, .int .i64 y] 3)
              have obr := obj_alloc ob (.cells #[.int .i64 iv, .int .i64 y] 3)
              have ocr := obj_alloc oc (.cells #[.int .i64 iv, .int .i64 y] 3)
              have hAr := hA.alloc (.cells #[.int .i64 iv, .int .i64 y] 3)
              have hbr2 := hbw.alloc (by omega) (.cells #[.int .i64 iv, .int .i64 y] 3)
              have hlim := hO2.olim (n := rs.length) (by simp)
              clear hbr hrow
              go_wp2_with ((at_builtin; refine wpList_append_own _ rfl _ _ 42 rfl (w3.heap.size) 22 j0 (.slice none 0 0) 1 24 Try.underlying42 hj hy0 hy1 hy2 rfl (by decide) _ _ _ rfl (World.ownsRow.alloc ho2 _) ⟨wr.heap.size + 1, 0, none⟩ 1 1 [Value.slice (some ⟨wr.heap.size, 0, none⟩) 2 2] rfl rfl (cell_one_at _ _ (by simp)) (by intro u hu; simp at hu; subst hu; rfl) (by unfold maxLen; omega) (by omega) (by simp; omega) ?_; intro v9 w9 hown9 hgrow9 _); obtain ⟨A5, c5, rfl, hO6, hg3⟩ := hO2.grow (Nat.le_refl _) (by simp) hown9 hgrow9; have oa1 := (hg3.block _ (obj_lt oar) (by intro he; have := hlim _ he.symm; omega)).trans oar; have ob1 := (hg3.block _ (obj_lt obr) (by intro he; have := hlim _ he.symm; omega)).trans obr; have oc1 := (hg3.block _ (obj_lt ocr) (by intro he; have := hlim _ he.symm; omega)).trans ocr; have f3 : w9.cell? ⟨g, 1, none⟩ = some (Value.slice D rs.length d) := (obj_cell oc1).trans rfl; have f4 : w9.frozen? ⟨g, 1, none⟩ = false := obj_frozen oc1)
              have hA1 := hAr.kept hg3 (own_off (lim := g) (fun q hq => (lA q hq).2) (fun q hq => by have := hlim q hq; omega))
              have hbw3 := hbr2.grown hg3 (by simp; omega) (fun q hq => by have := hlim q hq; omega)
              have hsp : Span g (g + 1) w9 (w9.setCell ⟨g, 1, none⟩ (Value.slice A5 (rs.length + 1) c5)) := Span.set (p := ⟨g, 1, none⟩) (Nat.le_refl _) (Nat.lt_succ_self _) _
              have hA2 := own_span hA1 hsp (fun q hq => .inl (lA q hq).2)
              have hO7 := (hO6.span hsp (.inr (by omega))).wider (Nat.le_refl _) hsp.size
              have oa2 := obj_other (g' := g) (i := 1) oa1 (by omega) (Value.slice A5 (rs.length + 1) c5)
              have ob2 := obj_other (g' := g) (i := 1) ob1 (by omega) (Value.slice A5 (rs.length + 1) c5)
              have oc2 := obj_set (i := 1) oc1 (Value.slice A5 (rs.length + 1) c5)
              have hb5 := hbw3.setCell (p := ⟨g, 1, none⟩) (by simp; omega) (Value.slice A5 (rs.length + 1) c5)
              have hs5 : w3.heap.size ≤ (w9.setCell ⟨g, 1, none⟩ (Value.slice A5 (rs.length + 1) c5)).heap.size := by have h1 := hg3.size; have h2 := hsp.size; simp at h1; omega
              have K := Lib.hid (And.intro oa2 (And.intro ob2 (And.intro oc2 (And.intro hA2 (And.intro hO7 (And.intro hb5 hs5))))))
              clear oa2 ob2 oc2 hA2 hO7 hb5 hs5 hsp hA1 hbw3 hown9 hgrow9 hg3 hO6 oa1 ob1 oc1 f3 f4 f2 hO2 ho2 oar obr ocr hAr hbr2 hlim oa ob oc hA hO hbw
              go_wp2
              go_roundw
              case rel => exact ⟨y + 1, A5, c5, rs ++ [⟨some ⟨wr.heap.size, 0, none⟩, 2, [iv, (y : Int)]⟩], by omega, by go_num, K.out.1, K.out.2.1, by rw [List.length_append]; exact K.out.2.2.1, K.out.2.2.2.1, by simpa [Row.v] using K.out.2.2.2.2.1, Lib.hid (by rw [HB.out, List.map_append, HX.out]; simp), K.out.2.2.2.2.2.1, K.out.2.2.2.2.2.2⟩
              case measure => simp [intOf]; omega
            · obtain rfl : y = xs.length + 1 := by omega
              have HE := Lib.hid (show rs.map Row.xs = boxesL xs.length (ys.take (j + 1)) by rw [HX.out, boxesL_succ _ _ _ hlt, HIV.out])
              go_wp2
              go_roundw
              case rel => exact ⟨j + 1, D, d, rs, by omega, by go_num, oa, ob, oc, hA, hO, HE, hbw, hsw⟩
              case measure => simp [intOf]; omega
        · obtain rfl : j = ys.length := by omega
          have HE := Lib.hid (show rs.map Row.xs = boxesL xs.length ys by rw [HX.out, List.take_length])
          have f0 : wr.cell? ⟨g, 0, none⟩ = some (Value.slice A2 xs.length c2) := (obj_cell oc).trans rfl
          have f1 : wr.cell? ⟨g, 1, none⟩ = some (Value.slice D rs.length d) := (obj_cell oc).trans rfl
          have g0 : wr.cell? ⟨w.heap.size + 1, 0, none⟩ = some (Value.slice none 0 0) := (obj_cell ob).trans rfl
          have g1 : wr.cell? ⟨w.heap.size + 1, 1, none⟩ = some (Value.slice none 0 0) := (obj_cell ob).trans rfl
          have g2 : wr.frozen? ⟨w.heap.size + 1, 0, none⟩ = false := obj_frozen ob
          have g3 : wr.frozen? ⟨w.heap.size + 1, 1, none⟩ = false := obj_frozen ob
          have o2 := obj_set (i := 1) (obj_set (i := 0) ob (Value.slice A2 xs.length c2)) (Value.slice D rs.length d)
          have s3 := HZ3.out
          have hsp : Span w.heap.size (w.heap.size + 1 + 1) wr ((wr.setCell ⟨w.heap.size + 1, 0, none⟩ (Value.slice A2 xs.length c2)).setCell ⟨w.heap.size + 1, 1, none⟩ (Value.slice D rs.length d)) :=
            (Span.set (p := ⟨w.heap.size + 1, 0, none⟩) (by simp) (by simp) _).trans (Span.set (p := ⟨w.heap.size + 1, 1, none⟩) (by simp) (by simp) _)
          have hr0 : Own wr w1.heap.size g [⟨A2, c2, xs⟩] [] := (Own.one hA (Nat.le_refl _)).lim g (fun r hr q hq => by obtain rfl := List.mem_singleton.1 hr; exact (lA q hq).2)
          have own : Own wr w1.heap.size wr.heap.size (⟨A2, c2, xs⟩ :: rs) [⟨D, d, rs.map Row.v⟩] := by
            have := hr0.app (hO.wider (show g ≤ w3.heap.size by omega) (Nat.le_refl _)) (by omega) (by omega)
            simpa using this
          have own := own.span hsp (.inr (by omega))
          have hb4 := (hbw.setCell (p := ⟨w.heap.size + 1, 0, none⟩) (by simp) (Value.slice A2 xs.length c2)).setCell (p := ⟨w.heap.size + 1, 1, none⟩) (by simp) (Value.slice D rs.length d)
          have l0 := (obj_cell (i := 0) o2).trans rfl
          have l1 := (obj_cell (i := 1) o2).trans rfl
          have hq2 := hsp.size
          clear hsp s3
          go_wp2_with fail
          refine bodyPost_ret (v := .tuple #[.agg #[.slice A2 xs.length c2, .slice D rs.length d], .bool true]) (by simp [results, Try.results48, go_sem, l0, l1]) rfl ?_
          rw [H1.out, H2.out, H3.out]
          exact ⟨_, _, _, _, rs, rfl, HE.out, own.wider (by omega) (by omega), hb4⟩
    · have H1 := Lib.hid (show moG1 xs ys = [] by unfold moG1 moB; rw [HN.out, decide_eq_false h4]; rfl)
      have H2 := Lib.hid (show moG2 xs ys = [] by unfold moG2 moB; rw [HN.out, decide_eq_false h4]; rfl)
      have H3 := Lib.hid (show moB xs ys = false by unfold moB; rw [HN.out, decide_eq_false h4]; rfl)
      have d4 : decide ((xs.length : Int) > 4) = true := decide_eq_true (by omega)
      have g0 : w1.cell? ⟨w.heap.size + 1, 0, none⟩ = some (Value.slice none 0 0) := (obj_cell ob).trans rfl
      have g1 : w1.cell? ⟨w.heap.size + 1, 1, none⟩ = some (Value.slice none 0 0) := (obj_cell ob).trans rfl
      have g2 : w1.frozen? ⟨w.heap.size + 1, 0, none⟩ = false := obj_frozen ob
      have g3 : w1.frozen? ⟨w.heap.size + 1, 1, none⟩ = false := obj_frozen ob
      have o2 := obj_set (i := 1) (obj_set (i := 0) ob (Value.slice none 0 0)) (Value.slice none 0 0)
      have hb4 := (hb.setCell (p := ⟨w.heap.size + 1, 0, none⟩) (by simp) (Value.slice none 0 0)).setCell (p := ⟨w.heap.size + 1, 1, none⟩) (by simp) (Value.slice none 0 0)
      have l0 := (obj_cell (i := 0) o2).trans rfl
      have l1 := (obj_cell (i := 1) o2).trans rfl
      clear h4
      go_wp2_with fail
      refine bodyPost_ret (v := .tuple #[.agg #[.slice none 0 0, .slice none 0 0], .bool false]) (by simp [results, Try.results48, go_sem, l0, l1]) rfl ?_
      rw [H1.out, H2.out, H3.out]
      exact ⟨_, _, _, _, [], rfl, rfl, own_nilmesh _ _ _, hb4⟩
  · have hnf : nearB xs ys = false := by simpa using hn
    have H1 := Lib.hid (show moG1 xs ys = [] by unfold moG1 moB; rw [hnf]; rfl)
    have H2 := Lib.hid (show moG2 xs ys = [] by unfold moG2 moB; rw [hnf]; rfl)
    have H3 := Lib.hid (show moB xs ys = false by unfold moB; rw [hnf]; rfl)
    (with_reducible refine (near_ib A B c k xs ys w0 false (h.next hb0) hnf).mono ?_)
    rintro e w1 ⟨rfl, hb1⟩
    have oa := obj_below oa hb1 (obj_lt oa)
    have ob := obj_below ob hb1 (obj_lt ob)
    have hb := hb0.trans (hb1.mono hb0.size)
    have f0 : w1.cell? ⟨w.heap.size, 0, none⟩ = some (Value.slice A xs.length c) := (obj_cell oa).trans rfl
    have g0 : w1.cell? ⟨w.heap.size + 1, 0, none⟩ = some (Value.slice none 0 0) := (obj_cell ob).trans rfl
    have g1 : w1.cell? ⟨w.heap.size + 1, 1, none⟩ = some (Value.slice none 0 0) := (obj_cell ob).trans rfl
    have g2 : w1.frozen? ⟨w.heap.size + 1, 0, none⟩ = false := obj_frozen ob
    have g3 : w1.frozen? ⟨w.heap.size + 1, 1, none⟩ = false := obj_frozen ob
    have o2 := obj_set (i := 1) (obj_set (i := 0) ob (Value.slice none 0 0)) (Value.slice none 0 0)
    have hb4 := (hb.setCell (p := ⟨w.heap.size + 1, 0, none⟩) (by simp) (Value.slice none 0 0)).setCell (p := ⟨w.heap.size + 1, 1, none⟩) (by simp) (Value.slice none 0 0)
    have l0 := (obj_cell (i := 0) o2).trans rfl
    have l1 := (obj_cell (i := 1) o2).trans rfl
    clear hn hnf
    go_wp2_with fail
    refine bodyPost_ret (v := .tuple #[.agg #[.slice none 0 0, .slice none 0 0], .bool false]) (by simp [results, Try.results48, go_sem, l0, l1]) rfl ?_
    rw [H1.out, H2.out, H3.out]
    exact ⟨_, _, _, _, [], rfl, rfl, own_nilmesh _ _ _, hb4⟩

set_option maxHeartbeats 4000000 in
theorem meshOf_spec (A B : Option Addr) (c k : Nat) (xs ys : List Int) (w : World) (h : InN w A c xs B k ys) :
    Calls Try.prog 47 #[.agg #[.slice A xs.length c, .slice B ys.length k]] w (RetMb w (moG1 xs ys) (moG2 xs ys) (moB xs ys)) := by
  obtain ⟨j0, hj, hy0, hy1, hy2⟩ := info_parts infoL
  obtain ⟨i0, hi, hz0, hz1, hz2⟩ := info_parts infoI
  have hlx := h.1.len
  have hly := h.2.len
  go_enter Try.func47, Try.ntmps47
  have hb0 : Below w.heap.size w ((w.alloc (Obj.cells #[Value.slice A xs.length c, Value.slice B ys.length k] 31)).alloc (Obj.cells #[Value.slice none 0 0, Value.slice none 0 0] 47)) := ((Below.refl _ _).alloc (Nat.le_refl _) _).alloc (by simp) _
  go_wp2_with fail
  have oa := obj_alloc (obj_new w (Obj.cells #[Value.slice A xs.length c, Value.slice B ys.length k] 31)) (Obj.cells #[Value.slice none 0 0, Value.slice none 0 0] 47)
  have ob := obj_new (w.alloc (Obj.cells #[Value.slice A xs.length c, Value.slice B ys.length k] 31)) (Obj.cells #[Value.slice none 0 0, Value.slice none 0 0] 47)
  have hzz : ((w.alloc (Obj.cells #[Value.slice A xs.length c, Value.slice B ys.length k] 31)).alloc (Obj.cells #[Value.slice none 0 0, Value.slice none 0 0] 47)).heap.size = w.heap.size + 1 + 1 := by simp
  simp only [World.size_alloc] at ob
  generalize ((w.alloc (Obj.cells #[Value.slice A xs.length c, Value.slice B ys.length k] 31)).alloc (Obj.cells #[Value.slice none 0 0, Value.slice none 0 0] 47)) = w0 at hb0 oa ob hzz ⊢
  by_cases hn : nearB xs ys = true
  · have HN := Lib.hid hn
    (with_reducible refine (near_sb A B c k xs ys w0 true (h.next hb0) HN.out).mono ?_)
    rintro e w1 ⟨rfl, hb1⟩
    have oa := obj_below oa hb1 (obj_lt oa)
    have ob := obj_below ob hb1 (obj_lt ob)
    have hb := hb0.trans (hb1.mono hb0.size)
    have hsz1 := hb1.size
    have f0 : w1.cell? ⟨w.heap.size, 0, none⟩ = some (Value.slice A xs.length c) := (obj_cell oa).trans rfl
    have f1 : w1.cell? ⟨w.heap.size, 1, none⟩ = some (Value.slice B ys.length k) := (obj_cell oa).trans rfl
    have hb1h := Lib.hid hb1
    clear hn hb1
    by_cases h4 : xs.length ≤ 4
    · have H1 := Lib.hid (show moG1 xs ys = xs by unfold moG1 moB; rw [HN.out, decide_eq_true h4]; rfl)
      have H2 := Lib.hid (show moG2 xs ys = boxesL xs.length ys by unfold moG2 moB; rw [HN.out, decide_eq_true h4]; rfl)
      have H3 := Lib.hid (show moB xs ys = true by unfold moB; rw [HN.out, decide_eq_true h4]; rfl)
      have d4 : decide ((xs.length : Int) > 4) = false := decide_eq_false (by omega)
      have own0 : (w1.alloc (.cells #[] 3)).ownsRow w1.heap.size 3 1 (.slice (some ⟨w1.heap.size, 0, none⟩) 0 0) 0 [] := World.ownsRow_lit w1 #[] 0 (Nat.le_refl _) (by unfold maxLen; omega) rfl
      have hx0 := (h.1.next hb).rd.alloc (Nat.le_refl _) (.cells #[] 3)
      have hbA := (Below.refl w1.heap.size w1).alloc (Nat.le_refl _) (.cells #[] 3)
      have fq : (w1.alloc (.cells #[] 3)).cell? ⟨w.heap.size, 0, none⟩ = some (Value.slice A xs.length c) := (obj_cell (i := 0) (obj_alloc oa (.cells #[] 3))).trans rfl
      go_wp2_with ((at_builtin; refine wpList_append_rd _ rfl _ _ 22 rfl (w1.heap.size) 3 i0 (.int .i64 0) 8 Try.underlying22 hi hz0 hz1 hz2 rfl _ _ _ rfl own0 _ _ _ _ (xs) rfl rfl hx0 (fun _ => rfl) (by unfold maxLen; omega) (by omega) (by first | omega | (simp; done) | (simp; omega)) ?_; intro v2 w2 hown2 hgrow2); simp only [Nat.zero_add, List.nil_append] at hown2; obtain ⟨A2, c2, rfl, _, _⟩ := own_shape hown2; have hb2 := hbA.grown hgrow2 (by simp) (fun g hg => (own0.lt g hg).1))
      have oa := obj_below oa hb2 (obj_lt oa)
      have ob := obj_below ob hb2 (obj_lt ob)
      have own2 := hown2
      clear hown2 hgrow2 hbA hx0 own0 fq
      have hb' := hb.trans (hb2.mono hb.size)
      have hsz2 := hb2.size
      have hsb := hb'.size
      have oa3 := obj_alloc oa (Obj.cells #[Value.slice A2 xs.length c2, Value.slice none 0 0] 47)
      have ob3 := obj_alloc ob (Obj.cells #[Value.slice A2 xs.length c2, Value.slice none 0 0] 47)
      have oc3 := obj_new w2 (Obj.cells #[Value.slice A2 xs.length c2, Value.slice none 0 0] 47)
      have hA3 := own2.alloc (Obj.cells #[Value.slice A2 xs.length c2, Value.slice none 0 0] 47)
      have lA : ∀ q, (Value.slice A2 xs.length c2).ownBlock = some q → w1.heap.size ≤ q ∧ q < w2.heap.size := fun q hq => own2.lt q hq
      have hb3 := hb'.alloc hsb (Obj.cells #[Value.slice A2 xs.length c2, Value.slice none 0 0] 47)
      have hz3 : (w2.alloc (Obj.cells #[Value.slice A2 xs.length c2, Value.slice none 0 0] 47)).heap.size = w2.heap.size + 1 := by simp
      have g0 : (w2.alloc (Obj.cells #[Value.slice A2 xs.length c2, Value.slice none 0 0] 47)).cell? ⟨w.heap.size, 1, none⟩ = some (Value.slice B ys.length k) := (obj_cell oa3).trans rfl
      have hys := ((h.2.next hb3).rd)
      have hlt2 : w.heap.size + 1 < w2.heap.size := by omega
      clear own2 hb2 hb oa ob d4 h4
      generalize (w2.alloc (Obj.cells #[Value.slice A2 xs.length c2, Value.slice none 0 0] 47)) = w3 at oa3 ob3 oc3 hA3 hb3 hz3 hys g0 ⊢
      obtain ⟨g, hg⟩ : ∃ g, g = w2.heap.size := ⟨_, rfl⟩
      rw [← hg] at oc3 hz3 lA hlt2 hsb hsz2 ⊢
      have HZ3 := Lib.hid hz3
      have HBP := Lib.hid hb'
      clear hz3 hg hb'
      go_loopw [5] (fun i wr => ∃ (j : Nat) (D : Option Addr) (d : Nat) (rs : List Row), j ≤ ys.length ∧ i = .int .i64 j ∧ wr.heap[w.heap.size]? = some (Obj.cells #[Value.slice A xs.length c, Value.slice B ys.length k] 31) ∧
        wr.heap[w.heap.size + 1]? = some (Obj.cells #[Value.slice none 0 0, Value.slice none 0 0] 47) ∧ wr.heap[g]? = some (Obj.cells #[Value.slice A2 xs.length c2, Value.slice D rs.length d] 47) ∧
        wr.ownsRow w1.heap.size 3 1 (.slice A2 xs.length c2) xs.length (xs.map (Value.int .i64)) ∧ Own wr w3.heap.size wr.heap.size rs [⟨D, d, rs.map Row.v⟩] ∧ Hid (rs.map Row.xs = boxesL xs.length (ys.take j)) ∧ Below w.heap.size w wr ∧ w3.heap.size ≤ wr.heap.size) (fun i _ => ys.length - (intOf i).toNat)
      case atStart => exact ⟨0, none, 0, [], Nat.zero_le _, rfl, oa3, ob3, oc3, hA3, Own.nil_list _ _ _, Lib.hid rfl, hb3, Nat.le_refl _⟩
      case round =>
        clear oa3 ob3 oc3 hA3 hb3 g0 hys
        obtain ⟨j, D, d, rs, hjl, rfl, oa, ob, oc, hA, hO, HX, hbw, hsw⟩ := hrel
        have fB : wr.cell? ⟨w.heap.size, 1, none⟩ = some (Value.slice B ys.length k) := (obj_cell oa).trans rfl
        by_cases hlt : j < ys.length
        · have hys := (h.2.next hbw).rd
          obtain ⟨b, off, rfl, hbb, hc⟩ := hys (by omega)
          have c1 := hc j hlt
          have f0 : wr.cell? ⟨w.heap.size, 0, none⟩ = some (Value.slice A xs.length c) := (obj_cell oa).trans rfl
          obtain ⟨iv, hiv⟩ : ∃ iv, iv = ys[j] := ⟨_, rfl⟩
          rw [← hiv] at c1
          have HIV := Lib.hid hiv
          clear hc hys hiv
          obtain ⟨wo, rfl⟩ : ∃ wo : World, wo = wr := ⟨_, rfl⟩
          go_wp2_with fail
          go_loopw [6] (fun i wr => ∃ (y : Nat) (D : Option Addr) (d : Nat) (rs : List Row), y ≤ xs.length + 1 ∧ i = .int .i64 y ∧ wr.heap[w.heap.size]? = some (Obj.cells #[Value.slice A xs.length c, Value.slice (some ⟨b, off, none⟩) ys.length k] 31) ∧
            wr.heap[w.heap.size + 1]? = some (Obj.cells #[Value.slice none 0 0, Value.slice none 0 0] 47) ∧ wr.heap[g]? = some (Obj.cells #[Value.slice A2 xs.length c2, Value.slice D rs.length d] 47) ∧
            wr.ownsRow w1.heap.size 3 1 (.slice A2 xs.length c2) xs.length (xs.map (Value.int .i64)) ∧ Own wr w3.heap.size wr.heap.size rs [⟨D, d, rs.map Row.v⟩] ∧ Hid (rs.map Row.xs = boxesL xs.length (ys.take j) ++ boxesTo iv y) ∧ Below w.heap.size w wr ∧ w3.heap.size ≤ wr.heap.size) (fun i _ => xs.length + 1 - (intOf i).toNat)
          case atStart => exact ⟨0, D, d, rs, Nat.zero_le _, rfl, oa, ob, oc, hA, hO, Lib.hid (by rw [HX.out]; simp [boxesTo]), hbw, hsw⟩
          case round =>
            clear oa ob oc hA hO HX hbw hsw f0 c1 fB
            obtain ⟨y, D, d, rs, hy, rfl, oa, ob, oc, hA, hO, HX, hbw, hsw⟩ := hrel
            have fA : wr.cell? ⟨w.heap.size, 0, none⟩ = some (Value.slice A xs.length c) := (obj_cell oa).trans rfl
            have fB : wr.cell? ⟨w.heap.size, 1, none⟩ = some (Value.slice (some ⟨b, off, none⟩) ys.length k) := (obj_cell oa).trans rfl
            have c1 : wr.cell? ⟨b, off + j, none⟩ = some (.int .i64 iv) := by
              have h1 := (h.2.next hbw).rd (by omega)
              obtain ⟨b', off', he, _, hc⟩ := h1
              injection he with he
              injection he with he1 he2 _
              subst he1 he2
              rw [HIV.out]; exact hc j hlt
            have hcount : rs.length ≤ 8388608 := by
              have h1 := congrArg List.length HX.out
              have h2 := boxesL_le xs.length (ys.take j)
              have h3 : (ys.take j).length ≤ 1048576 := by rw [List.length_take]; omega
              have h4 := Nat.mul_le_mul h3 (show xs.length + 1 ≤ 5 by have := H3.out; unfold moB at this; rw [Bool.and_eq_true, decide_eq_true_eq] at this; omega)
              rw [List.length_map, List.length_append, boxesTo_length] at h1
              omega
            by_cases hlt2 : y < xs.length + 1
            · have HB := Lib.hid (boxesTo_succ iv y)
              have f2 : wr.cell? ⟨g, 1, none⟩ = some (Value.slice D rs.length d) := (obj_cell oc).trans rfl
              have s3 : g < w3.heap.size := by have := HZ3.out; omega
              have hrow : (wr.alloc (.cells #[.int .i64 iv, .int .i64 y] 3)).ownsRow wr.heap.size 3 1 (Row.v ⟨some ⟨wr.heap.size, 0, none⟩, 2, [iv, (y : Int)]⟩) 2 ([iv, (y : Int)].map (Value.int .i64)) := World.ownsRow_lit wr #[.int .i64 iv, .int .i64 y] 2 (Nat.le_refl _) (by unfold maxLen; omega) rfl
              have hbr := (Below.refl wr.heap.size wr).alloc (Nat.le_refl _) (.cells #[.int .i64 iv, .int .i64 y] 3)
              have hO2 := (hO.below hbr).add (r := ⟨some ⟨wr.heap.size, 0, none⟩, 2, [iv, (y : Int)]⟩) hrow (by simp) hsw
              have ho2 := hO2.outN (n := rs.length) (by simp)
              have oar := obj_alloc oa (.cells #[.int .i64 iv, .int .i64 y] 3)
              have obr := obj_alloc ob (.cells #[.int .i64 iv, .int .i64 y] 3)
              have ocr := obj_alloc oc (.cells #[.int .i64 iv, .int .i64 y] 3)
              have hAr := hA.alloc (.cells #[.int .i64 iv, .int .i64 y] 3)
              have hbr2 := hbw.alloc (by omega) (.cells #[.int .i64 iv, .int .i64 y] 3)
              have hlim := hO2.olim (n := rs.length) (by simp)
              clear hbr hrow
              have hbg : b < g := by
                have h1 := (h.2.rd (by omega))
                obtain ⟨b', off', he, hb', _⟩ := h1
                injection he with he
                injection he with he1 _ _
                omega
              have fBd : wr.drew.cell? ⟨w.heap.size, 1, none⟩ = some (Value.slice (some ⟨b, off, none⟩) ys.length k) := fB
              have c1d : wr.drew.cell? ⟨b, off + j, none⟩ = some (.int .i64 iv) := c1
              have hjn : (0 : Int) ≤ (j : Int) := Int.natCast_nonneg _
              have hjl2 : (j : Int) < (ys.length : Int) := by omega
              have f2r : (wr.alloc (Obj.cells #[.int .i64 iv, .int .i64 y] 3)).cell? ⟨g, 1, none⟩ = some (Value.slice D rs.length d) := (obj_cell ocr).trans rfl
              have f2r2 : ((wr.alloc (Obj.cells #[.int .i64 iv, .int .i64 y] 3)).alloc (Obj.cells #[Value.slice (some ⟨wr.heap.size, 0, none⟩) 2 2] 22)).cell? ⟨g, 1, none⟩ = some (Value.slice D rs.length d) := (obj_cell (obj_alloc ocr _)).trans rfl
              go_wp2_with fail
              go_region_law
                ((refine step_append_lies _ (by rfl) _ _ _ (by rfl) w3.heap.size 22 j0 (.slice none 0 0) 1 24 Try.underlying42 hj hy0 hy1 hy2 rfl (by decide) (Value.slice D rs.length d) rs.length (rs.map Row.v) (by rfl) ((World.ownsRow.alloc ho2 _).drew) ⟨wr.heap.size + 1, 0, none⟩ 1 1 [Value.slice (some ⟨wr.heap.size, 0, none⟩) 2 2] (by rfl) (by rfl) (cell_one_at (w := wr.alloc (.cells #[.int .i64 iv, .int .i64 y] 3)) (H := wr.heap.size + 1) _ _ (by simp)) (by intro u hu; simp at hu; subst hu; rfl) (by omega) (by unfold maxLen; omega) (by omega) (by simp; omega) (wr.heap.size + 2) (by simp) ?_; intro gg cap w9 hown9 hgrow9 hat hlt9
                  obtain ⟨A5, c5, hv5, hO6, hg3⟩ := hO2.grow (Nat.le_refl _) (by simp) hown9 (grown_drew hgrow9)
                  injection hv5 with e51 _ e52
                  subst e51 e52
                  have oa1 := (hg3.block _ (obj_lt oar) (by intro he; have := hlim _ he.symm; omega)).trans oar
                  have ob1 := (hg3.block _ (obj_lt obr) (by intro he; have := hlim _ he.symm; omega)).trans obr
                  have oc1 := (hg3.block _ (obj_lt ocr) (by intro he; have := hlim _ he.symm; omega)).trans ocr
                  have f3 : w9.cell? ⟨g, 1, none⟩ = some (Value.slice D rs.length d) := (obj_cell oc1).trans rfl
                  have f4 : w9.frozen? ⟨g, 1, none⟩ = false := obj_frozen oc1
                  have fB9 : w9.cell? ⟨w.heap.size, 1, none⟩ = some (Value.slice (some ⟨b, off, none⟩) ys.length k) := (obj_cell oa1).trans rfl
                  have c19 : w9.cell? ⟨b, off + j, none⟩ = some (.int .i64 iv) := hg3.cell ((World.cell?_alloc_lt _ _ _ (by show b < wr.heap.size; omega)).trans c1) (by intro he; have := hlim _ he.symm; simp at this; omega)))
              all_goals
                have hA1 := hAr.kept hg3 (own_off (lim := g) (fun q hq => (lA q hq).2) (fun q hq => by have := hlim q hq; omega))
                have hbw3 := hbr2.grown hg3 (by simp; omega) (fun q hq => by have := hlim q hq; omega)
                have hsp : Span g (g + 1) w9 (w9.setCell ⟨g, 1, none⟩ (Value.slice (some ⟨gg, 0, none⟩) (rs.length + 1) cap)) := Span.set (p := ⟨g, 1, none⟩) (Nat.le_refl _) (Nat.lt_succ_self _) _
                have hA2 := own_span hA1 hsp (fun q hq => .inl (lA q hq).2)
                have hO7 := (hO6.span hsp (.inr (by omega))).wider (Nat.le_refl _) hsp.size
                have oa2 := obj_other (g' := g) (i := 1) oa1 (by omega) (Value.slice (some ⟨gg, 0, none⟩) (rs.length + 1) cap)
                have ob2 := obj_other (g' := g) (i := 1) ob1 (by omega) (Value.slice (some ⟨gg, 0, none⟩) (rs.length + 1) cap)
                have oc2 := obj_set (i := 1) oc1 (Value.slice (some ⟨gg, 0, none⟩) (rs.length + 1) cap)
                have hb5 := hbw3.setCell (p := ⟨g, 1, none⟩) (by simp; omega) (Value.slice (some ⟨gg, 0, none⟩) (rs.length + 1) cap)
                have hs5 : w3.heap.size ≤ (w9.setCell ⟨g, 1, none⟩ (Value.slice (some ⟨gg, 0, none⟩) (rs.length + 1) cap)).heap.size := by have h1 := hg3.size; have h2 := hsp.size; simp at h1; omega
                have K := Lib.hid (And.intro oa2 (And.intro ob2 (And.intro oc2 (And.intro hA2 (And.intro hO7 (And.intro hb5 hs5))))))
                clear oa2 ob2 oc2 hA2 hO7 hb5 hs5 hsp hA1 hbw3 hown9 hgrow9 hg3 hO6 oa1 ob1 oc1 f3 f4 f2 hO2 ho2 oar obr ocr hAr hbr2 hlim oa ob oc hA hO hbw f2r f2r2 fBd c1d fB9 c19 fA fB c1
                go_wp2
                go_roundw
                case rel => exact ⟨y + 1, some ⟨gg, 0, none⟩, cap, rs ++ [⟨some ⟨wr.heap.size, 0, none⟩, 2, [iv, (y : Int)]⟩], by omega, by go_num, K.out.1, K.out.2.1, by rw [List.length_append]; exact K.out.2.2.1, K.out.2.2.2.1, by simpa [Row.v] using K.out.2.2.2.2.1, Lib.hid (by rw [HB.out, List.map_append, HX.out]; simp), K.out.2.2.2.2.2.1, K.out.2.2.2.2.2.2⟩
                case measure => simp [intOf]; omega
            · obtain rfl : y = xs.length + 1 := by omega
              have HE := Lib.hid (show rs.map Row.xs = boxesL xs.length (ys.take (j + 1)) by rw [HX.out, boxesL_succ _ _ _ hlt, HIV.out])
              go_wp2
              go_roundw
              case rel => exact ⟨j + 1, D, d, rs, by omega, by go_num, oa, ob, oc, hA, hO, HE, hbw, hsw⟩
              case measure => simp [intOf]; omega
        · obtain rfl : j = ys.length := by omega
          have HE := Lib.hid (show rs.map Row.xs = boxesL xs.length ys by rw [HX.out, List.take_length])
          have f0 : wr.cell? ⟨g, 0, none⟩ = some (Value.slice A2 xs.length c2) := (obj_cell oc).trans rfl
          have f1 : wr.cell? ⟨g, 1, none⟩ = some (Value.slice D rs.length d) := (obj_cell oc).trans rfl
          have g0 : wr.cell? ⟨w.heap.size + 1, 0, none⟩ = some (Value.slice none 0 0) := (obj_cell ob).trans rfl
          have g1 : wr.cell? ⟨w.heap.size + 1, 1, none⟩ = some (Value.slice none 0 0) := (obj_cell ob).trans rfl
          have g2 : wr.frozen? ⟨w.heap.size + 1, 0, none⟩ = false := obj_frozen ob
          have g3 : wr.frozen? ⟨w.heap.size + 1, 1, none⟩ = false := obj_frozen ob
          have o2 := obj_set (i := 1) (obj_set (i := 0) ob (Value.slice A2 xs.length c2)) (Value.slice D rs.length d)
          have s3 := HZ3.out
          have hsp : Span w.heap.size (w.heap.size + 1 + 1) wr ((wr.setCell ⟨w.heap.size + 1, 0, none⟩ (Value.slice A2 xs.length c2)).setCell ⟨w.heap.size + 1, 1, none⟩ (Value.slice D rs.length d)) :=
            (Span.set (p := ⟨w.heap.size + 1, 0, none⟩) (by simp) (by simp) _).trans (Span.set (p := ⟨w.heap.size + 1, 1, none⟩) (by simp) (by simp) _)
          have hr0 : Own wr w1.heap.size g [⟨A2, c2, xs⟩] [] := (Own.one hA (Nat.le_refl _)).lim g (fun r hr q hq => by obtain rfl := List.mem_singleton.1 hr; exact (lA q hq).2)
          have own : Own wr w1.heap.size wr.heap.size (⟨A2, c2, xs⟩ :: rs) [⟨D, d, rs.map Row.v⟩] := by
            have := hr0.app (hO.wider (show g ≤ w3.heap.size by omega) (Nat.le_refl _)) (by omega) (by omega)
            simpa using this
          have own := own.span hsp (.inr (by omega))
          have hb4 := (hbw.setCell (p := ⟨w.heap.size + 1, 0, none⟩) (by simp) (Value.slice A2 xs.length c2)).setCell (p := ⟨w.heap.size + 1, 1, none⟩) (by simp) (Value.slice D rs.length d)
          have l0 := (obj_cell (i := 0) o2).trans rfl
          have l1 := (obj_cell (i := 1) o2).trans rfl
          have hq2 := hsp.size
          clear hsp s3
          go_wp2_with fail
          refine bodyPost_ret (v := .tuple #[.agg #[.slice A2 xs.length c2, .slice D rs.length d], .bool true]) (by simp [results, Try.results47, go_sem, l0, l1]) rfl ?_
          rw [H1.out, H2.out, H3.out]
          exact ⟨_, _, _, _, rs, rfl, HE.out, own.wider (by omega) (by omega), hb4⟩
    · have H1 := Lib.hid (show moG1 xs ys = [] by unfold moG1 moB; rw [HN.out, decide_eq_false h4]; rfl)
      have H2 := Lib.hid (show moG2 xs ys = [] by unfold moG2 moB; rw [HN.out, decide_eq_false h4]; rfl)
      have H3 := Lib.hid (show moB xs ys = false by unfold moB; rw [HN.out, decide_eq_false h4]; rfl)
      have d4 : decide ((xs.length : Int) > 4) = true := decide_eq_true (by omega)
      have g0 : w1.cell? ⟨w.heap.size + 1, 0, none⟩ = some (Value.slice none 0 0) := (obj_cell ob).trans rfl
      have g1 : w1.cell? ⟨w.heap.size + 1, 1, none⟩ = some (Value.slice none 0 0) := (obj_cell ob).trans rfl
      have g2 : w1.frozen? ⟨w.heap.size + 1, 0, none⟩ = false := obj_frozen ob
      have g3 : w1.frozen? ⟨w.heap.size + 1, 1, none⟩ = false := obj_frozen ob
      have o2 := obj_set (i := 1) (obj_set (i := 0) ob (Value.slice none 0 0)) (Value.slice none 0 0)
      have hb4 := (hb.setCell (p := ⟨w.heap.size + 1, 0, none⟩) (by simp) (Value.slice none 0 0)).setCell (p := ⟨w.heap.size + 1, 1, none⟩) (by simp) (Value.slice none 0 0)
      have l0 := (obj_cell (i := 0) o2).trans rfl
      have l1 := (obj_cell (i := 1) o2).trans rfl
      clear h4
      go_wp2_with fail
      refine bodyPost_ret (v := .tuple #[.agg #[.slice none 0 0, .slice none 0 0], .bool false]) (by simp [results, Try.results47, go_sem, l0, l1]) rfl ?_
      rw [H1.out, H2.out, H3.out]
      exact ⟨_, _, _, _, [], rfl, rfl, own_nilmesh _ _ _, hb4⟩
  · have hnf : nearB xs ys = false := by simpa using hn
    have H1 := Lib.hid (show moG1 xs ys = [] by unfold moG1 moB; rw [hnf]; rfl)
    have H2 := Lib.hid (show moG2 xs ys = [] by unfold moG2 moB; rw [hnf]; rfl)
    have H3 := Lib.hid (show moB xs ys = false by unfold moB; rw [hnf]; rfl)
    (with_reducible refine (near_sb A B c k xs ys w0 false (h.next hb0) hnf).mono ?_)
    rintro e w1 ⟨rfl, hb1⟩
    have oa := obj_below oa hb1 (obj_lt oa)
    have ob := obj_below ob hb1 (obj_lt ob)
    have hb := hb0.trans (hb1.mono hb0.size)
    have f0 : w1.cell? ⟨w.heap.size, 0, none⟩ = some (Value.slice A xs.length c) := (obj_cell oa).trans rfl
    have g0 : w1.cell? ⟨w.heap.size + 1, 0, none⟩ = some (Value.slice none 0 0) := (obj_cell ob).trans rfl
    have g1 : w1.cell? ⟨w.heap.size + 1, 1, none⟩ = some (Value.slice none 0 0) := (obj_cell ob).trans rfl
    have g2 : w1.frozen? ⟨w.heap.size + 1, 0, none⟩ = false := obj_frozen ob
    have g3 : w1.frozen? ⟨w.heap.size + 1, 1, none⟩ = false := obj_frozen ob
    have o2 := obj_set (i := 1) (obj_set (i := 0) ob (Value.slice none 0 0)) (Value.slice none 0 0)
    have hb4 := (hb.setCell (p := ⟨w.heap.size + 1, 0, none⟩) (by simp) (Value.slice none 0 0)).setCell (p := ⟨w.heap.size + 1, 1, none⟩) (by simp) (Value.slice none 0 0)
    have l0 := (obj_cell (i := 0) o2).trans rfl
    have l1 := (obj_cell (i := 1) o2).trans rfl
    clear hn hnf
    go_wp2_with fail
    refine bodyPost_ret (v := .tuple #[.agg #[.slice none 0 0, .slice none 0 0], .bool false]) (by simp [results, Try.results47, go_sem, l0, l1]) rfl ?_
    rw [H1.out, H2.out, H3.out]
    exact ⟨_, _, _, _, [], rfl, rfl, own_nilmesh _ _ _, hb4⟩
end Go.Proofs.Ytgodlofkilgfjaa
