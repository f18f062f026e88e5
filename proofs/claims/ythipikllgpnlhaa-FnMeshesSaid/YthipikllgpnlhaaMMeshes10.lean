/- Several texts in one, each with its own head: K3, G6, X3. No program of ours. -/
import Derived.Deep.RegionHeld3
import Derived.StillTailTactics
import Derived.Deep.RegionLaw
import Derived.Deep.AppendLies
import Derived.Test.YthipikllgpnlhaaMMeshes9
/- MeshOf, program and reference. -/
namespace Go.Proofs.Ythipikllgpnlhaa
set_option maxRecDepth 100000
open Go Go.RowKit

def boxesTo (i : Int) (y : Nat) : List (List Int) := (List.range y).map fun y : Nat => [i, (y : Int)]
theorem boxesTo_succ (i : Int) (y : Nat) : boxesTo i (y + 1) = boxesTo i y ++ [[i, (y : Int)]] := by simp [boxesTo, List.range_succ]
theorem boxesTo_length (i : Int) (y : Nat) : (boxesTo i y).length = y := by simp [boxesTo]
def boxesL (n : Nat) (ys : List Int) : List (List Int) := ys.flatMap fun i => boxesTo i (n + 1)
theorem boxesL_succ (n : Nat) (ys : List Int) (k : Nat) (h : k < ys.length) : boxesL n (ys.take (k + 1)) = boxesL n (ys.take k) ++ boxesTo ys[k] (n + 1) := by
  unfold boxesL
  rw [List.take_succ_eq_append_getElem h, List.flatMap_append]; simp
theorem boxesL_le (n : Nat) (ys : List Int) : (boxesL n ys).length ≤ ys.length * (n + 1) := flatMap_le _ _ _ fun i _ => by rw [boxesTo_length]; exact Nat.le_refl _
theorem boxesL_two {n : Nat} {ys : List Int} {s : List Int} (h : s ∈ boxesL n ys) : s.length = 2 := by
  obtain ⟨i, _, hs⟩ := List.mem_flatMap.1 h
  obtain ⟨y, _, rfl⟩ := List.mem_map.1 hs
  rfl
theorem sizeX_two {X : List (List Int)} (h : ∀ s ∈ X, s.length = 2) : sizeX X = 2 * X.length := by
  induction X with
  | nil => rfl
  | cons a t ih =>
    have h1 := h a (by simp)
    have h2 := ih (fun s hs => h s (by simp [hs]))
    simp only [sizeX, List.map_cons, List.sum_cons, List.length_cons] at h2 ⊢
    omega
theorem nearB_len {xs ys : List Int} (h : nearB xs ys = true) : ys.length ≤ 8 := by
  unfold nearB at h
  rw [Bool.and_eq_true] at h
  have h8 := (permB_true h.1).1
  have hj : ∀ j, j < ys.length → joinAt xs.length ys j = true := fun j hj => by
    have := h.2
    unfold joinTo at this
    exact List.all_eq_true.1 this j (List.mem_range.2 hj)
  have hge : ∀ j (hj' : j < ys.length), (j : Int) + 1 ≤ ys[j] := by
    intro j
    induction j with
    | zero =>
      intro h0
      have := hj 0 h0
      simp only [joinAt, List.getElem?_eq_getElem h0, Option.getD_some, decide_eq_true_eq] at this
      omega
    | succ j ih =>
      intro h0
      have h1 := ih (by omega)
      have := hj (j + 1) h0
      simp only [joinAt, List.getElem?_eq_getElem h0, Nat.add_sub_cancel, List.getElem?_eq_getElem (show j < ys.length by omega), Option.getD_some, decide_eq_true_eq] at this
      omega
  rcases Nat.eq_zero_or_pos ys.length with h0 | h0
  · omega
  · have h1 := hge (ys.length - 1) (by omega)
    have := hj (ys.length - 1) (by omega)
    simp only [joinAt, List.getElem?_eq_getElem (show ys.length - 1 < ys.length by omega), Option.getD_some, decide_eq_true_eq] at this
    omega

def moB (xs ys : List Int) : Bool := nearB xs ys && decide (xs.length ≤ 4)
def moG1 (xs ys : List Int) : List Int := if moB xs ys = true then xs else []
def moG2 (xs ys : List Int) : List (List Int) := if moB xs ys = true then boxesL xs.length ys else []
theorem moG_le (xs ys : List Int) : (moG1 xs ys).length + ((moG2 xs ys).length + sizeX (moG2 xs ys)) ≤ 1048576 := by
  unfold moG1 moG2
  by_cases h : moB xs ys = true
  · rw [if_pos h, if_pos h]
    unfold moB at h
    rw [Bool.and_eq_true, decide_eq_true_eq] at h
    have h1 := nearB_len h.1
    have h2 := boxesL_le xs.length ys
    have h3 := Nat.mul_le_mul h1 (show xs.length + 1 ≤ 5 by omega)
    rw [sizeX_two fun s hs => boxesL_two hs]
    omega
  · rw [if_neg h, if_neg h]
    simp [sizeX]
/-- A call's result: a mesh of its own, and a truth value. -/
def RetMb (w : World) (xs : List Int) (X : List (List Int)) (b : Bool) (e : Ending) (w' : World) : Prop :=
  ∃ A B c k rs, e = .returned (.tuple #[.agg #[.slice A xs.length c, .slice B rs.length k], .bool b]) ∧ rs.map Row.xs = X ∧ Own w' w.heap.size w'.heap.size (⟨A, c, xs⟩ :: rs) [⟨B, k, rs.map Row.v⟩] ∧ Below w.heap.size w w'
theorem own_nilmesh (w : World) (lo hi : Nat) : Own w lo hi [⟨none, 0, []⟩] [⟨none, 0, ([] : List Row).map Row.v⟩] := by
  refine ⟨fun r hr => ?_, fun r hr g hg => ?_, List.pairwise_singleton _ _, fun o ho => ?_, fun o ho g hg => ?_⟩
  · obtain rfl := List.mem_singleton.1 hr
    exact ⟨rfl, .inl ⟨rfl, rfl⟩⟩
  · obtain rfl := List.mem_singleton.1 hr
    cases hg
  · obtain rfl := List.mem_singleton.1 ho
    exact ⟨rfl, .inl ⟨rfl, rfl⟩⟩
  · obtain rfl := List.mem_singleton.1 ho
    cases hg
theorem grown_drew {w w' : World} {row : Option Nat} (h : w.drew.grownBy w' row) : w.grownBy w' row := ⟨h.os, h.tape, h.output, h.size, h.block⟩
theorem near_ib (A B : Option Addr) (c k : Nat) (xs ys : List Int) (w : World) (b : Bool) (h : InN w A c xs B k ys) (hb : nearB xs ys = b) :
    Calls Try.prog 77 #[.agg #[.slice A xs.length c, .slice B ys.length k]] w (Rb w (.bool b)) := by subst hb; exact near_impl A B c k xs ys w h
theorem near_sb (A B : Option Addr) (c k : Nat) (xs ys : List Int) (w : World) (b : Bool) (h : InN w A c xs B k ys) (hb : nearB xs ys = b) :
    Calls Try.prog 79 #[.agg #[.slice A xs.length c, .slice B ys.length k]] w (Rb w (.bool b)) := by subst hb; exact near_spec A B c k xs ys w h

set_option maxHeartbeats 4000000 in
theorem meshOf_impl (A B : Option Addr) (c k : Nat) (xs ys : List Int) (w : World) (h : InN w A c xs B k ys) :
    Calls Try.prog 11 #[.agg #[.slice A xs.length c, .slice B ys.length k]] w (RetMb w (moG1 xs ys) (moG2 xs ys) (moB xs ys)) := by
  obtain ⟨j0, hj, hy0, hy1, hy2⟩ := info_parts infoL
  have hlx := h.1.len
  have hly := h.2.len
  go_enter Try.func11, Try.ntmps11
  have hb0 : Below w.heap.size w ((w.alloc (Obj.cells #[Value.slice A xs.length c, Value.slice B ys.length k] 32)).alloc (Obj.cells #[Value.slice none 0 0, Value.slice none 0 0] 27)) := ((Below.refl _ _).alloc (Nat.le_refl _) _).alloc (by simp) _
  go_wp2_with fail
  have oa := obj_alloc (obj_new w (Obj.cells #[Value.slice A xs.length c, Value.slice B ys.length k] 32)) (Obj.cells #[Value.slice none 0 0, Value.slice none 0 0] 27)
  have ob := obj_new (w.alloc (Obj.cells #[Value.slice A xs.length c, Value.slice B ys.length k] 32)) (Obj.cells #[Value.slice none 0 0, Value.slice none 0 0] 27)
  have hz0 : ((w.alloc (Obj.cells #[Value.slice A xs.length c, Value.slice B ys.length k] 32)).alloc (Obj.cells #[Value.slice none 0 0, Value.slice none 0 0] 27)).heap.size = w.heap.size + 1 + 1 := by simp
  simp only [World.size_alloc] at ob
  generalize ((w.alloc (Obj.cells #[Value.slice A xs.length c, Value.slice B ys.length k] 32)).alloc (Obj.cells #[Value.slice none 0 0, Value.slice none 0 0] 27)) = w0 at hb0 oa ob hz0 ⊢
  by_cases hn : nearB xs ys = true
  · have HN := Lib.hid hn
    (with_reducible refine (near_ib A B c k xs ys w0 true (h.next hb0) HN.out).mono ?_)
    rintro e w1 ⟨rfl, hb1⟩
    have oa := obj_below oa hb1 (obj_lt oa)
    have ob := obj_below ob hb1 (obj_lt ob)
    have hb := hb0.trans (hb1.mono hb0.size)
    have hsz1 := hb1.size
    have f0 : w1.cell? ⟨w.heap.size, 0, none⟩ = some (Value.slice A xs.length c) := (obj_cell oa).trans rfl
    have f1 : w1.cell? ⟨w.heap.size, 1, none⟩ = some (Value.slice B ys.length k) := (obj_cell oa).trans rfl
    have hb1h := Lib.hid hb1
    clear hn hb1
    by_cases h4 : xs.length ≤ 4
    · have H1 := Lib.hid (show moG1 xs ys = xs by unfold moG1 moB; rw [HN.out, decide_eq_true h4]; rfl)
      have H2 := Lib.hid (show moG2 xs ys = boxesL xs.length ys by unfold moG2 moB; rw [HN.out, decide_eq_true h4]; rfl)
      have H3 := Lib.hid (show moB xs ys = true by unfold moB; rw [HN.out, decide_eq_true h4]; rfl)
      have d4 : decide ((xs.length : Int) > 4) = false := decide_eq_false (by omega)
      go_wp2_with fail
      (with_reducible refine (clone_any A c xs w1 (h.1.next hb)).mono ?_)
      rintro e w2 ⟨A2, c2, rfl, _, _, own2, hb2⟩
      have oa := obj_below oa hb2 (obj_lt oa)
      have ob := obj_below ob hb2 (obj_lt ob)
      have hb' := hb.trans (hb2.mono hb.size)
      have hsz2 := hb2.size
      have hsb := hb'.size
      have oa3 := obj_alloc oa (Obj.cells #[Value.slice A2 xs.length c2, Value.slice none 0 0] 27)
      have ob3 := obj_alloc ob (Obj.cells #[Value.slice A2 xs.length c2, Value.slice none 0 0] 27)
      have oc3 := obj_new w2 (Obj.cells #[Value.slice A2 xs.length c2, Value.slice none 0 0] 27)
      have hA3 := own2.alloc (Obj.cells #[Value.slice A2 xs.length c2, Value.slice none 0 0] 27)
      have lA : ∀ q, (Value.slice A2 xs.length c2).ownBlock = some q → w1.heap.size ≤ q ∧ q < w2.heap.size := fun q hq => own2.lt q hq
      have hb3 := hb'.alloc hsb (Obj.cells #[Value.slice A2 xs.length c2, Value.slice none 0 0] 27)
      have hz3 : (w2.alloc (Obj.cells #[Value.slice A2 xs.length c2, Value.slice none 0 0] 27)).heap.size = w2.heap.size + 1 := by simp
      have g0 : (w2.alloc (Obj.cells #[Value.slice A2 xs.length c2, Value.slice none 0 0] 27)).cell? ⟨w.heap.size, 1, none⟩ = some (Value.slice B ys.length k) := (obj_cell oa3).trans rfl
      have hys := ((h.2.next hb3).rd)
      have hlt2 : w.heap.size + 1 < w2.heap.size := by omega
      clear own2 hb2 hb oa ob d4 h4
      go_wp2_with fail
      generalize (w2.alloc (Obj.cells #[Value.slice A2 xs.length c2, Value.slice none 0 0] 27)) = w3 at oa3 ob3 oc3 hA3 hb3 hz3 hys g0 ⊢
      obtain ⟨g, hg⟩ : ∃ g, g = w2.heap.size := ⟨_, rfl⟩
      rw [← hg] at oc3 hz3 lA hlt2 hsb hsz2 ⊢
      have HZ3 := Lib.hid hz3
      have HBP := Lib.hid hb'
      clear hz3 hg hb'
      go_loopw [25] (fun i wr => ∃ (j : Nat) (D : Option Addr) (d : Nat) (rs : List Row), j ≤ ys.length ∧ i = .int .i64 j ∧ wr.heap[w.heap.size]? = some (Obj.cells #[Value.slice A xs.length c, Value.slice B ys.length k] 32) ∧
        wr.heap[w.heap.size + 1]? = some (Obj.cells #[Value.slice none 0 0, Value.slice none 0 0] 27) ∧ wr.heap[g]? = some (Obj.cells #[Value.slice A2 xs.length c2, Value.slice D rs.length d] 27) ∧
        wr.ownsRow w1.heap.size 3 1 (.slice A2 xs.length c2) xs.length (xs.map (Value.int .i64)) ∧ Own wr w3.heap.size wr.heap.size rs [⟨D, d, rs.map Row.v⟩] ∧ Hid (rs.map Row.xs = boxesL xs.length (ys.take j)) ∧ Below w.heap.size w wr ∧ w3.heap.size ≤ wr.heap.size) (fun i _ => ys.length - (intOf i).toNat)
      case atStart => exact ⟨0, none, 0, [], Nat.zero_le _, rfl, oa3, ob3, oc3, hA3, Own.nil_list _ _ _, Lib.hid rfl, hb3, Nat.le_refl _⟩
      case round =>
        clear oa3 ob3 oc3 hA3 hb3 g0 hys
        obtain ⟨j, D, d, rs, hjl, rfl, oa, ob, oc, hA, hO, HX, hbw, hsw⟩ := hrel
        by_cases hlt : j < ys.length
        · have hys := (h.2.next hbw).rd
          obtain ⟨b, off, rfl, hbb, hc⟩ := hys (by omega)
          have c1 := hc j hlt
          have f0 : wr.cell? ⟨w.heap.size, 0, none⟩ = some (Value.slice A xs.length c) := (obj_cell oa).trans rfl
          obtain ⟨iv, hiv⟩ : ∃ iv, iv = ys[j] := ⟨_, rfl⟩
          rw [← hiv] at c1
          have HIV := Lib.hid hiv
          clear hc hys hiv
          obtain ⟨wo, rfl⟩ : ∃ wo : World, wo = wr := ⟨_, rfl⟩
          go_wp2_with fail
          go_loopw [33] (fun i wr => ∃ (y : Nat) (D : Option Addr) (d : Nat) (rs : List Row), y ≤ xs.length + 1 ∧ i = .int .i64 y ∧ wr.heap[w.heap.size]? = some (Obj.cells #[Value.slice A xs.length c, Value.slice (some ⟨b, off, none⟩) ys.length k] 32) ∧
            wr.heap[w.heap.size + 1]? = some (Obj.cells #[Value.slice none 0 0, Value.slice none 0 0] 27) ∧ wr.heap[g]? = some (Obj.cells #[Value.slice A2 xs.length c2, Value.slice D rs.length d] 27) ∧
            wr.ownsRow w1.heap.size 3 1 (.slice A2 xs.length c2) xs.length (xs.map (Value.int .i64)) ∧ Own wr w3.heap.size wr.heap.size rs [⟨D, d, rs.map Row.v⟩] ∧ Hid (rs.map Row.xs = boxesL xs.length (ys.take j) ++ boxesTo iv y) ∧ Below w.heap.size w wr ∧ w3.heap.size ≤ wr.heap.size) (fun i _ => xs.length + 1 - (intOf i).toNat)
          case atStart => exact ⟨0, D, d, rs, Nat.zero_le _, rfl, oa, ob, oc, hA, hO, Lib.hid (by rw [HX.out]; simp [boxesTo]), hbw, hsw⟩
          case round =>
            clear oa ob oc hA hO HX hbw hsw f0 c1
            obtain ⟨y, D, d, rs, hy, rfl, oa, ob, oc, hA, hO, HX, hbw, hsw⟩ := hrel
            have hcount : rs.length ≤ 8388608 := by
              have h1 := congrArg List.length HX.out
              have h2 := boxesL_le xs.length (ys.take j)
              have h3 : (ys.take j).length ≤ 1048576 := by rw [List.length_take]; omega
              have h4 := Nat.mul_le_mul h3 (show xs.length + 1 ≤ 5 by have := H3.out; unfold moB at this; rw [Bool.and_eq_true, decide_eq_true_eq] at this; omega)
              rw [List.length_map, List.length_append, boxesTo_length] at h1
              omega
            by_cases hlt2 : y < xs.length + 1
            · have HB := Lib.hid (boxesTo_succ iv y)
              have f2 : wr.cell? ⟨g, 1, none⟩ = some (Value.slice D rs.length d) := (obj_cell oc).trans rfl
              have s3 : g < w3.heap.size := by have := HZ3.out; omega
              have hrow : (wr.alloc (.cells #[.int .i64 iv, .int .i64 y] 3)).ownsRow wr.heap.size 3 1 (Row.v ⟨some ⟨wr.heap.size, 0, none⟩, 2, [iv, (y : Int)]⟩) 2 ([iv, (y : Int)].map (Value.int .i64)) := World.ownsRow_lit wr #[.int .i64 iv, .int .i64 y] 2 (Nat.le_refl _) (by unfold maxLen; omega) rfl
              have hbr := (Below.refl wr.heap.size wr).alloc (Nat.le_refl _) (.cells #[.int .i64 iv, .int .i64 y] 3)
              have hO2 := (hO.below hbr).add (r := ⟨some ⟨wr.heap.size, 0, none⟩, 2, [iv, (y : Int)]⟩) hrow (by simp) hsw
              have ho2 := hO2.outN (n := rs.length) (by simp)
              have oar := obj_alloc oa (.cells #[.int .i64 iv, .int .i64 y] 3)
              have obr := obj_alloc ob (.cells #[.int .i64 iv, .int .i64 y] 3)
              have ocr := obj_alloc oc (.cells #[.int .i64 iv, .int .i64 y] 3)
              have hAr := hA.alloc (.cells #[.int .i64 iv, .int .i64 y] 3)
              have hbr2 := hbw.alloc (by omega) (.cells #[.int .i64 iv, .int .i64 y] 3)
              have hlim := hO2.olim (n := rs.length) (by simp)
              clear hbr hrow
              go_wp2_with ((at_builtin; refine wpList_append_own _ rfl _ _ 25 rfl (w3.heap.size) 24 j0 (.slice none 0 0) 1 24 Try.underlying25 hj hy0 hy1 hy2 rfl (by decide) _ _ _ rfl (World.ownsRow.alloc ho2 _) ⟨wr.heap.size + 1, 0, none⟩ 1 1 [Value.slice (some ⟨wr.heap.size, 0, none⟩) 2 2] rfl rfl (cell_one_at _ _ (by simp)) (by intro u hu; simp at hu; subst hu; rfl) (by unfold maxLen; omega) (by omega) (by simp; omega) ?_; intro v9 w9 hown9 hgrow9 _); obtain ⟨A5, c5, rfl, hO6, hg3⟩ := hO2.grow (Nat.le_refl _) (by simp) hown9 hgrow9; have oa1 := (hg3.block _ (obj_lt oar) (by intro he; have := hlim _ he.symm; omega)).trans oar; have ob1 := (hg3.block _ (obj_lt obr) (by intro he; have := hlim _ he.symm; omega)).trans obr; have oc1 := (hg3.block _ (obj_lt ocr) (by intro he; have := hlim _ he.symm; omega)).trans ocr; have f3 : w9.cell? ⟨g, 1, none⟩ = some (Value.slice D rs.length d) := (obj_cell oc1).trans rfl; have f4 : w9.frozen? ⟨g, 1, none⟩ = false := obj_frozen oc1)
              have hA1 := hAr.kept hg3 (own_off (lim := g) (fun q hq => (lA q hq).2) (fun q hq => by have := hlim q hq; omega))
              have hbw3 := hbr2.grown hg3 (by simp; omega) (fun q hq => by have := hlim q hq; omega)
              have hsp : Span g (g + 1) w9 (w9.setCell ⟨g, 1, none⟩ (Value.slice A5 (rs.length + 1) c5)) := Span.set (p := ⟨g, 1, none⟩) (Nat.le_refl _) (Nat.lt_succ_self _) _
              have hA2 := own_span hA1 hsp (fun q hq => .inl (lA q hq).2)
              have hO7 := (hO6.span hsp (.inr (by omega))).wider (Nat.le_refl _) hsp.size
              have oa2 := obj_other (g' := g) (i := 1) oa1 (by omega) (Value.slice A5 (rs.length + 1) c5)
              have ob2 := obj_other (g' := g) (i := 1) ob1 (by omega) (Value.slice A5 (rs.length + 1) c5)
              have oc2 := obj_set (i := 1) oc1 (Value.slice A5 (rs.length + 1) c5)
              have hb5 := hbw3.setCell (p := ⟨g, 1, none⟩) (by simp; omega) (Value.slice A5 (rs.length + 1) c5)
              have hs5 : w3.heap.size ≤ (w9.setCell ⟨g, 1, none⟩ (Value.slice A5 (rs.length + 1) c5)).heap.size := by have h1 := hg3.size; have h2 := hsp.size; simp at h1; omega
              have K := Lib.hid (And.intro oa2 (And.intro ob2 (And.intro oc2 (And.intro hA2 (And.intro hO7 (And.intro hb5 hs5))))))
              clear oa2 ob2 oc2 hA2 hO7 hb5 hs5 hsp hA1 hbw3 hown9 hgrow9 hg3 hO6 oa1 ob1 oc1 f3 f4 f2 hO2 ho2 oar obr ocr hAr hbr2 hlim oa ob oc hA hO hbw
              go_wp2
              go_roundw
              case rel => exact ⟨y + 1, A5, c5, rs ++ [⟨some ⟨wr.heap.size, 0, none⟩, 2, [iv, (y : Int)]⟩], by omega, by go_num, K.out.1, K.out.2.1, by rw [List.length_append]; exact K.out.2.2.1, K.out.2.2.2.1, by simpa [Row.v] using K.out.2.2.2.2.1, Lib.hid (by rw [HB.out, List.map_append, HX.out]; simp), K.out.2.2.2.2.2.1, K.out.2.2.2.2.2.2⟩
              case measure => simp [intOf]; omega
            · obtain rfl : y = xs.length + 1 := by omega
              have HE := Lib.hid (show rs.map Row.xs = boxesL xs.length (ys.take (j + 1)) by rw [HX.out, boxesL_succ _ _ _ hlt, HIV.out])
              go_wp2
              go_roundw
              case rel => exact ⟨j + 1, D, d, rs, by omega, by go_num, oa, ob, oc, hA, hO, HE, hbw, hsw⟩
              case measure => simp [intOf]; omega
        · obtain rfl : j = ys.length := by omega
          have HE := Lib.hid (show rs.map Row.xs = boxesL xs.length ys by rw [HX.out, List.take_length])
          have f0 : wr.cell? ⟨g, 0, none⟩ = some (Value.slice A2 xs.length c2) := (obj_cell oc).trans rfl
          have f1 : wr.cell? ⟨g, 1, none⟩ = some (Value.slice D rs.length d) := (obj_cell oc).trans rfl
          have g0 : wr.cell? ⟨w.heap.size + 1, 0, none⟩ = some (Value.slice none 0 0) := (obj_cell ob).trans rfl
          have g1 : wr.cell? ⟨w.heap.size + 1, 1, none⟩ = some (Value.slice none 0 0) := (obj_cell ob).trans rfl
          have g2 : wr.frozen? ⟨w.heap.size + 1, 0, none⟩ = false := obj_frozen ob
          have g3 : wr.frozen? ⟨w.heap.size + 1, 1, none⟩ = false := obj_frozen ob
          have o2 := obj_set (i := 1) (obj_set (i := 0) ob (Value.slice A2 xs.length c2)) (Value.slice D rs.length d)
          have s3 := HZ3.out
          have hsp : Span w.heap.size (w.heap.size + 1 + 1) wr ((wr.setCell ⟨w.heap.size + 1, 0, none⟩ (Value.slice A2 xs.length c2)).setCell ⟨w.heap.size + 1, 1, none⟩ (Value.slice D rs.length d)) :=
            (Span.set (p := ⟨w.heap.size + 1, 0, none⟩) (by simp) (by simp) _).trans (Span.set (p := ⟨w.heap.size + 1, 1, none⟩) (by simp) (by simp) _)
          have hr0 : Own wr w1.heap.size g [⟨A2, c2, xs⟩] [] := (Own.one hA (Nat.le_refl _)).lim g (fun r hr q hq => by obtain rfl := List.mem_singleton.1 hr; exact (lA q hq).2)
          have own : Own wr w1.heap.size wr.heap.size (⟨A2, c2, xs⟩ :: rs) [⟨D, d, rs.map Row.v⟩] := by
            have := hr0.app (hO.wider (show g ≤ w3.heap.size by omega) (Nat.le_refl _)) (by omega) (by omega)
            simpa using this
          have own := own.span hsp (.inr (by omega))
          have hb4 := (hbw.setCell (p := ⟨w.heap.size + 1, 0, none⟩) (by simp) (Value.slice A2 xs.length c2)).setCell (p := ⟨w.heap.size + 1, 1, none⟩) (by simp) (Value.slice D rs.length d)
          have l0 := (obj_cell (i := 0) o2).trans rfl
          have l1 := (obj_cell (i := 1) o2).trans rfl
          have hq2 := hsp.size
          clear hsp s3
          go_wp2_with fail
          refine bodyPost_ret (v := .tuple #[.agg #[.slice A2 xs.length c2, .slice D rs.length d], .bool true]) (by simp [results, Try.results11, go_sem, l0, l1]) rfl ?_
          rw [H1.out, H2.out, H3.out]
          exact ⟨_, _, _, _, rs, rfl, HE.out, own.wider (by omega) (by omega), hb4⟩
    · have H1 := Lib.hid (show moG1 xs ys = [] by unfold moG1 moB; rw [HN.out, decide_eq_false h4]; rfl)
      have H2 := Lib.hid (show moG2 xs ys = [] by unfold moG2 moB; rw [HN.out, decide_eq_false h4]; rfl)
      have H3 := Lib.hid (show moB xs ys = false by unfold moB; rw [HN.out, decide_eq_false h4]; rfl)
      have d4 : decide ((xs.length : Int) > 4) = true := decide_eq_true (by omega)
      have g0 : w1.cell? ⟨w.heap.size + 1, 0, none⟩ = some (Value.slice none 0 0) := (obj_cell ob).trans rfl
      have g1 : w1.cell? ⟨w.heap.size + 1, 1, none⟩ = some (Value.slice none 0 0) := (obj_cell ob).trans rfl
      have g2 : w1.frozen? ⟨w.heap.size + 1, 0, none⟩ = false := obj_frozen ob
      have g3 : w1.frozen? ⟨w.heap.size + 1, 1, none⟩ = false := obj_frozen ob
      have o2 := obj_set (i := 1) (obj_set (i := 0) ob (Value.slice none 0 0)) (Value.slice none 0 0)
      have hb4 := (hb.setCell (p := ⟨w.heap.size + 1, 0, none⟩) (by simp) (Value.slice none 0 0)).setCell (p := ⟨w.heap.size + 1, 1, none⟩) (by simp) (Value.slice none 0 0)
      have l0 := (obj_cell (i := 0) o2).trans rfl
      have l1 := (obj_cell (i := 1) o2).trans rfl
      clear h4
      go_wp2_with fail
      refine bodyPost_ret (v := .tuple #[.agg #[.slice none 0 0, .slice none 0 0], .bool false]) (by simp [results, Try.results11, go_sem, l0, l1]) rfl ?_
      rw [H1.out, H2.out, H3.out]
      exact ⟨_, _, _, _, [], rfl, rfl, own_nilmesh _ _ _, hb4⟩
  · have hnf : nearB xs ys = false := by simpa using hn
    have H1 := Lib.hid (show moG1 xs ys = [] by unfold moG1 moB; rw [hnf]; rfl)
    have H2 := Lib.hid (show moG2 xs ys = [] by unfold moG2 moB; rw [hnf]; rfl)
    have H3 := Lib.hid (show moB xs ys = false by unfold moB; rw [hnf]; rfl)
    (with_reducible refine (near_ib A B c k xs ys w0 false (h.next hb0) hnf).mono ?_)
    rintro e w1 ⟨rfl, hb1⟩
    have oa := obj_below oa hb1 (obj_lt oa)
    have ob := obj_below ob hb1 (obj_lt ob)
    have hb := hb0.trans (hb1.mono hb0.size)
    have f0 : w1.cell? ⟨w.heap.size, 0, none⟩ = some (Value.slice A xs.length c) := (obj_cell oa).trans rfl
    have g0 : w1.cell? ⟨w.heap.size + 1, 0, none⟩ = some (Value.slice none 0 0) := (obj_cell ob).trans rfl
    have g1 : w1.cell? ⟨w.heap.size + 1, 1, none⟩ = some (Value.slice none 0 0) := (obj_cell ob).trans rfl
    have g2 : w1.frozen? ⟨w.heap.size + 1, 0, none⟩ = false := obj_frozen ob
    have g3 : w1.frozen? ⟨w.heap.size + 1, 1, none⟩ = false := obj_frozen ob
    have o2 := obj_set (i := 1) (obj_set (i := 0) ob (Value.slice none 0 0)) (Value.slice none 0 0)
    have hb4 := (hb.setCell (p := ⟨w.heap.size + 1, 0, none⟩) (by simp) (Value.slice none 0 0)).setCell (p := ⟨w.heap.size + 1, 1, none⟩) (by simp) (Value.slice none 0 0)
    have l0 := (obj_cell (i := 0) o2).trans rfl
    have l1 := (obj_cell (i := 1) o2).trans rfl
    clear hn hnf
    go_wp2_with fail
    refine bodyPost_ret (v := .tuple #[.agg #[.slice none 0 0, .slice none 0 0], .bool false]) (by simp [results, Try.results11, go_sem, l0, l1]) rfl ?_
    rw [H1.out, H2.out, H3.out]
    exact ⟨_, _, _, _, [], rfl, rfl, own_nilmesh _ _ _, hb4⟩

set_option maxHeartbeats 4000000 in
theorem meshOf_spec (A B : Option Addr) (c k : Nat) (xs ys : List Int) (w : World) (h : InN w A c xs B k ys) :
    Calls Try.prog 12 #[.agg #[.slice A xs.length c, .slice B ys.length k]] w (RetMb w (moG1 xs ys) (moG2 xs ys) (moB xs ys)) := by
  obtain ⟨j0, hj, hy0, hy1, hy2⟩ := info_parts infoL
  obtain ⟨i0, hi, hz0, hz1, hz2⟩ := info_parts infoI
  have hlx := h.1.len
  have hly := h.2.len
  go_enter Try.func12, Try.ntmps12
  have hb0 : Below w.heap.size w ((w.alloc (Obj.cells #[Value.slice A xs.length c, Value.slice B ys.length k] 32)).alloc (Obj.cells #[Value.slice none 0 0, Value.slice none 0 0] 27)) := ((Below.refl _ _).alloc (Nat.le_refl _) _).alloc (by simp) _
  go_wp2_with fail
  have oa := obj_alloc (obj_new w (Obj.cells #[Value.slice A xs.length c, Value.slice B ys.length k] 32)) (Obj.cells #[Value.slice none 0 0, Value.slice none 0 0] 27)
  have ob := obj_new (w.alloc (Obj.cells #[Value.slice A xs.length c, Value.slice B ys.length k] 32)) (Obj.cells #[Value.slice none 0 0, Value.slice none 0 0] 27)
  have hzz : ((w.alloc (Obj.cells #[Value.slice A xs.length c, Value.slice B ys.length k] 32)).alloc (Obj.cells #[Value.slice none 0 0, Value.slice none 0 0] 27)).heap.size = w.heap.size + 1 + 1 := by simp
  simp only [World.size_alloc] at ob
  generalize ((w.alloc (Obj.cells #[Value.slice A xs.length c, Value.slice B ys.length k] 32)).alloc (Obj.cells #[Value.slice none 0 0, Value.slice none 0 0] 27)) = w0 at hb0 oa ob hzz ⊢
  by_cases hn : nearB xs ys = true
  · have HN := Lib.hid hn
    (with_reducible refine (near_sb A B c k xs ys w0 true (h.next hb0) HN.out).mono ?_)
    rintro e w1 ⟨rfl, hb1⟩
    have oa := obj_below oa hb1 (obj_lt oa)
    have ob := obj_below ob hb1 (obj_lt ob)
    have hb := hb0.trans (hb1.mono hb0.size)
    have hsz1 := hb1.size
    have f0 : w1.cell? ⟨w.heap.size, 0, none⟩ = some (Value.slice A xs.length c) := (obj_cell oa).trans rfl
    have f1 : w1.cell? ⟨w.heap.size, 1, none⟩ = some (Value.slice B ys.length k) := (obj_cell oa).trans rfl
    have hb1h := Lib.hid hb1
    clear hn hb1
    by_cases h4 : xs.length ≤ 4
    · have H1 := Lib.hid (show moG1 xs ys = xs by unfold moG1 moB; rw [HN.out, decide_eq_true h4]; rfl)
      have H2 := Lib.hid (show moG2 xs ys = boxesL xs.length ys by unfold moG2 moB; rw [HN.out, decide_eq_true h4]; rfl)
      have H3 := Lib.hid (show moB xs ys = true by unfold moB; rw [HN.out, decide_eq_true h4]; rfl)
      have d4 : decide ((xs.length : Int) > 4) = false := decide_eq_false (by omega)
      have own0 : (w1.alloc (.cells #[] 3)).ownsRow w1.heap.size 3 1 (.slice (some ⟨w1.heap.size, 0, none⟩) 0 0) 0 [] := World.ownsRow_lit w1 #[] 0 (Nat.le_refl _) (by unfold maxLen; omega) rfl
      have hx0 := (h.1.next hb).rd.alloc (Nat.le_refl _) (.cells #[] 3)
      have hbA := (Below.refl w1.heap.size w1).alloc (Nat.le_refl _) (.cells #[] 3)
      have fq : (w1.alloc (.cells #[] 3)).cell? ⟨w.heap.size, 0, none⟩ = some (Value.slice A xs.length c) := (obj_cell (i := 0) (obj_alloc oa (.cells #[] 3))).trans rfl
      go_wp2_with ((at_builtin; refine wpList_append_rd _ rfl _ _ 24 rfl (w1.heap.size) 3 i0 (.int .i64 0) 8 Try.underlying24 hi hz0 hz1 hz2 rfl _ _ _ rfl own0 _ _ _ _ (xs) rfl rfl hx0 (fun _ => rfl) (by unfold maxLen; omega) (by omega) (by first | omega | (simp; done) | (simp; omega)) ?_; intro v2 w2 hown2 hgrow2); simp only [Nat.zero_add, List.nil_append] at hown2; obtain ⟨A2, c2, rfl, _, _⟩ := own_shape hown2; have hb2 := hbA.grown hgrow2 (by simp) (fun g hg => (own0.lt g hg).1))
      have oa := obj_below oa hb2 (obj_lt oa)
      have ob := obj_below ob hb2 (obj_lt ob)
      have own2 := hown2
      clear hown2 hgrow2 hbA hx0 own0 fq
      have hb' := hb.trans (hb2.mono hb.size)
      have hsz2 := hb2.size
      have hsb := hb'.size
      have oa3 := obj_alloc oa (Obj.cells #[Value.slice A2 xs.length c2, Value.slice none 0 0] 27)
      have ob3 := obj_alloc ob (Obj.cells #[Value.slice A2 xs.length c2, Value.slice none 0 0] 27)
      have oc3 := obj_new w2 (Obj.cells #[Value.slice A2 xs.length c2, Value.slice none 0 0] 27)
      have hA3 := own2.alloc (Obj.cells #[Value.slice A2 xs.length c2, Value.slice none 0 0] 27)
      have lA : ∀ q, (Value.slice A2 xs.length c2).ownBlock = some q → w1.heap.size ≤ q ∧ q < w2.heap.size := fun q hq => own2.lt q hq
      have hb3 := hb'.alloc hsb (Obj.cells #[Value.slice A2 xs.length c2, Value.slice none 0 0] 27)
      have hz3 : (w2.alloc (Obj.cells #[Value.slice A2 xs.length c2, Value.slice none 0 0] 27)).heap.size = w2.heap.size + 1 := by simp
      have g0 : (w2.alloc (Obj.cells #[Value.slice A2 xs.length c2, Value.slice none 0 0] 27)).cell? ⟨w.heap.size, 1, none⟩ = some (Value.slice B ys.length k) := (obj_cell oa3).trans rfl
      have hys := ((h.2.next hb3).rd)
      have hlt2 : w.heap.size + 1 < w2.heap.size := by omega
      clear own2 hb2 hb oa ob d4 h4
      generalize (w2.alloc (Obj.cells #[Value.slice A2 xs.length c2, Value.slice none 0 0] 27)) = w3 at oa3 ob3 oc3 hA3 hb3 hz3 hys g0 ⊢
      obtain ⟨g, hg⟩ : ∃ g, g = w2.heap.size := ⟨_, rfl⟩
      rw [← hg] at oc3 hz3 lA hlt2 hsb hsz2 ⊢
      have HZ3 := Lib.hid hz3
      have HBP := Lib.hid hb'
      clear hz3 hg hb'
      go_loopw [5] (fun i wr => ∃ (j : Nat) (D : Option Addr) (d : Nat) (rs : List Row), j ≤ ys.length ∧ i = .int .i64 j ∧ wr.heap[w.heap.size]? = some (Obj.cells #[Value.slice A xs.length c, Value.slice B ys.length k] 32) ∧
        wr.heap[w.heap.size + 1]? = some (Obj.cells #[Value.slice none 0 0, Value.slice none 0 0] 27) ∧ wr.heap[g]? = some (Obj.cells #[Value.slice A2 xs.length c2, Value.slice D rs.length d] 27) ∧
        wr.ownsRow w1.heap.size 3 1 (.slice A2 xs.length c2) xs.length (xs.map (Value.int .i64)) ∧ Own wr w3.heap.size wr.heap.size rs [⟨D, d, rs.map Row.v⟩] ∧ Hid (rs.map Row.xs = boxesL xs.length (ys.take j)) ∧ Below w.heap.size w wr ∧ w3.heap.size ≤ wr.heap.size) (fun i _ => ys.length - (intOf i).toNat)
      case atStart => exact ⟨0, none, 0, [], Nat.zero_le _, rfl, oa3, ob3, oc3, hA3, Own.nil_list _ _ _, Lib.hid rfl, hb3, Nat.le_refl _⟩
      case round =>
        clear oa3 ob3 oc3 hA3 hb3 g0 hys
        obtain ⟨j, D, d, rs, hjl, rfl, oa, ob, oc, hA, hO, HX, hbw, hsw⟩ := hrel
        have fB : wr.cell? ⟨w.heap.size, 1, none⟩ = some (Value.slice B ys.length k) := (obj_cell oa).trans rfl
        by_cases hlt : j < ys.length
        · have hys := (h.2.next hbw).rd
          obtain ⟨b, off, rfl, hbb, hc⟩ := hys (by omega)
          have c1 := hc j hlt
          have f0 : wr.cell? ⟨w.heap.size, 0, none⟩ = some (Value.slice A xs.length c) := (obj_cell oa).trans rfl
          obtain ⟨iv, hiv⟩ : ∃ iv, iv = ys[j] := ⟨_, rfl⟩
          rw [← hiv] at c1
          have HIV := Lib.hid hiv
          clear hc hys hiv
          obtain ⟨wo, rfl⟩ : ∃ wo : World, wo = wr := ⟨_, rfl⟩
          go_wp2_with fail
          go_loopw [6] (fun i wr => ∃ (y : Nat) (D : Option Addr) (d : Nat) (rs : List Row), y ≤ xs.length + 1 ∧ i = .int .i64 y ∧ wr.heap[w.heap.size]? = some (Obj.cells #[Value.slice A xs.length c, Value.slice (some ⟨b, off, none⟩) ys.length k] 32) ∧
            wr.heap[w.heap.size + 1]? = some (Obj.cells #[Value.slice none 0 0, Value.slice none 0 0] 27) ∧ wr.heap[g]? = some (Obj.cells #[Value.slice A2 xs.length c2, Value.slice D rs.length d] 27) ∧
            wr.ownsRow w1.heap.size 3 1 (.slice A2 xs.length c2) xs.length (xs.map (Value.int .i64)) ∧ Own wr w3.heap.size wr.heap.size rs [⟨D, d, rs.map Row.v⟩] ∧ Hid (rs.map Row.xs = boxesL xs.length (ys.take j) ++ boxesTo iv y) ∧ Below w.heap.size w wr ∧ w3.heap.size ≤ wr.heap.size) (fun i _ => xs.length + 1 - (intOf i).toNat)
          case atStart => exact ⟨0, D, d, rs, Nat.zero_le _, rfl, oa, ob, oc, hA, hO, Lib.hid (by rw [HX.out]; simp [boxesTo]), hbw, hsw⟩
          case round =>
            clear oa ob oc hA hO HX hbw hsw f0 c1 fB
            obtain ⟨y, D, d, rs, hy, rfl, oa, ob, oc, hA, hO, HX, hbw, hsw⟩ := hrel
            have fA : wr.cell? ⟨w.heap.size, 0, none⟩ = some (Value.slice A xs.length c) := (obj_cell oa).trans rfl
            have fB : wr.cell? ⟨w.heap.size, 1, none⟩ = some (Value.slice (some ⟨b, off, none⟩) ys.length k) := (obj_cell oa).trans rfl
            have c1 : wr.cell? ⟨b, off + j, none⟩ = some (.int .i64 iv) := by
              have h1 := (h.2.next hbw).rd (by omega)
              obtain ⟨b', off', he, _, hc⟩ := h1
              injection he with he
              injection he with he1 he2 _
              subst he1 he2
              rw [HIV.out]; exact hc j hlt
            have hcount : rs.length ≤ 8388608 := by
              have h1 := congrArg List.length HX.out
              have h2 := boxesL_le xs.length (ys.take j)
              have h3 : (ys.take j).length ≤ 1048576 := by rw [List.length_take]; omega
              have h4 := Nat.mul_le_mul h3 (show xs.length + 1 ≤ 5 by have := H3.out; unfold moB at this; rw [Bool.and_eq_true, decide_eq_true_eq] at this; omega)
              rw [List.length_map, List.length_append, boxesTo_length] at h1
              omega
            by_cases hlt2 : y < xs.length + 1
            · have HB := Lib.hid (boxesTo_succ iv y)
              have f2 : wr.cell? ⟨g, 1, none⟩ = some (Value.slice D rs.length d) := (obj_cell oc).trans rfl
              have s3 : g < w3.heap.size := by have := HZ3.out; omega
              have hrow : (wr.alloc (.cells #[.int .i64 iv, .int .i64 y] 3)).ownsRow wr.heap.size 3 1 (Row.v ⟨some ⟨wr.heap.size, 0, none⟩, 2, [iv, (y : Int)]⟩) 2 ([iv, (y : Int)].map (Value.int .i64)) := World.ownsRow_lit wr #[.int .i64 iv, .int .i64 y] 2 (Nat.le_refl _) (by unfold maxLen; omega) rfl
              have hbr := (Below.refl wr.heap.size wr).alloc (Nat.le_refl _) (.cells #[.int .i64 iv, .int .i64 y] 3)
              have hO2 := (hO.below hbr).add (r := ⟨some ⟨wr.heap.size, 0, none⟩, 2, [iv, (y : Int)]⟩) hrow (by simp) hsw
              have ho2 := hO2.outN (n := rs.length) (by simp)
              have oar := obj_alloc oa (.cells #[.int .i64 iv, .int .i64 y] 3)
              have obr := obj_alloc ob (.cells #[.int .i64 iv, .int .i64 y] 3)
              have ocr := obj_alloc oc (.cells #[.int .i64 iv, .int .i64 y] 3)
              have hAr := hA.alloc (.cells #[.int .i64 iv, .int .i64 y] 3)
              have hbr2 := hbw.alloc (by omega) (.cells #[.int .i64 iv, .int .i64 y] 3)
              have hlim := hO2.olim (n := rs.length) (by simp)
              clear hbr hrow
              have hbg : b < g := by
                have h1 := (h.2.rd (by omega))
                obtain ⟨b', off', he, hb', _⟩ := h1
                injection he with he
                injection he with he1 _ _
                omega
              have fBd : wr.drew.cell? ⟨w.heap.size, 1, none⟩ = some (Value.slice (some ⟨b, off, none⟩) ys.length k) := fB
              have c1d : wr.drew.cell? ⟨b, off + j, none⟩ = some (.int .i64 iv) := c1
              have hjn : (0 : Int) ≤ (j : Int) := Int.natCast_nonneg _
              have hjl2 : (j : Int) < (ys.length : Int) := by omega
              have f2r : (wr.alloc (Obj.cells #[.int .i64 iv, .int .i64 y] 3)).cell? ⟨g, 1, none⟩ = some (Value.slice D rs.length d) := (obj_cell ocr).trans rfl
              have f2r2 : ((wr.alloc (Obj.cells #[.int .i64 iv, .int .i64 y] 3)).alloc (Obj.cells #[Value.slice (some ⟨wr.heap.size, 0, none⟩) 2 2] 24)).cell? ⟨g, 1, none⟩ = some (Value.slice D rs.length d) := (obj_cell (obj_alloc ocr _)).trans rfl
              go_wp2_with fail
              go_region_law
                ((refine step_append_lies _ (by rfl) _ _ _ (by rfl) w3.heap.size 24 j0 (.slice none 0 0) 1 24 Try.underlying25 hj hy0 hy1 hy2 rfl (by decide) (Value.slice D rs.length d) rs.length (rs.map Row.v) (by rfl) ((World.ownsRow.alloc ho2 _).drew) ⟨wr.heap.size + 1, 0, none⟩ 1 1 [Value.slice (some ⟨wr.heap.size, 0, none⟩) 2 2] (by rfl) (by rfl) (cell_one_at (w := wr.alloc (.cells #[.int .i64 iv, .int .i64 y] 3)) (H := wr.heap.size + 1) _ _ (by simp)) (by intro u hu; simp at hu; subst hu; rfl) (by omega) (by unfold maxLen; omega) (by omega) (by simp; omega) (wr.heap.size + 2) (by simp) ?_; intro gg cap w9 hown9 hgrow9 hat hlt9
                  obtain ⟨A5, c5, hv5, hO6, hg3⟩ := hO2.grow (Nat.le_refl _) (by simp) hown9 (grown_drew hgrow9)
                  injection hv5 with e51 _ e52
                  subst e51 e52
                  have oa1 := (hg3.block _ (obj_lt oar) (by intro he; have := hlim _ he.symm; omega)).trans oar
                  have ob1 := (hg3.block _ (obj_lt obr) (by intro he; have := hlim _ he.symm; omega)).trans obr
                  have oc1 := (hg3.block _ (obj_lt ocr) (by intro he; have := hlim _ he.symm; omega)).trans ocr
                  have f3 : w9.cell? ⟨g, 1, none⟩ = some (Value.slice D rs.length d) := (obj_cell oc1).trans rfl
                  have f4 : w9.frozen? ⟨g, 1, none⟩ = false := obj_frozen oc1
                  have fB9 : w9.cell? ⟨w.heap.size, 1, none⟩ = some (Value.slice (some ⟨b, off, none⟩) ys.length k) := (obj_cell oa1).trans rfl
                  have c19 : w9.cell? ⟨b, off + j, none⟩ = some (.int .i64 iv) := hg3.cell ((World.cell?_alloc_lt _ _ _ (by show b < wr.heap.size; omega)).trans c1) (by intro he; have := hlim _ he.symm; simp at this; omega)))
              all_goals
                have hA1 := hAr.kept hg3 (own_off (lim := g) (fun q hq => (lA q hq).2) (fun q hq => by have := hlim q hq; omega))
                have hbw3 := hbr2.grown hg3 (by simp; omega) (fun q hq => by have := hlim q hq; omega)
                have hsp : Span g (g + 1) w9 (w9.setCell ⟨g, 1, none⟩ (Value.slice (some ⟨gg, 0, none⟩) (rs.length + 1) cap)) := Span.set (p := ⟨g, 1, none⟩) (Nat.le_refl _) (Nat.lt_succ_self _) _
                have hA2 := own_span hA1 hsp (fun q hq => .inl (lA q hq).2)
                have hO7 := (hO6.span hsp (.inr (by omega))).wider (Nat.le_refl _) hsp.size
                have oa2 := obj_other (g' := g) (i := 1) oa1 (by omega) (Value.slice (some ⟨gg, 0, none⟩) (rs.length + 1) cap)
                have ob2 := obj_other (g' := g) (i := 1) ob1 (by omega) (Value.slice (some ⟨gg, 0, none⟩) (rs.length + 1) cap)
                have oc2 := obj_set (i := 1) oc1 (Value.slice (some ⟨gg, 0, none⟩) (rs.length + 1) cap)
                have hb5 := hbw3.setCell (p := ⟨g, 1, none⟩) (by simp; omega) (Value.slice (some ⟨gg, 0, none⟩) (rs.length + 1) cap)
                have hs5 : w3.heap.size ≤ (w9.setCell ⟨g, 1, none⟩ (Value.slice (some ⟨gg, 0, none⟩) (rs.length + 1) cap)).heap.size := by have h1 := hg3.size; have h2 := hsp.size; simp at h1; omega
                have K := Lib.hid (And.intro oa2 (And.intro ob2 (And.intro oc2 (And.intro hA2 (And.intro hO7 (And.intro hb5 hs5))))))
                clear oa2 ob2 oc2 hA2 hO7 hb5 hs5 hsp hA1 hbw3 hown9 hgrow9 hg3 hO6 oa1 ob1 oc1 f3 f4 f2 hO2 ho2 oar obr ocr hAr hbr2 hlim oa ob oc hA hO hbw f2r f2r2 fBd c1d fB9 c19 fA fB c1
                go_wp2
                go_roundw
                case rel => exact ⟨y + 1, some ⟨gg, 0, none⟩, cap, rs ++ [⟨some ⟨wr.heap.size, 0, none⟩, 2, [iv, (y : Int)]⟩], by omega, by go_num, K.out.1, K.out.2.1, by rw [List.length_append]; exact K.out.2.2.1, K.out.2.2.2.1, by simpa [Row.v] using K.out.2.2.2.2.1, Lib.hid (by rw [HB.out, List.map_append, HX.out]; simp), K.out.2.2.2.2.2.1, K.out.2.2.2.2.2.2⟩
                case measure => simp [intOf]; omega
            · obtain rfl : y = xs.length + 1 := by omega
              have HE := Lib.hid (show rs.map Row.xs = boxesL xs.length (ys.take (j + 1)) by rw [HX.out, boxesL_succ _ _ _ hlt, HIV.out])
              go_wp2
              go_roundw
              case rel => exact ⟨j + 1, D, d, rs, by omega, by go_num, oa, ob, oc, hA, hO, HE, hbw, hsw⟩
              case measure => simp [intOf]; omega
        · obtain rfl : j = ys.length := by omega
          have HE := Lib.hid (show rs.map Row.xs = boxesL xs.length ys by rw [HX.out, List.take_length])
          have f0 : wr.cell? ⟨g, 0, none⟩ = some (Value.slice A2 xs.length c2) := (obj_cell oc).trans rfl
          have f1 : wr.cell? ⟨g, 1, none⟩ = some (Value.slice D rs.length d) := (obj_cell oc).trans rfl
          have g0 : wr.cell? ⟨w.heap.size + 1, 0, none⟩ = some (Value.slice none 0 0) := (obj_cell ob).trans rfl
          have g1 : wr.cell? ⟨w.heap.size + 1, 1, none⟩ = some (Value.slice none 0 0) := (obj_cell ob).trans rfl
          have g2 : wr.frozen? ⟨w.heap.size + 1, 0, none⟩ = false := obj_frozen ob
          have g3 : wr.frozen? ⟨w.heap.size + 1, 1, none⟩ = false := obj_frozen ob
          have o2 := obj_set (i := 1) (obj_set (i := 0) ob (Value.slice A2 xs.length c2)) (Value.slice D rs.length d)
          have s3 := HZ3.out
          have hsp : Span w.heap.size (w.heap.size + 1 + 1) wr ((wr.setCell ⟨w.heap.size + 1, 0, none⟩ (Value.slice A2 xs.length c2)).setCell ⟨w.heap.size + 1, 1, none⟩ (Value.slice D rs.length d)) :=
            (Span.set (p := ⟨w.heap.size + 1, 0, none⟩) (by simp) (by simp) _).trans (Span.set (p := ⟨w.heap.size + 1, 1, none⟩) (by simp) (by simp) _)
          have hr0 : Own wr w1.heap.size g [⟨A2, c2, xs⟩] [] := (Own.one hA (Nat.le_refl _)).lim g (fun r hr q hq => by obtain rfl := List.mem_singleton.1 hr; exact (lA q hq).2)
          have own : Own wr w1.heap.size wr.heap.size (⟨A2, c2, xs⟩ :: rs) [⟨D, d, rs.map Row.v⟩] := by
            have := hr0.app (hO.wider (show g ≤ w3.heap.size by omega) (Nat.le_refl _)) (by omega) (by omega)
            simpa using this
          have own := own.span hsp (.inr (by omega))
          have hb4 := (hbw.setCell (p := ⟨w.heap.size + 1, 0, none⟩) (by simp) (Value.slice A2 xs.length c2)).setCell (p := ⟨w.heap.size + 1, 1, none⟩) (by simp) (Value.slice D rs.length d)
          have l0 := (obj_cell (i := 0) o2).trans rfl
          have l1 := (obj_cell (i := 1) o2).trans rfl
          have hq2 := hsp.size
          clear hsp s3
          go_wp2_with fail
          refine bodyPost_ret (v := .tuple #[.agg #[.slice A2 xs.length c2, .slice D rs.length d], .bool true]) (by simp [results, Try.results12, go_sem, l0, l1]) rfl ?_
          rw [H1.out, H2.out, H3.out]
          exact ⟨_, _, _, _, rs, rfl, HE.out, own.wider (by omega) (by omega), hb4⟩
    · have H1 := Lib.hid (show moG1 xs ys = [] by unfold moG1 moB; rw [HN.out, decide_eq_false h4]; rfl)
      have H2 := Lib.hid (show moG2 xs ys = [] by unfold moG2 moB; rw [HN.out, decide_eq_false h4]; rfl)
      have H3 := Lib.hid (show moB xs ys = false by unfold moB; rw [HN.out, decide_eq_false h4]; rfl)
      have d4 : decide ((xs.length : Int) > 4) = true := decide_eq_true (by omega)
      have g0 : w1.cell? ⟨w.heap.size + 1, 0, none⟩ = some (Value.slice none 0 0) := (obj_cell ob).trans rfl
      have g1 : w1.cell? ⟨w.heap.size + 1, 1, none⟩ = some (Value.slice none 0 0) := (obj_cell ob).trans rfl
      have g2 : w1.frozen? ⟨w.heap.size + 1, 0, none⟩ = false := obj_frozen ob
      have g3 : w1.frozen? ⟨w.heap.size + 1, 1, none⟩ = false := obj_frozen ob
      have o2 := obj_set (i := 1) (obj_set (i := 0) ob (Value.slice none 0 0)) (Value.slice none 0 0)
      have hb4 := (hb.setCell (p := ⟨w.heap.size + 1, 0, none⟩) (by simp) (Value.slice none 0 0)).setCell (p := ⟨w.heap.size + 1, 1, none⟩) (by simp) (Value.slice none 0 0)
      have l0 := (obj_cell (i := 0) o2).trans rfl
      have l1 := (obj_cell (i := 1) o2).trans rfl
      clear h4
      go_wp2_with fail
      refine bodyPost_ret (v := .tuple #[.agg #[.slice none 0 0, .slice none 0 0], .bool false]) (by simp [results, Try.results12, go_sem, l0, l1]) rfl ?_
      rw [H1.out, H2.out, H3.out]
      exact ⟨_, _, _, _, [], rfl, rfl, own_nilmesh _ _ _, hb4⟩
  · have hnf : nearB xs ys = false := by simpa using hn
    have H1 := Lib.hid (show moG1 xs ys = [] by unfold moG1 moB; rw [hnf]; rfl)
    have H2 := Lib.hid (show moG2 xs ys = [] by unfold moG2 moB; rw [hnf]; rfl)
    have H3 := Lib.hid (show moB xs ys = false by unfold moB; rw [hnf]; rfl)
    (with_reducible refine (near_sb A B c k xs ys w0 false (h.next hb0) hnf).mono ?_)
    rintro e w1 ⟨rfl, hb1⟩
    have oa := obj_below oa hb1 (obj_lt oa)
    have ob := obj_below ob hb1 (obj_lt ob)
    have hb := hb0.trans (hb1.mono hb0.size)
    have f0 : w1.cell? ⟨w.heap.size, 0, none⟩ = some (Value.slice A xs.length c) := (obj_cell oa).trans rfl
    have g0 : w1.cell? ⟨w.heap.size + 1, 0, none⟩ = some (Value.slice none 0 0) := (obj_cell ob).trans rfl
    have g1 : w1.cell? ⟨w.heap.size + 1, 1, none⟩ = some (Value.slice none 0 0) := (obj_cell ob).trans rfl
    have g2 : w1.frozen? ⟨w.heap.size + 1, 0, none⟩ = false := obj_frozen ob
    have g3 : w1.frozen? ⟨w.heap.size + 1, 1, none⟩ = false := obj_frozen ob
    have o2 := obj_set (i := 1) (obj_set (i := 0) ob (Value.slice none 0 0)) (Value.slice none 0 0)
    have hb4 := (hb.setCell (p := ⟨w.heap.size + 1, 0, none⟩) (by simp) (Value.slice none 0 0)).setCell (p := ⟨w.heap.size + 1, 1, none⟩) (by simp) (Value.slice none 0 0)
    have l0 := (obj_cell (i := 0) o2).trans rfl
    have l1 := (obj_cell (i := 1) o2).trans rfl
    clear hn hnf
    go_wp2_with fail
    refine bodyPost_ret (v := .tuple #[.agg #[.slice none 0 0, .slice none 0 0], .bool false]) (by simp [results, Try.results12, go_sem, l0, l1]) rfl ?_
    rw [H1.out, H2.out, H3.out]
    exact ⟨_, _, _, _, [], rfl, rfl, own_nilmesh _ _ _, hb4⟩
end Go.Proofs.Ythipikllgpnlhaa

/- CountNear, program and reference. -/
namespace Go.Proofs.Ythipikllgpnlhaa
set_option maxRecDepth 100000
open Go Go.RowKit

/-- A joined place whose neighbor is not beside it. -/
def badJ (l : List Int) (i : Int) : Bool := !(nth l i == nth l (i - 1) + 1)
def nearFit (ys l : List Int) : Bool := !ys.any (badJ l)
def nearCnt (p xs ys : List Int) : Nat := ((occI p xs).filter (nearFit ys)).length
def cnG (p xs ys : List Int) : Int := if permB p = true ∧ nearB xs ys = true then (nearCnt p xs ys : Int) else -1
theorem nearB_range {xs ys : List Int} (h : nearB xs ys = true) : ∀ i ∈ ys, 1 ≤ i ∧ i < xs.length := fun i hi => by
  unfold nearB at h
  rw [Bool.and_eq_true] at h
  obtain ⟨k, hk, rfl⟩ := List.mem_iff_getElem.1 hi
  have := List.all_eq_true.1 h.2 k (List.mem_range.2 hk)
  simp only [joinAt, List.getElem?_eq_getElem hk, Option.getD_some, decide_eq_true_eq] at this
  omega
theorem nearB_permB {xs ys : List Int} (h : nearB xs ys = true) : permB xs = true := by
  unfold nearB at h
  rw [Bool.and_eq_true] at h
  exact h.1
theorem occI_le {p q : List Int} (hp8 : p.length ≤ 8) (hq8 : q.length ≤ 8) : (occI p q).length ≤ 16777216 := by
  unfold occI
  have h1 := List.length_filter_le (fun l => decide (patL (atL p l) = q)) (ascI p.length q.length)
  have h2 := ascI_le p.length q.length
  have h3 := pow_eight hp8 hq8
  omega
theorem occI_mem {p q l : List Int} (h : l ∈ occI p q) : l.length = q.length ∧ Asc p.length l := ascI_mem (List.mem_filter.1 h).1

set_option maxHeartbeats 1000000 in
theorem l8Fits_b (A D : Option Addr) (c f n : Nat) (l ys : List Int) (w : World) (b : Bool) (hn : l.length = n) (hl : Rd (Value.int .i64) w w.heap.size A l) (hy : Rd (Value.int .i64) w w.heap.size D ys) (hly : ys.length ≤ 1048576) (hr : ∀ i ∈ ys, 1 ≤ i ∧ i < l.length) (h8 : n ≤ 8) (hlim : ∀ x ∈ l, 1 ≤ x ∧ x ≤ 8) (hb : nearFit ys l = b) :
    Calls Try.prog 92 #[.slice A n c, .slice D ys.length f] w (Rq w (.bool b)) := by
  have HB := Lib.hid hb
  have HN := Lib.hid hn
  have hn2 : l.length ≤ n := by omega
  have hn3 : n ≤ l.length := by omega
  clear hb hn
  go_enter Try.func92, Try.ntmps92
  go_wp2_with fail
  go_loopw [5] (fun i wr => ∃ k : Nat, k ≤ ys.length ∧ i = .int .i64 k ∧ Hid ((ys.take k).any (badJ l) = false) ∧ Dr w wr) (fun i _ => ys.length - (intOf i).toNat)
  case atStart => exact ⟨0, Nat.zero_le _, rfl, Lib.hid rfl, Dr.refl _⟩
  case round =>
    obtain ⟨k, hk, rfl, HF, hd⟩ := hrel
    rcases Nat.lt_or_ge k ys.length with hlt | hge
    · have hyk := hr ys[k] (List.getElem_mem hlt)
      obtain ⟨m, hm⟩ : ∃ m : Nat, (m : Int) + 1 = ys[k] := ⟨(ys[k] - 1).toNat, by omega⟩
      have hm1 : m + 1 < l.length := by omega
      have hm0 : m < l.length := by omega
      obtain ⟨by_, oy, rfl, _, hcy⟩ := hy (by omega)
      obtain ⟨bl, ol, rfl, _, hcl⟩ := hl (by omega)
      have g1 : wr.cell? ⟨by_, oy + k, none⟩ = some (.int .i64 ys[k]) := (hd.cell _).trans (hcy k hlt)
      have g2 : wr.cell? ⟨bl, ol + (m + 1), none⟩ = some (.int .i64 (l[m + 1])) := (hd.cell _).trans (hcl (m + 1) (by omega))
      have g3 : wr.cell? ⟨bl, ol + m, none⟩ = some (.int .i64 (l[m])) := (hd.cell _).trans (hcl m (by omega))
      rw [← hm] at g1
      have HK := Lib.hid (show badJ l ys[k] = !(l[m + 1] == l[m] + 1) by
        unfold badJ nth
        rw [← hm, show ((m : Int) + 1).toNat = m + 1 by omega, show ((m : Int) + 1 - 1).toNat = m by omega, List.getElem?_eq_getElem (show m + 1 < l.length by omega), List.getElem?_eq_getElem (show m < l.length by omega)]
        rfl)
      have b1 := hlim l[m] (List.getElem_mem _)
      have e6 : IntKind.i64.wrap (l[m] + 1) = l[m] + 1 := IntWalk.i64_in _ (by omega)
      have e1 : IntKind.i64.wrap ((m : Int) + 1 - 1) = (m : Int) := by rw [Int.add_sub_cancel]; exact IntWalk.i64_in _ (by omega)
      have e2 : ((m : Int) + 1).toNat = m + 1 := by omega
      have e3 : 0 ≤ (m : Int) + 1 := by omega
      have e4 : (m : Int) + 1 < (n : Int) := by omega
      have e5 : (m : Int) < (n : Int) := by omega
      have e7 : (k : Int) < (ys.length : Int) := by omega
      clear hcy hcl hyk hm
      by_cases hh : badJ l ys[k] = true
      · have HT := Lib.hid (show nearFit ys l = false by unfold nearFit; rw [any_at hlt hh]; rfl)
        have hne : (l[m + 1] != l[m] + 1) = true := HK.out.symm.trans hh
        clear hh HK
        go_wp2_with fail
        go_quiet (fail)
        go_wp2_with fail
        go_ret
        exact ⟨ret_bool (by rw [← HB.out, HT.out]), (by first | with_reducible assumption | with_reducible exact hd | with_reducible exact Dr.drewN hd _ | with_reducible exact Dr.drewN (Dr.drewN hd _) _ | with_reducible exact Dr.drew hd)⟩
      · have hhf : badJ l ys[k] = false := by simpa using hh
        have HT := Lib.hid (show (ys.take (k + 1)).any (badJ l) = false from any_take_false HF.out hlt hhf)
        have hne : (l[m + 1] != l[m] + 1) = false := HK.out.symm.trans hhf
        clear hh hhf HK
        go_wp2_with fail
        go_quiet (fail)
        go_wp2_with fail
        go_roundw
        case rel => exact ⟨k + 1, by omega, by go_num, HT, (by first | with_reducible assumption | with_reducible exact hd | with_reducible exact Dr.drewN hd _ | with_reducible exact Dr.drewN (Dr.drewN hd _) _ | with_reducible exact Dr.drew hd)⟩
        case measure => simp [intOf]; omega
    · have HT := Lib.hid (show nearFit ys l = true by have := HF.out; rw [List.take_of_length_le hge] at this; unfold nearFit; rw [this]; rfl)
      go_wp2_with fail
      go_ret
      exact ⟨ret_bool (by rw [← HB.out, HT.out]), hd⟩

set_option maxHeartbeats 4000000 in
theorem countNear_spec (A : Option Addr) (c : Nat) (p : List Int) (C D : Option Addr) (e f : Nat) (xs ys : List Int) (w : World) (hp : In w A c p) (hx : InN w C e xs D f ys) :
    Calls Try.prog 20 #[.slice A p.length c, .agg #[.slice C xs.length e, .slice D ys.length f]] w (Rb w (.int .i64 (cnG p xs ys))) := by
  go_enter Try.func20, Try.ntmps20
  have hb0 : Below w.heap.size w (w.alloc (Obj.cells #[Value.slice C xs.length e, Value.slice D ys.length f] 32)) := (Below.refl _ _).alloc (Nat.le_refl _) _
  have ob := obj_new w (Obj.cells #[Value.slice C xs.length e, Value.slice D ys.length f] 32)
  go_wp2_with fail
  generalize (w.alloc (Obj.cells #[Value.slice C xs.length e, Value.slice D ys.length f] 32)) = w0 at hb0 ob ⊢
  by_cases hP : permB p = true
  · have H1 := Lib.hid hP
    have hp8 := (permB_true hP).1
    clear hP
    (with_reducible refine (isPerm_sb A c p w0 true (hp.next hb0) H1.out).mono ?_)
    rintro e w1 ⟨rfl, hd1⟩
    have ob := obj_dr ob hd1
    have hb := below_dr hb0 hd1
    have f0 : w1.cell? ⟨w.heap.size, 0, none⟩ = some (Value.slice C xs.length e) := (obj_cell ob).trans rfl
    have f1 : w1.cell? ⟨w.heap.size, 1, none⟩ = some (Value.slice D ys.length f) := (obj_cell ob).trans rfl
    go_wp2_with fail
    by_cases hN : nearB xs ys = true
    · have H2 := Lib.hid hN
      have hx8 := (permB_true (nearB_permB hN)).1
      have hrange := nearB_range hN
      have hly := hx.2.len
      have HXP := Lib.hid (nearB_permB hN)
      clear hN
      (with_reducible refine (near_sb C D e f xs ys w1 true (hx.next hb) H2.out).mono ?_)
      rintro e w2 ⟨rfl, hb2⟩
      have ob := obj_below ob hb2 (obj_lt ob)
      have hb := hb.trans (hb2.mono hb.size)
      have f0 : w2.cell? ⟨w.heap.size, 0, none⟩ = some (Value.slice C xs.length e) := (obj_cell ob).trans rfl
      have HG := Lib.hid (show cnG p xs ys = (nearCnt p xs ys : Int) by unfold cnG; rw [if_pos ⟨H1.out, H2.out⟩])
      go_wp2_with fail
      (with_reducible refine (occurrencesOf_spec A C c e p xs w2 (hp.next hb) (hx.1.next hb) H1.out HXP.out).mono ?_)
      rintro e w3 ⟨A3, c3, rs, rfl, hX, hO, hb3⟩
      rw [occ_eq H1.out HXP.out] at hX
      have ob := obj_below ob hb3 (obj_lt ob)
      have hb := hb.trans (hb3.mono hb.size)
      have hRd := hO.read
      have hlen : rs.length ≤ 16777216 := by have h1 := occI_le hp8 hx8; have h2 := congrArg List.length hX; rw [List.length_map] at h2; omega
      have HX := Lib.hid hX
      have hob := obj_lt ob
      clear hX hO f0 f1 hb2
      go_wp2_with fail
      go_loopw [5, 7] (fun s i wr => ∃ k : Nat, k ≤ rs.length ∧ i = .int .i64 k ∧ s = .int .i64 (cntTo (fun r : Row => nearFit ys r.xs) rs k : Nat) ∧ Dr w3 wr) (fun _ i _ => rs.length - (intOf i).toNat)
      case atStart => exact ⟨0, Nat.zero_le _, rfl, rfl, Dr.refl _⟩
      case round =>
        obtain ⟨k, hk, rfl, rfl, hd4⟩ := hrel
        have hle := cntTo_le (fun r : Row => nearFit ys r.xs) rs k
        rcases Nat.lt_or_ge k rs.length with hlt | hge
        · have hRd2 := hRd.dr hd4
          obtain ⟨b, off, rfl, _, hc⟩ := hRd2.at (by omega)
          have cc := hc k hlt
          have hmem := occI_mem (map_memX HX.out (List.getElem_mem hlt))
          have hml : rs[k].xs.length = xs.length := hmem.1
          have hlim : ∀ x ∈ rs[k].xs, 1 ≤ x ∧ x ≤ 8 := fun x hx => by have := hmem.2.1 x hx; omega
          have hl8 : rs[k].xs.length ≤ 8 := by omega
          have hszw : wr.heap.size = w3.heap.size := by rw [hd4.heap]
          have hin := row_in hRd2 (List.getElem_mem hlt) (by omega) (by rw [hszw]; exact Nat.le_refl _)
          have hy2 := ((hx.2.next hb).dr hd4).rd
          have f1 : wr.cell? ⟨w.heap.size, 1, none⟩ = some (Value.slice D ys.length f) := (obj_cell (obj_dr ob hd4)).trans rfl
          have HR := Lib.hid (show ∀ i ∈ ys, 1 ≤ i ∧ i < (rs[k].xs.length : Int) from fun i hi => by have := hrange i hi; omega)
          have HL := Lib.hid hlim
          have HS := Lib.hid (cntTo_succ (fun r : Row => nearFit ys r.xs) rs k hlt)
          have i0 : (0 : Int) ≤ (k : Int) := Int.natCast_nonneg _
          have i1 : (k : Int) < (rs.length : Int) := by omega
          have hrl := hin.rd
          clear hc hmem hml hin hRd2 hlim hszw
          by_cases hH : nearFit ys rs[k].xs = true
          · have HF := Lib.hid hH
            have HT := Lib.hid (show cntTo (fun r : Row => nearFit ys r.xs) rs (k + 1) = cntTo (fun r : Row => nearFit ys r.xs) rs k + 1 by rw [HS.out, if_pos hH])
            have e1 : IntKind.i64.wrap (((cntTo (fun r : Row => nearFit ys r.xs) rs k : Nat) : Int) + 1) = ((cntTo (fun r : Row => nearFit ys r.xs) rs k : Nat) : Int) + 1 := IntWalk.i64_in _ (by omega)
            clear hH
            go_wp2_with fail
            go_quiet ((first | (go_at_call 92; exact quiet_rq (l8Fits_b _ _ _ _ _ rs[k].xs ys _ true rfl (hrl.drewN _) (hy2.drewN _) hly HR.out hl8 HL.out HF.out)) | (go_at_call 91; exact quiet_eq (l1Bit_b true 1 _ rfl))))
            go_wp2_with fail
            go_roundw
            case rel => exact ⟨k + 1, by omega, by go_num, by rw [HT.out]; all_goals go_num, (by first | with_reducible assumption | with_reducible exact hd4 | with_reducible exact Dr.drewN hd4 _ | with_reducible exact Dr.drewN (Dr.drewN hd4 _) _ | with_reducible exact Dr.drew hd4)⟩
            case measure => simp [intOf]; omega
          · have hHf : nearFit ys rs[k].xs = false := by simpa using hH
            have HF := Lib.hid hHf
            have HT := Lib.hid (show cntTo (fun r : Row => nearFit ys r.xs) rs (k + 1) = cntTo (fun r : Row => nearFit ys r.xs) rs k by rw [HS.out, if_neg hH, Nat.add_zero])
            have e1 : IntKind.i64.wrap (((cntTo (fun r : Row => nearFit ys r.xs) rs k : Nat) : Int) + 0) = ((cntTo (fun r : Row => nearFit ys r.xs) rs k : Nat) : Int) := by rw [Int.add_zero]; exact IntWalk.i64_in _ (by omega)
            clear hH hHf
            go_wp2_with fail
            go_quiet ((first | (go_at_call 92; exact quiet_rq (l8Fits_b _ _ _ _ _ rs[k].xs ys _ false rfl (hrl.drewN _) (hy2.drewN _) hly HR.out hl8 HL.out HF.out)) | (go_at_call 91; exact quiet_eq (l1Bit_b false 0 _ rfl))))
            go_wp2_with fail
            go_roundw
            case rel => exact ⟨k + 1, by omega, by go_num, by rw [HT.out]; all_goals go_num, (by first | with_reducible assumption | with_reducible exact hd4 | with_reducible exact Dr.drewN hd4 _ | with_reducible exact Dr.drewN (Dr.drewN hd4 _) _ | with_reducible exact Dr.drew hd4)⟩
            case measure => simp [intOf]; omega
        · obtain rfl : k = rs.length := by omega
          have HE := Lib.hid (show cntTo (fun r : Row => nearFit ys r.xs) rs rs.length = nearCnt p xs ys by
            rw [cntTo_all]; unfold nearCnt; rw [← HX.out, List.filter_map, List.length_map]; rfl)
          go_wp2_with fail
          go_ret
          exact ⟨ret_int (by rw [HG.out, HE.out]), below_dr hb hd4⟩
    · have hNf : nearB xs ys = false := by simpa using hN
      have HG := Lib.hid (show cnG p xs ys = -1 by unfold cnG; rw [if_neg]; exact fun h => hN h.2)
      (with_reducible refine (near_sb C D e f xs ys w1 false (hx.next hb) hNf).mono ?_)
      rintro e w2 ⟨rfl, hb2⟩
      clear hN hNf
      go_wp2_with fail
      go_ret
      exact ⟨ret_int (by rw [HG.out]), hb.trans (hb2.mono hb.size)⟩
  · have hPf : permB p = false := by simpa using hP
    have HG := Lib.hid (show cnG p xs ys = -1 by unfold cnG; rw [if_neg]; exact fun h => hP h.1)
    (with_reducible refine (isPerm_sb A c p w0 false (hp.next hb0) hPf).mono ?_)
    rintro e w1 ⟨rfl, hd1⟩
    clear hP hPf
    go_wp2_with fail
    go_ret
    exact ⟨ret_int (by rw [HG.out]), below_dr hb0 hd1⟩
end Go.Proofs.Ythipikllgpnlhaa

/- InverseMesh, program and reference. -/
namespace Go.Proofs.Ythipikllgpnlhaa
set_option maxRecDepth 100000
open Go Go.RowKit

def swp (s : List Int) : List Int := [s[1]?.getD 0, s[0]?.getD 0]
theorem swp_len (s : List Int) : (swp s).length = 2 := rfl
def swL (X : List (List Int)) : List (List Int) := X.map swp
theorem swL_len (X : List (List Int)) : (swL X).length = X.length := by simp [swL]
theorem swL_two {X : List (List Int)} : ∀ s ∈ swL X, s.length = 2 := fun s hs => by
  obtain ⟨a, _, rfl⟩ := List.mem_map.1 hs
  rfl
/-- The first j boxes, swapped and put in order one after the other. -/
def imTo (X : List (List Int)) (j : Nat) : List (List Int) := ordL (swL (X.take j))
theorem imTo_succ (X : List (List Int)) (j : Nat) (h : j < X.length) : imTo X (j + 1) = putL (imTo X j) (swp X[j]) := by
  unfold imTo swL ordL
  rw [List.take_succ_eq_append_getElem h, List.map_append, List.foldl_append]; rfl
theorem imTo_len (X : List (List Int)) (j : Nat) (h : j ≤ X.length) : (imTo X j).length ≤ j := by
  have h1 := ordL_len (swL (X.take j))
  rw [swL_len, List.length_take] at h1
  unfold imTo
  omega
theorem imTo_two (X : List (List Int)) (j : Nat) : ∀ s ∈ imTo X j, s.length = 2 := fun s hs => by
  unfold imTo at hs
  exact swL_two s ((ordL_mem _ s).1 hs)
theorem swp_inj {x y : List Int} (hx : x.length = 2) (hy : y.length = 2) (h : swp x = swp y) : x = y := by
  match x, y, hx, hy with
  | [a, b], [c, d], _, _ =>
    simp only [swp, List.getElem?_cons_succ, List.getElem?_cons_zero, Option.getD_some, List.cons.injEq, and_true] at h
    rw [h.1, h.2]
theorem swL_nodup {xs : List Int} {X : List (List Int)} (h : meshB xs X = true) : (swL X).Pairwise (· ≠ ·) := by
  unfold swL
  rw [List.pairwise_map]
  refine List.Pairwise.imp_of_mem ?_ (mesh_srt h)
  intro a b ha hb hab he
  have e := swp_inj (mesh_two h a ha) (mesh_two h b hb) he
  subst e
  rw [before_irrefl] at hab
  cases hab
/-- Sorted, without repeats: put in order one after the other. -/
theorem sorted_ord {S X : List (List Int)} (hs : S.Pairwise fun x y => before y x = false) (hp : S.Perm X) (hn : X.Pairwise (· ≠ ·)) : S = ordL X := by
  refine srt_ext ?_ (ordL_srt X) fun q => by rw [ordL_mem]; exact hp.mem_iff
  have hn' : S.Pairwise (· ≠ ·) := (hp.symm.pairwise_iff (fun {a b} h => Ne.symm h)).1 hn
  unfold Srt
  refine (hs.and hn').imp fun {a b} h => ?_
  cases hb : before a b with
  | true => rfl
  | false => exact absurd (before_total hb h.1) h.2
theorem before_two {x y : List Int} (hx : x.length = 2) (hy : y.length = 2) : decide (cmpL x y < 0) = before x y := by
  unfold before
  rw [if_pos (hx.trans hy.symm)]
def imG1 (xs : List Int) (X : List (List Int)) : List Int := if meshB xs X = true then invL xs else []
def imG2 (xs : List Int) (X : List (List Int)) : List (List Int) := if meshB xs X = true then imTo X X.length else []
theorem imG_le (xs : List Int) (X : List (List Int)) : (imG1 xs X).length + ((imG2 xs X).length + sizeX (imG2 xs X)) ≤ 1048576 := by
  unfold imG1 imG2
  by_cases h : meshB xs X = true
  · rw [if_pos h, if_pos h]
    have h1 := mesh_len h
    have h2 := (mesh_perm h).2
    have h3 := imTo_len X X.length (Nat.le_refl _)
    rw [sizeX_two fun s hs => imTo_two X X.length s hs]
    have h4 : (invL xs).length = xs.length := by unfold invL; exact invTo_length _ _
    omega
  · rw [if_neg h, if_neg h]
    simp [sizeX]
theorem call_cmpS (args : Array Value) (w : World) : (callFunc 82 args).run Try.prog w = .ok (.enter 82 args) w := by kernel_rfl
theorem grow_nil (w : World) : w = Sort.grow (w.drewN 0) #[] := by
  show w = ({ w with heap := w.heap ++ #[] } : World)
  simp
set_option maxHeartbeats 2000000 in
theorem inverseMesh_impl (A B : Option Addr) (c k : Nat) (xs : List Int) (rs : List Row) (w : World) (h : InM w A c xs B k rs) :
    Calls Try.prog 13 #[.agg #[.slice A xs.length c, .slice B rs.length k]] w (RetMb w (imG1 xs (rs.map Row.xs)) (imG2 xs (rs.map Row.xs)) (meshB xs (rs.map Row.xs))) := by
  obtain ⟨j0, hj, hy0, hy1, hy2⟩ := info_parts infoL
  have hlx := h.1.len
  have hly := h.2.len
  go_enter Try.func13, Try.ntmps13
  have hb0 : Below w.heap.size w ((w.alloc (Obj.cells #[Value.slice A xs.length c, Value.slice B rs.length k] 27)).alloc (Obj.cells #[Value.slice none 0 0, Value.slice none 0 0] 27)) := ((Below.refl _ _).alloc (Nat.le_refl _) _).alloc (by simp) _
  go_wp2_with fail
  have oa := obj_alloc (obj_new w (Obj.cells #[Value.slice A xs.length c, Value.slice B rs.length k] 27)) (Obj.cells #[Value.slice none 0 0, Value.slice none 0 0] 27)
  have ob := obj_new (w.alloc (Obj.cells #[Value.slice A xs.length c, Value.slice B rs.length k] 27)) (Obj.cells #[Value.slice none 0 0, Value.slice none 0 0] 27)
  have hzw : ((w.alloc (Obj.cells #[Value.slice A xs.length c, Value.slice B rs.length k] 27)).alloc (Obj.cells #[Value.slice none 0 0, Value.slice none 0 0] 27)).heap.size = w.heap.size + 1 + 1 := by simp
  simp only [World.size_alloc] at ob
  generalize ((w.alloc (Obj.cells #[Value.slice A xs.length c, Value.slice B rs.length k] 27)).alloc (Obj.cells #[Value.slice none 0 0, Value.slice none 0 0] 27)) = w0 at hb0 oa ob hzw ⊢
  by_cases hn : meshB xs (rs.map Row.xs) = true
  · have HN := Lib.hid hn
    have H1 := Lib.hid (show imG1 xs (rs.map Row.xs) = invL xs by unfold imG1; rw [if_pos hn])
    have H2 := Lib.hid (show imG2 xs (rs.map Row.xs) = ordL (swL (rs.map Row.xs)) by unfold imG2 imTo; rw [if_pos hn, List.take_length])
    have hP := (mesh_perm hn).1
    have hrl : rs.length ≤ 25 := by simpa using mesh_len hn
    have HT := Lib.hid (rows_two hn)
    have HD := Lib.hid (swL_nodup hn)
    (with_reducible refine (mesh_ib A B c k xs rs w0 true (h.next hb0) HN.out).mono ?_)
    rintro e wn ⟨rfl, hb1⟩
    have oa := obj_below oa hb1 (obj_lt oa)
    have ob := obj_below ob hb1 (obj_lt ob)
    have hb := hb0.trans (hb1.mono hb0.size)
    have hsz1 := hb1.size
    have f0 : wn.cell? ⟨w.heap.size, 0, none⟩ = some (Value.slice A xs.length c) := (obj_cell oa).trans rfl
    have f1 : wn.cell? ⟨w.heap.size, 1, none⟩ = some (Value.slice B rs.length k) := (obj_cell oa).trans rfl
    have HI := Lib.hid (inverse_impl A c xs wn (h.1.next hb) hP)
    clear hn hb1 hP
    go_wp2_with fail
    (with_reducible refine HI.out.mono ?_)
    rintro e w2 ⟨A2, c2, rfl, _, _, own2, hb2⟩
    have oa := obj_below oa hb2 (obj_lt oa)
    have ob := obj_below ob hb2 (obj_lt ob)
    have hb' := hb.trans (hb2.mono hb.size)
    have hsz2 := hb2.size
    have hsb := hb'.size
    have oa3 := obj_alloc oa (Obj.cells #[Value.slice A2 (invL xs).length c2, Value.slice none 0 0] 27)
    have ob3 := obj_alloc ob (Obj.cells #[Value.slice A2 (invL xs).length c2, Value.slice none 0 0] 27)
    have oc3 := obj_new w2 (Obj.cells #[Value.slice A2 (invL xs).length c2, Value.slice none 0 0] 27)
    have hA3 := own2.alloc (Obj.cells #[Value.slice A2 (invL xs).length c2, Value.slice none 0 0] 27)
    have lA : ∀ q, (Value.slice A2 (invL xs).length c2).ownBlock = some q → wn.heap.size ≤ q ∧ q < w2.heap.size := fun q hq => own2.lt q hq
    have hb3 := hb'.alloc hsb (Obj.cells #[Value.slice A2 (invL xs).length c2, Value.slice none 0 0] 27)
    have hz3 : (w2.alloc (Obj.cells #[Value.slice A2 (invL xs).length c2, Value.slice none 0 0] 27)).heap.size = w2.heap.size + 1 := by simp
    have g1 : (w2.alloc (Obj.cells #[Value.slice A2 (invL xs).length c2, Value.slice none 0 0] 27)).cell? ⟨w.heap.size, 1, none⟩ = some (Value.slice B rs.length k) := (obj_cell oa3).trans rfl
    have hlt2 : w.heap.size + 1 < w2.heap.size := by omega
    clear own2 hb2 hb oa ob f0 f1 HI
    go_wp2_with fail
    generalize (w2.alloc (Obj.cells #[Value.slice A2 (invL xs).length c2, Value.slice none 0 0] 27)) = w3 at oa3 ob3 oc3 hA3 hb3 hz3 g1 ⊢
    obtain ⟨g, hg⟩ : ∃ g, g = w2.heap.size := ⟨_, rfl⟩
    rw [← hg] at oc3 hz3 hlt2 lA hsz2 ⊢
    have HZ3 := Lib.hid hz3
    clear hg hz3 g1
    go_loopw [18] (fun i wr => ∃ (j : Nat) (D : Option Addr) (d : Nat) (ds : List Row), j ≤ rs.length ∧ i = .int .i64 (j : Int) ∧ wr.heap[g]? = some (Obj.cells #[Value.slice A2 (invL xs).length c2, Value.slice D ds.length d] 27) ∧
      wr.heap[w.heap.size]? = some (Obj.cells #[Value.slice A xs.length c, Value.slice B rs.length k] 27) ∧
      wr.heap[w.heap.size + 1]? = some (Obj.cells #[Value.slice none 0 0, Value.slice none 0 0] 27) ∧ wr.ownsRow wn.heap.size 3 1 (.slice A2 (invL xs).length c2) (invL xs).length ((invL xs).map (Value.int .i64)) ∧
      Own wr w3.heap.size wr.heap.size ds [⟨D, d, ds.map Row.v⟩] ∧ Hid (ds.map Row.xs = swL ((rs.map Row.xs).take j)) ∧ Below w.heap.size w wr ∧ w3.heap.size ≤ wr.heap.size) (fun i _ => rs.length - (intOf i).toNat)
    case atStart => exact ⟨0, none, 0, [], Nat.zero_le _, rfl, oc3, oa3, ob3, hA3, Own.nil_list _ _ _, Lib.hid rfl, hb3, Nat.le_refl _⟩
    case round =>
      clear oc3 oa3 ob3 hA3 hb3
      obtain ⟨j, D, d, ds, hjl, rfl, og, oa, ob, hA, hO, HX, hbw, hsw⟩ := hrel
      have hdl : ds.length = j := by have := congrArg List.length HX.out; simp [swL] at this; omega
      have f1 : wr.cell? ⟨g, 1, none⟩ = some (Value.slice D ds.length d) := (obj_cell og).trans rfl
      have f0 : wr.cell? ⟨g, 0, none⟩ = some (Value.slice A2 (invL xs).length c2) := (obj_cell og).trans rfl
      have a0 : wr.cell? ⟨w.heap.size, 0, none⟩ = some (Value.slice A xs.length c) := (obj_cell oa).trans rfl
      have a1 : wr.cell? ⟨w.heap.size, 1, none⟩ = some (Value.slice B rs.length k) := (obj_cell oa).trans rfl
      have hcount : ds.length ≤ 25 := by omega
      have HDL := Lib.hid hdl
      clear hdl
      by_cases hlt : j < rs.length
      · have hL := h.2.next hbw
        obtain ⟨b, off, rfl, _, hc⟩ := hL.read.at (by omega)
        have cc := hc j hlt
        obtain ⟨r, hr⟩ : ∃ r, r = rs[j] := ⟨_, rfl⟩
        have hmem : r ∈ rs := by rw [hr]; exact List.getElem_mem hlt
        have h2 := HT.out r hmem
        have hrow := (hL.row hmem).rd
        rw [← hr] at cc
        obtain ⟨bx, by_, hab⟩ : ∃ a b, r.xs = [a, b] := by
          match hq : r.xs, h2 with
          | [a, b], _ => exact ⟨a, b, rfl⟩
        have HS := Lib.hid (show swL ((rs.map Row.xs).take (j + 1)) = swL ((rs.map Row.xs).take j) ++ [[by_, bx]] by
          unfold swL
          rw [List.take_succ_eq_append_getElem (by simpa using hlt), List.map_append]
          simp only [List.getElem_map, ← hr, hab]
          rfl)
        obtain ⟨rA, rc, rx⟩ := r
        simp only at hab
        subst hab
        obtain ⟨rb, ro, hA', _, hcc⟩ := hrow (by simp)
        simp only at hA'
        subst hA'
        have e0 : wr.cell? ⟨rb, ro, none⟩ = some (.int .i64 bx) := hcc 0 (by simp)
        have e1 : wr.cell? ⟨rb, ro + 1, none⟩ = some (.int .i64 by_) := hcc 1 (by simp)
        have cc : wr.cell? ⟨b, off + j, none⟩ = some (Value.slice (some ⟨rb, ro, none⟩) 2 rc) := cc
        have s3 : g < w3.heap.size := by have := HZ3.out; omega
        have hrow2 : (wr.alloc (.cells #[.int .i64 by_, .int .i64 bx] 3)).ownsRow wr.heap.size 3 1 (Row.v ⟨some ⟨wr.heap.size, 0, none⟩, 2, [by_, bx]⟩) 2 ([by_, bx].map (Value.int .i64)) := World.ownsRow_lit wr #[.int .i64 by_, .int .i64 bx] 2 (Nat.le_refl _) (by unfold maxLen; omega) rfl
        have hbr := (Below.refl wr.heap.size wr).alloc (Nat.le_refl _) (.cells #[.int .i64 by_, .int .i64 bx] 3)
        have hO2 := (hO.below hbr).add (r := ⟨some ⟨wr.heap.size, 0, none⟩, 2, [by_, bx]⟩) hrow2 (by simp) hsw
        have ho2 := hO2.outN (n := ds.length) (by simp)
        have oar := obj_alloc oa (.cells #[.int .i64 by_, .int .i64 bx] 3)
        have obr := obj_alloc ob (.cells #[.int .i64 by_, .int .i64 bx] 3)
        have ogr := obj_alloc og (.cells #[.int .i64 by_, .int .i64 bx] 3)
        have hAr := hA.alloc (.cells #[.int .i64 by_, .int .i64 bx] 3)
        have hbr2 := hbw.alloc (by omega) (.cells #[.int .i64 by_, .int .i64 bx] 3)
        have hlim := hO2.olim (n := ds.length) (by simp)
        clear hbr hrow2 hc hr hmem h2 hrow hcc hL
        have f1d : wr.drew.cell? ⟨g, 1, none⟩ = some (Value.slice D ds.length d) := f1
        have e0d : wr.drew.cell? ⟨rb, ro, none⟩ = some (.int .i64 bx) := e0
        have e1d : wr.drew.cell? ⟨rb, ro + 1, none⟩ = some (.int .i64 by_) := e1
        have f1r : (wr.alloc (Obj.cells #[.int .i64 by_, .int .i64 bx] 3)).cell? ⟨g, 1, none⟩ = some (Value.slice D ds.length d) := (obj_cell ogr).trans rfl
        have f1r2 : ((wr.alloc (Obj.cells #[.int .i64 by_, .int .i64 bx] 3)).alloc (Obj.cells #[Value.slice (some ⟨wr.heap.size, 0, none⟩) 2 2] 24)).cell? ⟨g, 1, none⟩ = some (Value.slice D ds.length d) := (obj_cell (obj_alloc ogr _)).trans rfl
        go_wp2_with fail
        go_region_law
          ((refine step_append_lies _ (by rfl) _ _ _ (by rfl) w3.heap.size 24 j0 (.slice none 0 0) 1 24 Try.underlying25 hj hy0 hy1 hy2 rfl (by decide) (Value.slice D ds.length d) ds.length (ds.map Row.v) (by rfl) ((World.ownsRow.alloc ho2 _).drew) ⟨wr.heap.size + 1, 0, none⟩ 1 1 [Value.slice (some ⟨wr.heap.size, 0, none⟩) 2 2] (by rfl) (by rfl) (cell_one_at (w := wr.alloc (.cells #[.int .i64 by_, .int .i64 bx] 3)) (H := wr.heap.size + 1) _ _ (by simp)) (by intro u hu; simp at hu; subst hu; rfl) (by omega) (by unfold maxLen; omega) (by omega) (by simp; omega) (wr.heap.size + 2) (by simp) ?_; intro gg cap w9 hown9 hgrow9 hat hlt9
            obtain ⟨A5, c5, hv5, hO6, hg3⟩ := hO2.grow (Nat.le_refl _) (by simp) hown9 (grown_drew hgrow9)
            injection hv5 with e51 _ e52
            subst e51 e52
            have oa1 := (hg3.block _ (obj_lt oar) (by intro he; have := hlim _ he.symm; omega)).trans oar
            have ob1 := (hg3.block _ (obj_lt obr) (by intro he; have := hlim _ he.symm; omega)).trans obr
            have og1 := (hg3.block _ (obj_lt ogr) (by intro he; have := hlim _ he.symm; omega)).trans ogr
            have f3 : w9.cell? ⟨g, 1, none⟩ = some (Value.slice D ds.length d) := (obj_cell og1).trans rfl
            have f4 : w9.frozen? ⟨g, 1, none⟩ = false := obj_frozen og1))
        all_goals
          have hA1 := hAr.kept hg3 (own_off (lim := g) (fun q hq => (lA q hq).2) (fun q hq => by have := hlim q hq; omega))
          have hbw3 := hbr2.grown hg3 (by simp; omega) (fun q hq => by have := hlim q hq; omega)
          have hsp : Span g (g + 1) w9 (w9.setCell ⟨g, 1, none⟩ (Value.slice (some ⟨gg, 0, none⟩) (ds.length + 1) cap)) := Span.set (p := ⟨g, 1, none⟩) (Nat.le_refl _) (Nat.lt_succ_self _) _
          have hA2 := own_span hA1 hsp (fun q hq => .inl (lA q hq).2)
          have hO7 := (hO6.span hsp (.inr (by omega))).wider (Nat.le_refl _) hsp.size
          have oa2 := obj_other (g' := g) (i := 1) oa1 (by omega) (Value.slice (some ⟨gg, 0, none⟩) (ds.length + 1) cap)
          have ob2 := obj_other (g' := g) (i := 1) ob1 (by omega) (Value.slice (some ⟨gg, 0, none⟩) (ds.length + 1) cap)
          have og2 := obj_set (i := 1) og1 (Value.slice (some ⟨gg, 0, none⟩) (ds.length + 1) cap)
          have hb5 := hbw3.setCell (p := ⟨g, 1, none⟩) (by simp; omega) (Value.slice (some ⟨gg, 0, none⟩) (ds.length + 1) cap)
          have hs5 : w3.heap.size ≤ (w9.setCell ⟨g, 1, none⟩ (Value.slice (some ⟨gg, 0, none⟩) (ds.length + 1) cap)).heap.size := by have h1 := hg3.size; have h2 := hsp.size; simp at h1; omega
          have K := Lib.hid (And.intro oa2 (And.intro ob2 (And.intro og2 (And.intro hA2 (And.intro hO7 (And.intro hb5 hs5))))))
          clear oa2 ob2 og2 hA2 hO7 hb5 hs5 hsp hA1 hbw3 hown9 hgrow9 hg3 hO6 oa1 ob1 og1 f3 f4 f1 f0 a0 a1 f1r f1d f1r2 e0d e1d e0 e1 cc hO2 ho2 oar obr ogr hAr hbr2 hlim oa ob og hA hO hbw
          go_wp2_with fail
          go_roundw
          case rel => exact ⟨j + 1, some ⟨gg, 0, none⟩, cap, ds ++ [⟨some ⟨wr.heap.size, 0, none⟩, 2, [by_, bx]⟩], by omega, by go_num, by rw [List.length_append]; exact K.out.2.2.1, K.out.1, K.out.2.1, K.out.2.2.2.1, by simpa [Row.v] using K.out.2.2.2.2.1, Lib.hid (by rw [HS.out, List.map_append, HX.out]; rfl), K.out.2.2.2.2.2.1, K.out.2.2.2.2.2.2⟩
          case measure => (simp [intOf]) <;> omega
      · obtain rfl : j = rs.length := by omega
        have HX2 := Lib.hid (show ds.map Row.xs = swL (rs.map Row.xs) by rw [HX.out]; rw [List.take_of_length_le (by simp)])
        have h2d : ∀ r ∈ ds, r.xs.length = 2 := fun r hr => swL_two r.xs (by rw [← HX2.out]; exact List.mem_map.2 ⟨r, hr, rfl⟩)
        have s3 := HZ3.out
        have hlim : ∀ q, (Value.slice D 0 0).ownBlock = some q → w3.heap.size ≤ q := fun q hq => (hO.olim (n := ds.length) (by simp) q (by rw [← hq]; exact ownBlock_len _ _ _ _ _)).1
        have hS := Lib.hid (sort_any D d w3.heap.size ds wr 82 cmpL hO (by omega) (fun args w => call_cmpS args w) (fun x hx y hy => before_two (h2d x hx) (h2d y hy)) (fun W x y hx hy h1 h2 => (compareS_any x.A y.A x.c y.c x.xs.length y.xs.length x.xs y.xs W rfl rfl (by have := h2d x hx; omega) (by have := h2d y hy; omega) h1 h2).mono fun e w' he => ⟨he.1, 0, #[], by rw [← he.2]; exact grow_nil W⟩))
        clear h2d
        go_wp2_with fail
        (with_reducible refine hS.out.mono ?_)
        rintro e wq ⟨rfl, ss, hperm, hsorted, hO1, hgq⟩
        have hsl : ss.length = ds.length := hperm.length_eq
        have HE := Lib.hid (show ss.map Row.xs = ordL (swL (rs.map Row.xs)) from sorted_ord hsorted (by rw [← HX2.out]; exact hperm.map _) HD.out)
        have og := (hgq.block g (obj_lt og) (by intro he; have := hlim _ he.symm; omega)).trans og
        have ob := (hgq.block (w.heap.size + 1) (obj_lt ob) (by intro he; have := hlim _ he.symm; omega)).trans ob
        have hA2 := hA.kept hgq (own_off (lim := g) (fun q hq => (lA q hq).2) (fun q hq => by have := hlim q hq; omega))
        have hbq := hbw.grown hgq hbw.size (fun q hq => by have := hlim q hq; omega)
        have hsq := hgq.size
        have f1 : wq.cell? ⟨g, 1, none⟩ = some (Value.slice D ds.length d) := (obj_cell og).trans rfl
        have f0 : wq.cell? ⟨g, 0, none⟩ = some (Value.slice A2 (invL xs).length c2) := (obj_cell og).trans rfl
        have g0 : wq.cell? ⟨w.heap.size + 1, 0, none⟩ = some (Value.slice none 0 0) := (obj_cell ob).trans rfl
        have g1 : wq.cell? ⟨w.heap.size + 1, 1, none⟩ = some (Value.slice none 0 0) := (obj_cell ob).trans rfl
        have g2 : wq.frozen? ⟨w.heap.size + 1, 0, none⟩ = false := obj_frozen ob
        have g3 : wq.frozen? ⟨w.heap.size + 1, 1, none⟩ = false := obj_frozen ob
        have o2 := obj_set (i := 1) (obj_set (i := 0) ob (Value.slice A2 (invL xs).length c2)) (Value.slice D ds.length d)
        have hsp : Span (w.heap.size + 1) (w.heap.size + 1 + 1) wq ((wq.setCell ⟨w.heap.size + 1, 0, none⟩ (Value.slice A2 (invL xs).length c2)).setCell ⟨w.heap.size + 1, 1, none⟩ (Value.slice D ds.length d)) :=
          (Span.set (p := ⟨w.heap.size + 1, 0, none⟩) (Nat.le_refl _) (Nat.lt_succ_self _) _).trans (Span.set (p := ⟨w.heap.size + 1, 1, none⟩) (Nat.le_refl _) (Nat.lt_succ_self _) _)
        have hr0 : Own wq wn.heap.size g [⟨A2, c2, invL xs⟩] [] := (Own.one hA2 (Nat.le_refl _)).lim g (fun r hr q hq => by obtain rfl := List.mem_singleton.1 hr; exact (lA q hq).2)
        have own : Own wq wn.heap.size wq.heap.size (⟨A2, c2, invL xs⟩ :: ss) [⟨D, d, ss.map Row.v⟩] := by
          have := hr0.app (hO1.wider (show g ≤ w3.heap.size by omega) (Nat.le_refl _)) (by omega) (by omega)
          simpa using this
        have own := own.span hsp (.inr (by omega))
        have hb4 := (hbq.setCell (p := ⟨w.heap.size + 1, 0, none⟩) (by simp) (Value.slice A2 (invL xs).length c2)).setCell (p := ⟨w.heap.size + 1, 1, none⟩) (by simp) (Value.slice D ds.length d)
        have l0 := (obj_cell (i := 0) o2).trans rfl
        have l1 := (obj_cell (i := 1) o2).trans rfl
        have hq2 := hsp.size
        have HSL := Lib.hid hsl
        clear hsp hsl hperm hsorted
        go_wp2_with fail
        refine bodyPost_ret (v := .tuple #[.agg #[.slice A2 (invL xs).length c2, .slice D ds.length d], .bool true]) (by simp [results, Try.results13, go_sem, l0, l1]) rfl ?_
        rw [H1.out, H2.out, HN.out]
        exact ⟨A2, D, c2, d, ss, by rw [HSL.out], HE.out, own.wider (by omega) (by omega), hb4⟩
  · have hnf : meshB xs (rs.map Row.xs) = false := by simpa using hn
    have H1 := Lib.hid (show imG1 xs (rs.map Row.xs) = [] by unfold imG1; rw [hnf]; rfl)
    have H2 := Lib.hid (show imG2 xs (rs.map Row.xs) = [] by unfold imG2; rw [hnf]; rfl)
    have HN := Lib.hid hnf
    (with_reducible refine (mesh_ib A B c k xs rs w0 false (h.next hb0) hnf).mono ?_)
    rintro e w1 ⟨rfl, hb1⟩
    have oa := obj_below oa hb1 (obj_lt oa)
    have ob := obj_below ob hb1 (obj_lt ob)
    have hb := hb0.trans (hb1.mono hb0.size)
    have f0 : w1.cell? ⟨w.heap.size, 0, none⟩ = some (Value.slice A xs.length c) := (obj_cell oa).trans rfl
    have g0 : w1.cell? ⟨w.heap.size + 1, 0, none⟩ = some (Value.slice none 0 0) := (obj_cell ob).trans rfl
    have g1 : w1.cell? ⟨w.heap.size + 1, 1, none⟩ = some (Value.slice none 0 0) := (obj_cell ob).trans rfl
    have g2 : w1.frozen? ⟨w.heap.size + 1, 0, none⟩ = false := obj_frozen ob
    have g3 : w1.frozen? ⟨w.heap.size + 1, 1, none⟩ = false := obj_frozen ob
    have o2 := obj_set (i := 1) (obj_set (i := 0) ob (Value.slice none 0 0)) (Value.slice none 0 0)
    have hb4 := (hb.setCell (p := ⟨w.heap.size + 1, 0, none⟩) (by simp) (Value.slice none 0 0)).setCell (p := ⟨w.heap.size + 1, 1, none⟩) (by simp) (Value.slice none 0 0)
    have l0 := (obj_cell (i := 0) o2).trans rfl
    have l1 := (obj_cell (i := 1) o2).trans rfl
    clear hn hnf
    go_wp2_with fail
    refine bodyPost_ret (v := .tuple #[.agg #[.slice none 0 0, .slice none 0 0], .bool false]) (by simp [results, Try.results13, go_sem, l0, l1]) rfl ?_
    rw [H1.out, H2.out, HN.out]
    exact ⟨_, _, _, _, [], rfl, rfl, own_nilmesh _ _ _, hb4⟩
end Go.Proofs.Ythipikllgpnlhaa
