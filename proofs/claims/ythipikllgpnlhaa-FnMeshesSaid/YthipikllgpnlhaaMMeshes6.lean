/- Several texts in one, each with its own head: K3, H2, H1, H3, G1, G2. No program of ours. -/
import Derived.Deep.RegionHeld3
import Derived.StillTailTactics
import Derived.Deep.RegionLaw
import Derived.Deep.AppendLies
import Derived.Deep.DeepCutAuto
import Derived.Deep.CutRange
import Derived.Test.YthipikllgpnlhaaMMeshes5
/- MeshOf, program and reference. -/
namespace Go.Proofs.Ythipikllgpnlhaa
set_option maxRecDepth 100000
open Go Go.RowKit

def boxesTo (i : Int) (y : Nat) : List (List Int) := (List.range y).map fun y : Nat => [i, (y : Int)]
theorem boxesTo_succ (i : Int) (y : Nat) : boxesTo i (y + 1) = boxesTo i y ++ [[i, (y : Int)]] := by simp [boxesTo, List.range_succ]
theorem boxesTo_length (i : Int) (y : Nat) : (boxesTo i y).length = y := by simp [boxesTo]
def boxesL (n : Nat) (ys : List Int) : List (List Int) := ys.flatMap fun i => boxesTo i (n + 1)
theorem boxesL_succ (n : Nat) (ys : List Int) (k : Nat) (h : k < ys.length) : boxesL n (ys.take (k + 1)) = boxesL n (ys.take k) ++ boxesTo ys[k] (n + 1) := by
  unfold boxesL
  rw [List.take_succ_eq_append_getElem h, List.flatMap_append]; simp
theorem boxesL_le (n : Nat) (ys : List Int) : (boxesL n ys).length ≤ ys.length * (n + 1) := flatMap_le _ _ _ fun i _ => by rw [boxesTo_length]; exact Nat.le_refl _
theorem boxesL_two {n : Nat} {ys : List Int} {s : List Int} (h : s ∈ boxesL n ys) : s.length = 2 := by
  obtain ⟨i, _, hs⟩ := List.mem_flatMap.1 h
  obtain ⟨y, _, rfl⟩ := List.mem_map.1 hs
  rfl
theorem sizeX_two {X : List (List Int)} (h : ∀ s ∈ X, s.length = 2) : sizeX X = 2 * X.length := by
  induction X with
  | nil => rfl
  | cons a t ih =>
    have h1 := h a (by simp)
    have h2 := ih (fun s hs => h s (by simp [hs]))
    simp only [sizeX, List.map_cons, List.sum_cons, List.length_cons] at h2 ⊢
    omega
theorem nearB_len {xs ys : List Int} (h : nearB xs ys = true) : ys.length ≤ 8 := by
  unfold nearB at h
  rw [Bool.and_eq_true] at h
  have h8 := (permB_true h.1).1
  have hj : ∀ j, j < ys.length → joinAt xs.length ys j = true := fun j hj => by
    have := h.2
    unfold joinTo at this
    exact List.all_eq_true.1 this j (List.mem_range.2 hj)
  have hge : ∀ j (hj' : j < ys.length), (j : Int) + 1 ≤ ys[j] := by
    intro j
    induction j with
    | zero =>
      intro h0
      have := hj 0 h0
      simp only [joinAt, List.getElem?_eq_getElem h0, Option.getD_some, decide_eq_true_eq] at this
      omega
    | succ j ih =>
      intro h0
      have h1 := ih (by omega)
      have := hj (j + 1) h0
      simp only [joinAt, List.getElem?_eq_getElem h0, Nat.add_sub_cancel, List.getElem?_eq_getElem (show j < ys.length by omega), Option.getD_some, decide_eq_true_eq] at this
      omega
  rcases Nat.eq_zero_or_pos ys.length with h0 | h0
  · omega
  · have h1 := hge (ys.length - 1) (by omega)
    have := hj (ys.length - 1) (by omega)
    simp only [joinAt, List.getElem?_eq_getElem (show ys.length - 1 < ys.length by omega), Option.getD_some, decide_eq_true_eq] at this
    omega

def moB (xs ys : List Int) : Bool := nearB xs ys && decide (xs.length ≤ 4)
def moG1 (xs ys : List Int) : List Int := if moB xs ys = true then xs else []
def moG2 (xs ys : List Int) : List (List Int) := if moB xs ys = true then boxesL xs.length ys else []
theorem moG_le (xs ys : List Int) : (moG1 xs ys).length + ((moG2 xs ys).length + sizeX (moG2 xs ys)) ≤ 1048576 := by
  unfold moG1 moG2
  by_cases h : moB xs ys = true
  · rw [if_pos h, if_pos h]
    unfold moB at h
    rw [Bool.and_eq_true, decide_eq_true_eq] at h
    have h1 := nearB_len h.1
    have h2 := boxesL_le xs.length ys
    have h3 := Nat.mul_le_mul h1 (show xs.length + 1 ≤ 5 by omega)
    rw [sizeX_two fun s hs => boxesL_two hs]
    omega
  · rw [if_neg h, if_neg h]
    simp [sizeX]
/-- A call's result: a mesh of its own, and a truth value. -/
def RetMb (w : World) (xs : List Int) (X : List (List Int)) (b : Bool) (e : Ending) (w' : World) : Prop :=
  ∃ A B c k rs, e = .returned (.tuple #[.agg #[.slice A xs.length c, .slice B rs.length k], .bool b]) ∧ rs.map Row.xs = X ∧ Own w' w.heap.size w'.heap.size (⟨A, c, xs⟩ :: rs) [⟨B, k, rs.map Row.v⟩] ∧ Below w.heap.size w w'
theorem own_nilmesh (w : World) (lo hi : Nat) : Own w lo hi [⟨none, 0, []⟩] [⟨none, 0, ([] : List Row).map Row.v⟩] := by
  refine ⟨fun r hr => ?_, fun r hr g hg => ?_, List.pairwise_singleton _ _, fun o ho => ?_, fun o ho g hg => ?_⟩
  · obtain rfl := List.mem_singleton.1 hr
    exact ⟨rfl, .inl ⟨rfl, rfl⟩⟩
  · obtain rfl := List.mem_singleton.1 hr
    cases hg
  · obtain rfl := List.mem_singleton.1 ho
    exact ⟨rfl, .inl ⟨rfl, rfl⟩⟩
  · obtain rfl := List.mem_singleton.1 ho
    cases hg
theorem grown_drew {w w' : World} {row : Option Nat} (h : w.drew.grownBy w' row) : w.grownBy w' row := ⟨h.os, h.tape, h.output, h.size, h.block⟩
theorem near_ib (A B : Option Addr) (c k : Nat) (xs ys : List Int) (w : World) (b : Bool) (h : InN w A c xs B k ys) (hb : nearB xs ys = b) :
    Calls Try.prog 77 #[.agg #[.slice A xs.length c, .slice B ys.length k]] w (Rb w (.bool b)) := by subst hb; exact near_impl A B c k xs ys w h
theorem near_sb (A B : Option Addr) (c k : Nat) (xs ys : List Int) (w : World) (b : Bool) (h : InN w A c xs B k ys) (hb : nearB xs ys = b) :
    Calls Try.prog 79 #[.agg #[.slice A xs.length c, .slice B ys.length k]] w (Rb w (.bool b)) := by subst hb; exact near_spec A B c k xs ys w h

set_option maxHeartbeats 4000000 in
theorem meshOf_impl (A B : Option Addr) (c k : Nat) (xs ys : List Int) (w : World) (h : InN w A c xs B k ys) :
    Calls Try.prog 11 #[.agg #[.slice A xs.length c, .slice B ys.length k]] w (RetMb w (moG1 xs ys) (moG2 xs ys) (moB xs ys)) := by
  obtain ⟨j0, hj, hy0, hy1, hy2⟩ := info_parts infoL
  have hlx := h.1.len
  have hly := h.2.len
  go_enter Try.func11, Try.ntmps11
  have hb0 : Below w.heap.size w ((w.alloc (Obj.cells #[Value.slice A xs.length c, Value.slice B ys.length k] 32)).alloc (Obj.cells #[Value.slice none 0 0, Value.slice none 0 0] 27)) := ((Below.refl _ _).alloc (Nat.le_refl _) _).alloc (by simp) _
  go_wp2_with fail
  have oa := obj_alloc (obj_new w (Obj.cells #[Value.slice A xs.length c, Value.slice B ys.length k] 32)) (Obj.cells #[Value.slice none 0 0, Value.slice none 0 0] 27)
  have ob := obj_new (w.alloc (Obj.cells #[Value.slice A xs.length c, Value.slice B ys.length k] 32)) (Obj.cells #[Value.slice none 0 0, Value.slice none 0 0] 27)
  have hz0 : ((w.alloc (Obj.cells #[Value.slice A xs.length c, Value.slice B ys.length k] 32)).alloc (Obj.cells #[Value.slice none 0 0, Value.slice none 0 0] 27)).heap.size = w.heap.size + 1 + 1 := by simp
  simp only [World.size_alloc] at ob
  generalize ((w.alloc (Obj.cells #[Value.slice A xs.length c, Value.slice B ys.length k] 32)).alloc (Obj.cells #[Value.slice none 0 0, Value.slice none 0 0] 27)) = w0 at hb0 oa ob hz0 ⊢
  by_cases hn : nearB xs ys = true
  · have HN := Lib.hid hn
    (with_reducible refine (near_ib A B c k xs ys w0 true (h.next hb0) HN.out).mono ?_)
    rintro e w1 ⟨rfl, hb1⟩
    have oa := obj_below oa hb1 (obj_lt oa)
    have ob := obj_below ob hb1 (obj_lt ob)
    have hb := hb0.trans (hb1.mono hb0.size)
    have hsz1 := hb1.size
    have f0 : w1.cell? ⟨w.heap.size, 0, none⟩ = some (Value.slice A xs.length c) := (obj_cell oa).trans rfl
    have f1 : w1.cell? ⟨w.heap.size, 1, none⟩ = some (Value.slice B ys.length k) := (obj_cell oa).trans rfl
    have hb1h := Lib.hid hb1
    clear hn hb1
    by_cases h4 : xs.length ≤ 4
    · have H1 := Lib.hid (show moG1 xs ys = xs by unfold moG1 moB; rw [HN.out, decide_eq_true h4]; rfl)
      have H2 := Lib.hid (show moG2 xs ys = boxesL xs.length ys by unfold moG2 moB; rw [HN.out, decide_eq_true h4]; rfl)
      have H3 := Lib.hid (show moB xs ys = true by unfold moB; rw [HN.out, decide_eq_true h4]; rfl)
      have d4 : decide ((xs.length : Int) > 4) = false := decide_eq_false (by omega)
      go_wp2_with fail
      (with_reducible refine (clone_any A c xs w1 (h.1.next hb)).mono ?_)
      rintro e w2 ⟨A2, c2, rfl, _, _, own2, hb2⟩
      have oa := obj_below oa hb2 (obj_lt oa)
      have ob := obj_below ob hb2 (obj_lt ob)
      have hb' := hb.trans (hb2.mono hb.size)
      have hsz2 := hb2.size
      have hsb := hb'.size
      have oa3 := obj_alloc oa (Obj.cells #[Value.slice A2 xs.length c2, Value.slice none 0 0] 27)
      have ob3 := obj_alloc ob (Obj.cells #[Value.slice A2 xs.length c2, Value.slice none 0 0] 27)
      have oc3 := obj_new w2 (Obj.cells #[Value.slice A2 xs.length c2, Value.slice none 0 0] 27)
      have hA3 := own2.alloc (Obj.cells #[Value.slice A2 xs.length c2, Value.slice none 0 0] 27)
      have lA : ∀ q, (Value.slice A2 xs.length c2).ownBlock = some q → w1.heap.size ≤ q ∧ q < w2.heap.size := fun q hq => own2.lt q hq
      have hb3 := hb'.alloc hsb (Obj.cells #[Value.slice A2 xs.length c2, Value.slice none 0 0] 27)
      have hz3 : (w2.alloc (Obj.cells #[Value.slice A2 xs.length c2, Value.slice none 0 0] 27)).heap.size = w2.heap.size + 1 := by simp
      have g0 : (w2.alloc (Obj.cells #[Value.slice A2 xs.length c2, Value.slice none 0 0] 27)).cell? ⟨w.heap.size, 1, none⟩ = some (Value.slice B ys.length k) := (obj_cell oa3).trans rfl
      have hys := ((h.2.next hb3).rd)
      have hlt2 : w.heap.size + 1 < w2.heap.size := by omega
      clear own2 hb2 hb oa ob d4 h4
      go_wp2_with fail
      generalize (w2.alloc (Obj.cells #[Value.slice A2 xs.length c2, Value.slice none 0 0] 27)) = w3 at oa3 ob3 oc3 hA3 hb3 hz3 hys g0 ⊢
      obtain ⟨g, hg⟩ : ∃ g, g = w2.heap.size := ⟨_, rfl⟩
      rw [← hg] at oc3 hz3 lA hlt2 hsb hsz2 ⊢
      have HZ3 := Lib.hid hz3
      have HBP := Lib.hid hb'
      clear hz3 hg hb'
      go_loopw [25] (fun i wr => ∃ (j : Nat) (D : Option Addr) (d : Nat) (rs : List Row), j ≤ ys.length ∧ i = .int .i64 j ∧ wr.heap[w.heap.size]? = some (Obj.cells #[Value.slice A xs.length c, Value.slice B ys.length k] 32) ∧
        wr.heap[w.heap.size + 1]? = some (Obj.cells #[Value.slice none 0 0, Value.slice none 0 0] 27) ∧ wr.heap[g]? = some (Obj.cells #[Value.slice A2 xs.length c2, Value.slice D rs.length d] 27) ∧
        wr.ownsRow w1.heap.size 3 1 (.slice A2 xs.length c2) xs.length (xs.map (Value.int .i64)) ∧ Own wr w3.heap.size wr.heap.size rs [⟨D, d, rs.map Row.v⟩] ∧ Hid (rs.map Row.xs = boxesL xs.length (ys.take j)) ∧ Below w.heap.size w wr ∧ w3.heap.size ≤ wr.heap.size) (fun i _ => ys.length - (intOf i).toNat)
      case atStart => exact ⟨0, none, 0, [], Nat.zero_le _, rfl, oa3, ob3, oc3, hA3, Own.nil_list _ _ _, Lib.hid rfl, hb3, Nat.le_refl _⟩
      case round =>
        clear oa3 ob3 oc3 hA3 hb3 g0 hys
        obtain ⟨j, D, d, rs, hjl, rfl, oa, ob, oc, hA, hO, HX, hbw, hsw⟩ := hrel
        by_cases hlt : j < ys.length
        · have hys := (h.2.next hbw).rd
          obtain ⟨b, off, rfl, hbb, hc⟩ := hys (by omega)
          have c1 := hc j hlt
          have f0 : wr.cell? ⟨w.heap.size, 0, none⟩ = some (Value.slice A xs.length c) := (obj_cell oa).trans rfl
          obtain ⟨iv, hiv⟩ : ∃ iv, iv = ys[j] := ⟨_, rfl⟩
          rw [← hiv] at c1
          have HIV := Lib.hid hiv
          clear hc hys hiv
          obtain ⟨wo, rfl⟩ : ∃ wo : World, wo = wr := ⟨_, rfl⟩
          go_wp2_with fail
          go_loopw [33] (fun i wr => ∃ (y : Nat) (D : Option Addr) (d : Nat) (rs : List Row), y ≤ xs.length + 1 ∧ i = .int .i64 y ∧ wr.heap[w.heap.size]? = some (Obj.cells #[Value.slice A xs.length c, Value.slice (some ⟨b, off, none⟩) ys.length k] 32) ∧
            wr.heap[w.heap.size + 1]? = some (Obj.cells #[Value.slice none 0 0, Value.slice none 0 0] 27) ∧ wr.heap[g]? = some (Obj.cells #[Value.slice A2 xs.length c2, Value.slice D rs.length d] 27) ∧
            wr.ownsRow w1.heap.size 3 1 (.slice A2 xs.length c2) xs.length (xs.map (Value.int .i64)) ∧ Own wr w3.heap.size wr.heap.size rs [⟨D, d, rs.map Row.v⟩] ∧ Hid (rs.map Row.xs = boxesL xs.length (ys.take j) ++ boxesTo iv y) ∧ Below w.heap.size w wr ∧ w3.heap.size ≤ wr.heap.size) (fun i _ => xs.length + 1 - (intOf i).toNat)
          case atStart => exact ⟨0, D, d, rs, Nat.zero_le _, rfl, oa, ob, oc, hA, hO, Lib.hid (by rw [HX.out]; simp [boxesTo]), hbw, hsw⟩
          case round =>
            clear oa ob oc hA hO HX hbw hsw f0 c1
            obtain ⟨y, D, d, rs, hy, rfl, oa, ob, oc, hA, hO, HX, hbw, hsw⟩ := hrel
            have hcount : rs.length ≤ 8388608 := by
              have h1 := congrArg List.length HX.out
              have h2 := boxesL_le xs.length (ys.take j)
              have h3 : (ys.take j).length ≤ 1048576 := by rw [List.length_take]; omega
              have h4 := Nat.mul_le_mul h3 (show xs.length + 1 ≤ 5 by have := H3.out; unfold moB at this; rw [Bool.and_eq_true, decide_eq_true_eq] at this; omega)
              rw [List.length_map, List.length_append, boxesTo_length] at h1
              omega
            by_cases hlt2 : y < xs.length + 1
            · have HB := Lib.hid (boxesTo_succ iv y)
              have f2 : wr.cell? ⟨g, 1, none⟩ = some (Value.slice D rs.length d) := (obj_cell oc).trans rfl
              have s3 : g < w3.heap.size := by have := HZ3.out; omega
              have hrow : (wr.alloc (.cells #[.int .i64 iv, .int .i64 y] 3)).ownsRow wr.heap.size 3 1 (Row.v ⟨some ⟨wr.heap.size, 0, none⟩, 2, [iv, (y : Int)]⟩) 2 ([iv, (y : Int)].map (Value.int .i64)) := World.ownsRow_lit wr #[.int .i64 iv, .int .i64 y] 2 (Nat.le_refl _) (by unfold maxLen; omega) rfl
              have hbr := (Below.refl wr.heap.size wr).alloc (Nat.le_refl _) (.cells #[.int .i64 iv, .int .i64 y] 3)
              have hO2 := (hO.below hbr).add (r := ⟨some ⟨wr.heap.size, 0, none⟩, 2, [iv, (y : Int)]⟩) hrow (by simp) hsw
              have ho2 := hO2.outN (n := rs.length) (by simp)
              have oar := obj_alloc oa (.cells #[.int .i64 iv, .int .i64 y] 3)
              have obr := obj_alloc ob (.cells #[.int .i64 iv, .int .i64 y] 3)
              have ocr := obj_alloc oc (.cells #[.int .i64 iv, .int .i64 y] 3)
              have hAr := hA.alloc (.cells #[.int .i64 iv, .int .i64 y] 3)
              have hbr2 := hbw.alloc (by omega) (.cells #[.int .i64 iv, .int .i64 y] 3)
              have hlim := hO2.olim (n := rs.length) (by simp)
              clear hbr hrow
              go_wp2_with ((at_builtin; refine wpList_append_own _ rfl _ _ 25 rfl (w3.heap.size) 24 j0 (.slice none 0 0) 1 24 Try.underlying25 hj hy0 hy1 hy2 rfl (by decide) _ _ _ rfl (World.ownsRow.alloc ho2 _) ⟨wr.heap.size + 1, 0, none⟩ 1 1 [Value.slice (some ⟨wr.heap.size, 0, none⟩) 2 2] rfl rfl (cell_one_at _ _ (by simp)) (by intro u hu; simp at hu; subst hu; rfl) (by unfold maxLen; omega) (by omega) (by simp; omega) ?_; intro v9 w9 hown9 hgrow9 _); obtain ⟨A5, c5, rfl, hO6, hg3⟩ := hO2.grow (Nat.le_refl _) (by simp) hown9 hgrow9; have oa1 := (hg3.block _ (obj_lt oar) (by intro he; have := hlim _ he.symm; omega)).trans oar; have ob1 := (hg3.block _ (obj_lt obr) (by intro he; have := hlim _ he.symm; omega)).trans obr; have oc1 := (hg3.block _ (obj_lt ocr) (by intro he; have := hlim _ he.symm; omega)).trans ocr; have f3 : w9.cell? ⟨g, 1, none⟩ = some (Value.slice D rs.length d) := (obj_cell oc1).trans rfl; have f4 : w9.frozen? ⟨g, 1, none⟩ = false := obj_frozen oc1)
              have hA1 := hAr.kept hg3 (own_off (lim := g) (fun q hq => (lA q hq).2) (fun q hq => by have := hlim q hq; omega))
              have hbw3 := hbr2.grown hg3 (by simp; omega) (fun q hq => by have := hlim q hq; omega)
              have hsp : Span g (g + 1) w9 (w9.setCell ⟨g, 1, none⟩ (Value.slice A5 (rs.length + 1) c5)) := Span.set (p := ⟨g, 1, none⟩) (Nat.le_refl _) (Nat.lt_succ_self _) _
              have hA2 := own_span hA1 hsp (fun q hq => .inl (lA q hq).2)
              have hO7 := (hO6.span hsp (.inr (by omega))).wider (Nat.le_refl _) hsp.size
              have oa2 := obj_other (g' := g) (i := 1) oa1 (by omega) (Value.slice A5 (rs.length + 1) c5)
              have ob2 := obj_other (g' := g) (i := 1) ob1 (by omega) (Value.slice A5 (rs.length + 1) c5)
              have oc2 := obj_set (i := 1) oc1 (Value.slice A5 (rs.length + 1) c5)
              have hb5 := hbw3.setCell (p := ⟨g, 1, none⟩) (by simp; omega) (Value.slice A5 (rs.length + 1) c5)
              have hs5 : w3.heap.size ≤ (w9.setCell ⟨g, 1, none⟩ (Value.slice A5 (rs.length + 1) c5)).heap.size := by have h1 := hg3.size; have h2 := hsp.size; simp at h1; omega
              have K := Lib.hid (And.intro oa2 (And.intro ob2 (And.intro oc2 (And.intro hA2 (And.intro hO7 (And.intro hb5 hs5))))))
              clear oa2 ob2 oc2 hA2 hO7 hb5 hs5 hsp hA1 hbw3 hown9 hgrow9 hg3 hO6 oa1 ob1 oc1 f3 f4 f2 hO2 ho2 oar obr ocr hAr hbr2 hlim oa ob oc hA hO hbw
              go_wp2
              go_roundw
              case rel => exact ⟨y + 1, A5, c5, rs ++ [⟨some ⟨wr.heap.size, 0, none⟩, 2, [iv, (y : Int)]⟩], by omega, by go_num, K.out.1, K.out.2.1, by rw [List.length_append]; exact K.out.2.2.1, K.out.2.2.2.1, by simpa [Row.v] using K.out.2.2.2.2.1, Lib.hid (by rw [HB.out, List.map_append, HX.out]; simp), K.out.2.2.2.2.2.1, K.out.2.2.2.2.2.2⟩
              case measure => simp [intOf]; omega
            · obtain rfl : y = xs.length + 1 := by omega
              have HE := Lib.hid (show rs.map Row.xs = boxesL xs.length (ys.take (j + 1)) by rw [HX.out, boxesL_succ _ _ _ hlt, HIV.out])
              go_wp2
              go_roundw
              case rel => exact ⟨j + 1, D, d, rs, by omega, by go_num, oa, ob, oc, hA, hO, HE, hbw, hsw⟩
              case measure => simp [intOf]; omega
        · obtain rfl : j = ys.length := by omega
          have HE := Lib.hid (show rs.map Row.xs = boxesL xs.length ys by rw [HX.out, List.take_length])
          have f0 : wr.cell? ⟨g, 0, none⟩ = some (Value.slice A2 xs.length c2) := (obj_cell oc).trans rfl
          have f1 : wr.cell? ⟨g, 1, none⟩ = some (Value.slice D rs.length d) := (obj_cell oc).trans rfl
          have g0 : wr.cell? ⟨w.heap.size + 1, 0, none⟩ = some (Value.slice none 0 0) := (obj_cell ob).trans rfl
          have g1 : wr.cell? ⟨w.heap.size + 1, 1, none⟩ = some (Value.slice none 0 0) := (obj_cell ob).trans rfl
          have g2 : wr.frozen? ⟨w.heap.size + 1, 0, none⟩ = false := obj_frozen ob
          have g3 : wr.frozen? ⟨w.heap.size + 1, 1, none⟩ = false := obj_frozen ob
          have o2 := obj_set (i := 1) (obj_set (i := 0) ob (Value.slice A2 xs.length c2)) (Value.slice D rs.length d)
          have s3 := HZ3.out
          have hsp : Span w.heap.size (w.heap.size + 1 + 1) wr ((wr.setCell ⟨w.heap.size + 1, 0, none⟩ (Value.slice A2 xs.length c2)).setCell ⟨w.heap.size + 1, 1, none⟩ (Value.slice D rs.length d)) :=
            (Span.set (p := ⟨w.heap.size + 1, 0, none⟩) (by simp) (by simp) _).trans (Span.set (p := ⟨w.heap.size + 1, 1, none⟩) (by simp) (by simp) _)
          have hr0 : Own wr w1.heap.size g [⟨A2, c2, xs⟩] [] := (Own.one hA (Nat.le_refl _)).lim g (fun r hr q hq => by obtain rfl := List.mem_singleton.1 hr; exact (lA q hq).2)
          have own : Own wr w1.heap.size wr.heap.size (⟨A2, c2, xs⟩ :: rs) [⟨D, d, rs.map Row.v⟩] := by
            have := hr0.app (hO.wider (show g ≤ w3.heap.size by omega) (Nat.le_refl _)) (by omega) (by omega)
            simpa using this
          have own := own.span hsp (.inr (by omega))
          have hb4 := (hbw.setCell (p := ⟨w.heap.size + 1, 0, none⟩) (by simp) (Value.slice A2 xs.length c2)).setCell (p := ⟨w.heap.size + 1, 1, none⟩) (by simp) (Value.slice D rs.length d)
          have l0 := (obj_cell (i := 0) o2).trans rfl
          have l1 := (obj_cell (i := 1) o2).trans rfl
          have hq2 := hsp.size
          clear hsp s3
          go_wp2_with fail
          refine bodyPost_ret (v := .tuple #[.agg #[.slice A2 xs.length c2, .slice D rs.length d], .bool true]) (by simp [results, Try.results11, go_sem, l0, l1]) rfl ?_
          rw [H1.out, H2.out, H3.out]
          exact ⟨_, _, _, _, rs, rfl, HE.out, own.wider (by omega) (by omega), hb4⟩
    · have H1 := Lib.hid (show moG1 xs ys = [] by unfold moG1 moB; rw [HN.out, decide_eq_false h4]; rfl)
      have H2 := Lib.hid (show moG2 xs ys = [] by unfold moG2 moB; rw [HN.out, decide_eq_false h4]; rfl)
      have H3 := Lib.hid (show moB xs ys = false by unfold moB; rw [HN.out, decide_eq_false h4]; rfl)
      have d4 : decide ((xs.length : Int) > 4) = true := decide_eq_true (by omega)
      have g0 : w1.cell? ⟨w.heap.size + 1, 0, none⟩ = some (Value.slice none 0 0) := (obj_cell ob).trans rfl
      have g1 : w1.cell? ⟨w.heap.size + 1, 1, none⟩ = some (Value.slice none 0 0) := (obj_cell ob).trans rfl
      have g2 : w1.frozen? ⟨w.heap.size + 1, 0, none⟩ = false := obj_frozen ob
      have g3 : w1.frozen? ⟨w.heap.size + 1, 1, none⟩ = false := obj_frozen ob
      have o2 := obj_set (i := 1) (obj_set (i := 0) ob (Value.slice none 0 0)) (Value.slice none 0 0)
      have hb4 := (hb.setCell (p := ⟨w.heap.size + 1, 0, none⟩) (by simp) (Value.slice none 0 0)).setCell (p := ⟨w.heap.size + 1, 1, none⟩) (by simp) (Value.slice none 0 0)
      have l0 := (obj_cell (i := 0) o2).trans rfl
      have l1 := (obj_cell (i := 1) o2).trans rfl
      clear h4
      go_wp2_with fail
      refine bodyPost_ret (v := .tuple #[.agg #[.slice none 0 0, .slice none 0 0], .bool false]) (by simp [results, Try.results11, go_sem, l0, l1]) rfl ?_
      rw [H1.out, H2.out, H3.out]
      exact ⟨_, _, _, _, [], rfl, rfl, own_nilmesh _ _ _, hb4⟩
  · have hnf : nearB xs ys = false := by simpa using hn
    have H1 := Lib.hid (show moG1 xs ys = [] by unfold moG1 moB; rw [hnf]; rfl)
    have H2 := Lib.hid (show moG2 xs ys = [] by unfold moG2 moB; rw [hnf]; rfl)
    have H3 := Lib.hid (show moB xs ys = false by unfold moB; rw [hnf]; rfl)
    (with_reducible refine (near_ib A B c k xs ys w0 false (h.next hb0) hnf).mono ?_)
    rintro e w1 ⟨rfl, hb1⟩
    have oa := obj_below oa hb1 (obj_lt oa)
    have ob := obj_below ob hb1 (obj_lt ob)
    have hb := hb0.trans (hb1.mono hb0.size)
    have f0 : w1.cell? ⟨w.heap.size, 0, none⟩ = some (Value.slice A xs.length c) := (obj_cell oa).trans rfl
    have g0 : w1.cell? ⟨w.heap.size + 1, 0, none⟩ = some (Value.slice none 0 0) := (obj_cell ob).trans rfl
    have g1 : w1.cell? ⟨w.heap.size + 1, 1, none⟩ = some (Value.slice none 0 0) := (obj_cell ob).trans rfl
    have g2 : w1.frozen? ⟨w.heap.size + 1, 0, none⟩ = false := obj_frozen ob
    have g3 : w1.frozen? ⟨w.heap.size + 1, 1, none⟩ = false := obj_frozen ob
    have o2 := obj_set (i := 1) (obj_set (i := 0) ob (Value.slice none 0 0)) (Value.slice none 0 0)
    have hb4 := (hb.setCell (p := ⟨w.heap.size + 1, 0, none⟩) (by simp) (Value.slice none 0 0)).setCell (p := ⟨w.heap.size + 1, 1, none⟩) (by simp) (Value.slice none 0 0)
    have l0 := (obj_cell (i := 0) o2).trans rfl
    have l1 := (obj_cell (i := 1) o2).trans rfl
    clear hn hnf
    go_wp2_with fail
    refine bodyPost_ret (v := .tuple #[.agg #[.slice none 0 0, .slice none 0 0], .bool false]) (by simp [results, Try.results11, go_sem, l0, l1]) rfl ?_
    rw [H1.out, H2.out, H3.out]
    exact ⟨_, _, _, _, [], rfl, rfl, own_nilmesh _ _ _, hb4⟩

set_option maxHeartbeats 4000000 in
theorem meshOf_spec (A B : Option Addr) (c k : Nat) (xs ys : List Int) (w : World) (h : InN w A c xs B k ys) :
    Calls Try.prog 12 #[.agg #[.slice A xs.length c, .slice B ys.length k]] w (RetMb w (moG1 xs ys) (moG2 xs ys) (moB xs ys)) := by
  obtain ⟨j0, hj, hy0, hy1, hy2⟩ := info_parts infoL
  obtain ⟨i0, hi, hz0, hz1, hz2⟩ := info_parts infoI
  have hlx := h.1.len
  have hly := h.2.len
  go_enter Try.func12, Try.ntmps12
  have hb0 : Below w.heap.size w ((w.alloc (Obj.cells #[Value.slice A xs.length c, Value.slice B ys.length k] 32)).alloc (Obj.cells #[Value.slice none 0 0, Value.slice none 0 0] 27)) := ((Below.refl _ _).alloc (Nat.le_refl _) _).alloc (by simp) _
  go_wp2_with fail
  have oa := obj_alloc (obj_new w (Obj.cells #[Value.slice A xs.length c, Value.slice B ys.length k] 32)) (Obj.cells #[Value.slice none 0 0, Value.slice none 0 0] 27)
  have ob := obj_new (w.alloc (Obj.cells #[Value.slice A xs.length c, Value.slice B ys.length k] 32)) (Obj.cells #[Value.slice none 0 0, Value.slice none 0 0] 27)
  have hzz : ((w.alloc (Obj.cells #[Value.slice A xs.length c, Value.slice B ys.length k] 32)).alloc (Obj.cells #[Value.slice none 0 0, Value.slice none 0 0] 27)).heap.size = w.heap.size + 1 + 1 := by simp
  simp only [World.size_alloc] at ob
  generalize ((w.alloc (Obj.cells #[Value.slice A xs.length c, Value.slice B ys.length k] 32)).alloc (Obj.cells #[Value.slice none 0 0, Value.slice none 0 0] 27)) = w0 at hb0 oa ob hzz ⊢
  by_cases hn : nearB xs ys = true
  · have HN := Lib.hid hn
    (with_reducible refine (near_sb A B c k xs ys w0 true (h.next hb0) HN.out).mono ?_)
    rintro e w1 ⟨rfl, hb1⟩
    have oa := obj_below oa hb1 (obj_lt oa)
    have ob := obj_below ob hb1 (obj_lt ob)
    have hb := hb0.trans (hb1.mono hb0.size)
    have hsz1 := hb1.size
    have f0 : w1.cell? ⟨w.heap.size, 0, none⟩ = some (Value.slice A xs.length c) := (obj_cell oa).trans rfl
    have f1 : w1.cell? ⟨w.heap.size, 1, none⟩ = some (Value.slice B ys.length k) := (obj_cell oa).trans rfl
    have hb1h := Lib.hid hb1
    clear hn hb1
    by_cases h4 : xs.length ≤ 4
    · have H1 := Lib.hid (show moG1 xs ys = xs by unfold moG1 moB; rw [HN.out, decide_eq_true h4]; rfl)
      have H2 := Lib.hid (show moG2 xs ys = boxesL xs.length ys by unfold moG2 moB; rw [HN.out, decide_eq_true h4]; rfl)
      have H3 := Lib.hid (show moB xs ys = true by unfold moB; rw [HN.out, decide_eq_true h4]; rfl)
      have d4 : decide ((xs.length : Int) > 4) = false := decide_eq_false (by omega)
      have own0 : (w1.alloc (.cells #[] 3)).ownsRow w1.heap.size 3 1 (.slice (some ⟨w1.heap.size, 0, none⟩) 0 0) 0 [] := World.ownsRow_lit w1 #[] 0 (Nat.le_refl _) (by unfold maxLen; omega) rfl
      have hx0 := (h.1.next hb).rd.alloc (Nat.le_refl _) (.cells #[] 3)
      have hbA := (Below.refl w1.heap.size w1).alloc (Nat.le_refl _) (.cells #[] 3)
      have fq : (w1.alloc (.cells #[] 3)).cell? ⟨w.heap.size, 0, none⟩ = some (Value.slice A xs.length c) := (obj_cell (i := 0) (obj_alloc oa (.cells #[] 3))).trans rfl
      go_wp2_with ((at_builtin; refine wpList_append_rd _ rfl _ _ 24 rfl (w1.heap.size) 3 i0 (.int .i64 0) 8 Try.underlying24 hi hz0 hz1 hz2 rfl _ _ _ rfl own0 _ _ _ _ (xs) rfl rfl hx0 (fun _ => rfl) (by unfold maxLen; omega) (by omega) (by first | omega | (simp; done) | (simp; omega)) ?_; intro v2 w2 hown2 hgrow2); simp only [Nat.zero_add, List.nil_append] at hown2; obtain ⟨A2, c2, rfl, _, _⟩ := own_shape hown2; have hb2 := hbA.grown hgrow2 (by simp) (fun g hg => (own0.lt g hg).1))
      have oa := obj_below oa hb2 (obj_lt oa)
      have ob := obj_below ob hb2 (obj_lt ob)
      have own2 := hown2
      clear hown2 hgrow2 hbA hx0 own0 fq
      have hb' := hb.trans (hb2.mono hb.size)
      have hsz2 := hb2.size
      have hsb := hb'.size
      have oa3 := obj_alloc oa (Obj.cells #[Value.slice A2 xs.length c2, Value.slice none 0 0] 27)
      have ob3 := obj_alloc ob (Obj.cells #[Value.slice A2 xs.length c2, Value.slice none 0 0] 27)
      have oc3 := obj_new w2 (Obj.cells #[Value.slice A2 xs.length c2, Value.slice none 0 0] 27)
      have hA3 := own2.alloc (Obj.cells #[Value.slice A2 xs.length c2, Value.slice none 0 0] 27)
      have lA : ∀ q, (Value.slice A2 xs.length c2).ownBlock = some q → w1.heap.size ≤ q ∧ q < w2.heap.size := fun q hq => own2.lt q hq
      have hb3 := hb'.alloc hsb (Obj.cells #[Value.slice A2 xs.length c2, Value.slice none 0 0] 27)
      have hz3 : (w2.alloc (Obj.cells #[Value.slice A2 xs.length c2, Value.slice none 0 0] 27)).heap.size = w2.heap.size + 1 := by simp
      have g0 : (w2.alloc (Obj.cells #[Value.slice A2 xs.length c2, Value.slice none 0 0] 27)).cell? ⟨w.heap.size, 1, none⟩ = some (Value.slice B ys.length k) := (obj_cell oa3).trans rfl
      have hys := ((h.2.next hb3).rd)
      have hlt2 : w.heap.size + 1 < w2.heap.size := by omega
      clear own2 hb2 hb oa ob d4 h4
      generalize (w2.alloc (Obj.cells #[Value.slice A2 xs.length c2, Value.slice none 0 0] 27)) = w3 at oa3 ob3 oc3 hA3 hb3 hz3 hys g0 ⊢
      obtain ⟨g, hg⟩ : ∃ g, g = w2.heap.size := ⟨_, rfl⟩
      rw [← hg] at oc3 hz3 lA hlt2 hsb hsz2 ⊢
      have HZ3 := Lib.hid hz3
      have HBP := Lib.hid hb'
      clear hz3 hg hb'
      go_loopw [5] (fun i wr => ∃ (j : Nat) (D : Option Addr) (d : Nat) (rs : List Row), j ≤ ys.length ∧ i = .int .i64 j ∧ wr.heap[w.heap.size]? = some (Obj.cells #[Value.slice A xs.length c, Value.slice B ys.length k] 32) ∧
        wr.heap[w.heap.size + 1]? = some (Obj.cells #[Value.slice none 0 0, Value.slice none 0 0] 27) ∧ wr.heap[g]? = some (Obj.cells #[Value.slice A2 xs.length c2, Value.slice D rs.length d] 27) ∧
        wr.ownsRow w1.heap.size 3 1 (.slice A2 xs.length c2) xs.length (xs.map (Value.int .i64)) ∧ Own wr w3.heap.size wr.heap.size rs [⟨D, d, rs.map Row.v⟩] ∧ Hid (rs.map Row.xs = boxesL xs.length (ys.take j)) ∧ Below w.heap.size w wr ∧ w3.heap.size ≤ wr.heap.size) (fun i _ => ys.length - (intOf i).toNat)
      case atStart => exact ⟨0, none, 0, [], Nat.zero_le _, rfl, oa3, ob3, oc3, hA3, Own.nil_list _ _ _, Lib.hid rfl, hb3, Nat.le_refl _⟩
      case round =>
        clear oa3 ob3 oc3 hA3 hb3 g0 hys
        obtain ⟨j, D, d, rs, hjl, rfl, oa, ob, oc, hA, hO, HX, hbw, hsw⟩ := hrel
        have fB : wr.cell? ⟨w.heap.size, 1, none⟩ = some (Value.slice B ys.length k) := (obj_cell oa).trans rfl
        by_cases hlt : j < ys.length
        · have hys := (h.2.next hbw).rd
          obtain ⟨b, off, rfl, hbb, hc⟩ := hys (by omega)
          have c1 := hc j hlt
          have f0 : wr.cell? ⟨w.heap.size, 0, none⟩ = some (Value.slice A xs.length c) := (obj_cell oa).trans rfl
          obtain ⟨iv, hiv⟩ : ∃ iv, iv = ys[j] := ⟨_, rfl⟩
          rw [← hiv] at c1
          have HIV := Lib.hid hiv
          clear hc hys hiv
          obtain ⟨wo, rfl⟩ : ∃ wo : World, wo = wr := ⟨_, rfl⟩
          go_wp2_with fail
          go_loopw [6] (fun i wr => ∃ (y : Nat) (D : Option Addr) (d : Nat) (rs : List Row), y ≤ xs.length + 1 ∧ i = .int .i64 y ∧ wr.heap[w.heap.size]? = some (Obj.cells #[Value.slice A xs.length c, Value.slice (some ⟨b, off, none⟩) ys.length k] 32) ∧
            wr.heap[w.heap.size + 1]? = some (Obj.cells #[Value.slice none 0 0, Value.slice none 0 0] 27) ∧ wr.heap[g]? = some (Obj.cells #[Value.slice A2 xs.length c2, Value.slice D rs.length d] 27) ∧
            wr.ownsRow w1.heap.size 3 1 (.slice A2 xs.length c2) xs.length (xs.map (Value.int .i64)) ∧ Own wr w3.heap.size wr.heap.size rs [⟨D, d, rs.map Row.v⟩] ∧ Hid (rs.map Row.xs = boxesL xs.length (ys.take j) ++ boxesTo iv y) ∧ Below w.heap.size w wr ∧ w3.heap.size ≤ wr.heap.size) (fun i _ => xs.length + 1 - (intOf i).toNat)
          case atStart => exact ⟨0, D, d, rs, Nat.zero_le _, rfl, oa, ob, oc, hA, hO, Lib.hid (by rw [HX.out]; simp [boxesTo]), hbw, hsw⟩
          case round =>
            clear oa ob oc hA hO HX hbw hsw f0 c1 fB
            obtain ⟨y, D, d, rs, hy, rfl, oa, ob, oc, hA, hO, HX, hbw, hsw⟩ := hrel
            have fA : wr.cell? ⟨w.heap.size, 0, none⟩ = some (Value.slice A xs.length c) := (obj_cell oa).trans rfl
            have fB : wr.cell? ⟨w.heap.size, 1, none⟩ = some (Value.slice (some ⟨b, off, none⟩) ys.length k) := (obj_cell oa).trans rfl
            have c1 : wr.cell? ⟨b, off + j, none⟩ = some (.int .i64 iv) := by
              have h1 := (h.2.next hbw).rd (by omega)
              obtain ⟨b', off', he, _, hc⟩ := h1
              injection he with he
              injection he with he1 he2 _
              subst he1 he2
              rw [HIV.out]; exact hc j hlt
            have hcount : rs.length ≤ 8388608 := by
              have h1 := congrArg List.length HX.out
              have h2 := boxesL_le xs.length (ys.take j)
              have h3 : (ys.take j).length ≤ 1048576 := by rw [List.length_take]; omega
              have h4 := Nat.mul_le_mul h3 (show xs.length + 1 ≤ 5 by have := H3.out; unfold moB at this; rw [Bool.and_eq_true, decide_eq_true_eq] at this; omega)
              rw [List.length_map, List.length_append, boxesTo_length] at h1
              omega
            by_cases hlt2 : y < xs.length + 1
            · have HB := Lib.hid (boxesTo_succ iv y)
              have f2 : wr.cell? ⟨g, 1, none⟩ = some (Value.slice D rs.length d) := (obj_cell oc).trans rfl
              have s3 : g < w3.heap.size := by have := HZ3.out; omega
              have hrow : (wr.alloc (.cells #[.int .i64 iv, .int .i64 y] 3)).ownsRow wr.heap.size 3 1 (Row.v ⟨some ⟨wr.heap.size, 0, none⟩, 2, [iv, (y : Int)]⟩) 2 ([iv, (y : Int)].map (Value.int .i64)) := World.ownsRow_lit wr #[.int .i64 iv, .int .i64 y] 2 (Nat.le_refl _) (by unfold maxLen; omega) rfl
              have hbr := (Below.refl wr.heap.size wr).alloc (Nat.le_refl _) (.cells #[.int .i64 iv, .int .i64 y] 3)
              have hO2 := (hO.below hbr).add (r := ⟨some ⟨wr.heap.size, 0, none⟩, 2, [iv, (y : Int)]⟩) hrow (by simp) hsw
              have ho2 := hO2.outN (n := rs.length) (by simp)
              have oar := obj_alloc oa (.cells #[.int .i64 iv, .int .i64 y] 3)
              have obr := obj_alloc ob (.cells #[.int .i64 iv, .int .i64 y] 3)
              have ocr := obj_alloc oc (.cells #[.int .i64 iv, .int .i64 y] 3)
              have hAr := hA.alloc (.cells #[.int .i64 iv, .int .i64 y] 3)
              have hbr2 := hbw.alloc (by omega) (.cells #[.int .i64 iv, .int .i64 y] 3)
              have hlim := hO2.olim (n := rs.length) (by simp)
              clear hbr hrow
              have hbg : b < g := by
                have h1 := (h.2.rd (by omega))
                obtain ⟨b', off', he, hb', _⟩ := h1
                injection he with he
                injection he with he1 _ _
                omega
              have fBd : wr.drew.cell? ⟨w.heap.size, 1, none⟩ = some (Value.slice (some ⟨b, off, none⟩) ys.length k) := fB
              have c1d : wr.drew.cell? ⟨b, off + j, none⟩ = some (.int .i64 iv) := c1
              have hjn : (0 : Int) ≤ (j : Int) := Int.natCast_nonneg _
              have hjl2 : (j : Int) < (ys.length : Int) := by omega
              have f2r : (wr.alloc (Obj.cells #[.int .i64 iv, .int .i64 y] 3)).cell? ⟨g, 1, none⟩ = some (Value.slice D rs.length d) := (obj_cell ocr).trans rfl
              have f2r2 : ((wr.alloc (Obj.cells #[.int .i64 iv, .int .i64 y] 3)).alloc (Obj.cells #[Value.slice (some ⟨wr.heap.size, 0, none⟩) 2 2] 24)).cell? ⟨g, 1, none⟩ = some (Value.slice D rs.length d) := (obj_cell (obj_alloc ocr _)).trans rfl
              go_wp2_with fail
              go_region_law
                ((refine step_append_lies _ (by rfl) _ _ _ (by rfl) w3.heap.size 24 j0 (.slice none 0 0) 1 24 Try.underlying25 hj hy0 hy1 hy2 rfl (by decide) (Value.slice D rs.length d) rs.length (rs.map Row.v) (by rfl) ((World.ownsRow.alloc ho2 _).drew) ⟨wr.heap.size + 1, 0, none⟩ 1 1 [Value.slice (some ⟨wr.heap.size, 0, none⟩) 2 2] (by rfl) (by rfl) (cell_one_at (w := wr.alloc (.cells #[.int .i64 iv, .int .i64 y] 3)) (H := wr.heap.size + 1) _ _ (by simp)) (by intro u hu; simp at hu; subst hu; rfl) (by omega) (by unfold maxLen; omega) (by omega) (by simp; omega) (wr.heap.size + 2) (by simp) ?_; intro gg cap w9 hown9 hgrow9 hat hlt9
                  obtain ⟨A5, c5, hv5, hO6, hg3⟩ := hO2.grow (Nat.le_refl _) (by simp) hown9 (grown_drew hgrow9)
                  injection hv5 with e51 _ e52
                  subst e51 e52
                  have oa1 := (hg3.block _ (obj_lt oar) (by intro he; have := hlim _ he.symm; omega)).trans oar
                  have ob1 := (hg3.block _ (obj_lt obr) (by intro he; have := hlim _ he.symm; omega)).trans obr
                  have oc1 := (hg3.block _ (obj_lt ocr) (by intro he; have := hlim _ he.symm; omega)).trans ocr
                  have f3 : w9.cell? ⟨g, 1, none⟩ = some (Value.slice D rs.length d) := (obj_cell oc1).trans rfl
                  have f4 : w9.frozen? ⟨g, 1, none⟩ = false := obj_frozen oc1
                  have fB9 : w9.cell? ⟨w.heap.size, 1, none⟩ = some (Value.slice (some ⟨b, off, none⟩) ys.length k) := (obj_cell oa1).trans rfl
                  have c19 : w9.cell? ⟨b, off + j, none⟩ = some (.int .i64 iv) := hg3.cell ((World.cell?_alloc_lt _ _ _ (by show b < wr.heap.size; omega)).trans c1) (by intro he; have := hlim _ he.symm; simp at this; omega)))
              all_goals
                have hA1 := hAr.kept hg3 (own_off (lim := g) (fun q hq => (lA q hq).2) (fun q hq => by have := hlim q hq; omega))
                have hbw3 := hbr2.grown hg3 (by simp; omega) (fun q hq => by have := hlim q hq; omega)
                have hsp : Span g (g + 1) w9 (w9.setCell ⟨g, 1, none⟩ (Value.slice (some ⟨gg, 0, none⟩) (rs.length + 1) cap)) := Span.set (p := ⟨g, 1, none⟩) (Nat.le_refl _) (Nat.lt_succ_self _) _
                have hA2 := own_span hA1 hsp (fun q hq => .inl (lA q hq).2)
                have hO7 := (hO6.span hsp (.inr (by omega))).wider (Nat.le_refl _) hsp.size
                have oa2 := obj_other (g' := g) (i := 1) oa1 (by omega) (Value.slice (some ⟨gg, 0, none⟩) (rs.length + 1) cap)
                have ob2 := obj_other (g' := g) (i := 1) ob1 (by omega) (Value.slice (some ⟨gg, 0, none⟩) (rs.length + 1) cap)
                have oc2 := obj_set (i := 1) oc1 (Value.slice (some ⟨gg, 0, none⟩) (rs.length + 1) cap)
                have hb5 := hbw3.setCell (p := ⟨g, 1, none⟩) (by simp; omega) (Value.slice (some ⟨gg, 0, none⟩) (rs.length + 1) cap)
                have hs5 : w3.heap.size ≤ (w9.setCell ⟨g, 1, none⟩ (Value.slice (some ⟨gg, 0, none⟩) (rs.length + 1) cap)).heap.size := by have h1 := hg3.size; have h2 := hsp.size; simp at h1; omega
                have K := Lib.hid (And.intro oa2 (And.intro ob2 (And.intro oc2 (And.intro hA2 (And.intro hO7 (And.intro hb5 hs5))))))
                clear oa2 ob2 oc2 hA2 hO7 hb5 hs5 hsp hA1 hbw3 hown9 hgrow9 hg3 hO6 oa1 ob1 oc1 f3 f4 f2 hO2 ho2 oar obr ocr hAr hbr2 hlim oa ob oc hA hO hbw f2r f2r2 fBd c1d fB9 c19 fA fB c1
                go_wp2
                go_roundw
                case rel => exact ⟨y + 1, some ⟨gg, 0, none⟩, cap, rs ++ [⟨some ⟨wr.heap.size, 0, none⟩, 2, [iv, (y : Int)]⟩], by omega, by go_num, K.out.1, K.out.2.1, by rw [List.length_append]; exact K.out.2.2.1, K.out.2.2.2.1, by simpa [Row.v] using K.out.2.2.2.2.1, Lib.hid (by rw [HB.out, List.map_append, HX.out]; simp), K.out.2.2.2.2.2.1, K.out.2.2.2.2.2.2⟩
                case measure => simp [intOf]; omega
            · obtain rfl : y = xs.length + 1 := by omega
              have HE := Lib.hid (show rs.map Row.xs = boxesL xs.length (ys.take (j + 1)) by rw [HX.out, boxesL_succ _ _ _ hlt, HIV.out])
              go_wp2
              go_roundw
              case rel => exact ⟨j + 1, D, d, rs, by omega, by go_num, oa, ob, oc, hA, hO, HE, hbw, hsw⟩
              case measure => simp [intOf]; omega
        · obtain rfl : j = ys.length := by omega
          have HE := Lib.hid (show rs.map Row.xs = boxesL xs.length ys by rw [HX.out, List.take_length])
          have f0 : wr.cell? ⟨g, 0, none⟩ = some (Value.slice A2 xs.length c2) := (obj_cell oc).trans rfl
          have f1 : wr.cell? ⟨g, 1, none⟩ = some (Value.slice D rs.length d) := (obj_cell oc).trans rfl
          have g0 : wr.cell? ⟨w.heap.size + 1, 0, none⟩ = some (Value.slice none 0 0) := (obj_cell ob).trans rfl
          have g1 : wr.cell? ⟨w.heap.size + 1, 1, none⟩ = some (Value.slice none 0 0) := (obj_cell ob).trans rfl
          have g2 : wr.frozen? ⟨w.heap.size + 1, 0, none⟩ = false := obj_frozen ob
          have g3 : wr.frozen? ⟨w.heap.size + 1, 1, none⟩ = false := obj_frozen ob
          have o2 := obj_set (i := 1) (obj_set (i := 0) ob (Value.slice A2 xs.length c2)) (Value.slice D rs.length d)
          have s3 := HZ3.out
          have hsp : Span w.heap.size (w.heap.size + 1 + 1) wr ((wr.setCell ⟨w.heap.size + 1, 0, none⟩ (Value.slice A2 xs.length c2)).setCell ⟨w.heap.size + 1, 1, none⟩ (Value.slice D rs.length d)) :=
            (Span.set (p := ⟨w.heap.size + 1, 0, none⟩) (by simp) (by simp) _).trans (Span.set (p := ⟨w.heap.size + 1, 1, none⟩) (by simp) (by simp) _)
          have hr0 : Own wr w1.heap.size g [⟨A2, c2, xs⟩] [] := (Own.one hA (Nat.le_refl _)).lim g (fun r hr q hq => by obtain rfl := List.mem_singleton.1 hr; exact (lA q hq).2)
          have own : Own wr w1.heap.size wr.heap.size (⟨A2, c2, xs⟩ :: rs) [⟨D, d, rs.map Row.v⟩] := by
            have := hr0.app (hO.wider (show g ≤ w3.heap.size by omega) (Nat.le_refl _)) (by omega) (by omega)
            simpa using this
          have own := own.span hsp (.inr (by omega))
          have hb4 := (hbw.setCell (p := ⟨w.heap.size + 1, 0, none⟩) (by simp) (Value.slice A2 xs.length c2)).setCell (p := ⟨w.heap.size + 1, 1, none⟩) (by simp) (Value.slice D rs.length d)
          have l0 := (obj_cell (i := 0) o2).trans rfl
          have l1 := (obj_cell (i := 1) o2).trans rfl
          have hq2 := hsp.size
          clear hsp s3
          go_wp2_with fail
          refine bodyPost_ret (v := .tuple #[.agg #[.slice A2 xs.length c2, .slice D rs.length d], .bool true]) (by simp [results, Try.results12, go_sem, l0, l1]) rfl ?_
          rw [H1.out, H2.out, H3.out]
          exact ⟨_, _, _, _, rs, rfl, HE.out, own.wider (by omega) (by omega), hb4⟩
    · have H1 := Lib.hid (show moG1 xs ys = [] by unfold moG1 moB; rw [HN.out, decide_eq_false h4]; rfl)
      have H2 := Lib.hid (show moG2 xs ys = [] by unfold moG2 moB; rw [HN.out, decide_eq_false h4]; rfl)
      have H3 := Lib.hid (show moB xs ys = false by unfold moB; rw [HN.out, decide_eq_false h4]; rfl)
      have d4 : decide ((xs.length : Int) > 4) = true := decide_eq_true (by omega)
      have g0 : w1.cell? ⟨w.heap.size + 1, 0, none⟩ = some (Value.slice none 0 0) := (obj_cell ob).trans rfl
      have g1 : w1.cell? ⟨w.heap.size + 1, 1, none⟩ = some (Value.slice none 0 0) := (obj_cell ob).trans rfl
      have g2 : w1.frozen? ⟨w.heap.size + 1, 0, none⟩ = false := obj_frozen ob
      have g3 : w1.frozen? ⟨w.heap.size + 1, 1, none⟩ = false := obj_frozen ob
      have o2 := obj_set (i := 1) (obj_set (i := 0) ob (Value.slice none 0 0)) (Value.slice none 0 0)
      have hb4 := (hb.setCell (p := ⟨w.heap.size + 1, 0, none⟩) (by simp) (Value.slice none 0 0)).setCell (p := ⟨w.heap.size + 1, 1, none⟩) (by simp) (Value.slice none 0 0)
      have l0 := (obj_cell (i := 0) o2).trans rfl
      have l1 := (obj_cell (i := 1) o2).trans rfl
      clear h4
      go_wp2_with fail
      refine bodyPost_ret (v := .tuple #[.agg #[.slice none 0 0, .slice none 0 0], .bool false]) (by simp [results, Try.results12, go_sem, l0, l1]) rfl ?_
      rw [H1.out, H2.out, H3.out]
      exact ⟨_, _, _, _, [], rfl, rfl, own_nilmesh _ _ _, hb4⟩
  · have hnf : nearB xs ys = false := by simpa using hn
    have H1 := Lib.hid (show moG1 xs ys = [] by unfold moG1 moB; rw [hnf]; rfl)
    have H2 := Lib.hid (show moG2 xs ys = [] by unfold moG2 moB; rw [hnf]; rfl)
    have H3 := Lib.hid (show moB xs ys = false by unfold moB; rw [hnf]; rfl)
    (with_reducible refine (near_sb A B c k xs ys w0 false (h.next hb0) hnf).mono ?_)
    rintro e w1 ⟨rfl, hb1⟩
    have oa := obj_below oa hb1 (obj_lt oa)
    have ob := obj_below ob hb1 (obj_lt ob)
    have hb := hb0.trans (hb1.mono hb0.size)
    have f0 : w1.cell? ⟨w.heap.size, 0, none⟩ = some (Value.slice A xs.length c) := (obj_cell oa).trans rfl
    have g0 : w1.cell? ⟨w.heap.size + 1, 0, none⟩ = some (Value.slice none 0 0) := (obj_cell ob).trans rfl
    have g1 : w1.cell? ⟨w.heap.size + 1, 1, none⟩ = some (Value.slice none 0 0) := (obj_cell ob).trans rfl
    have g2 : w1.frozen? ⟨w.heap.size + 1, 0, none⟩ = false := obj_frozen ob
    have g3 : w1.frozen? ⟨w.heap.size + 1, 1, none⟩ = false := obj_frozen ob
    have o2 := obj_set (i := 1) (obj_set (i := 0) ob (Value.slice none 0 0)) (Value.slice none 0 0)
    have hb4 := (hb.setCell (p := ⟨w.heap.size + 1, 0, none⟩) (by simp) (Value.slice none 0 0)).setCell (p := ⟨w.heap.size + 1, 1, none⟩) (by simp) (Value.slice none 0 0)
    have l0 := (obj_cell (i := 0) o2).trans rfl
    have l1 := (obj_cell (i := 1) o2).trans rfl
    clear hn hnf
    go_wp2_with fail
    refine bodyPost_ret (v := .tuple #[.agg #[.slice none 0 0, .slice none 0 0], .bool false]) (by simp [results, Try.results12, go_sem, l0, l1]) rfl ?_
    rw [H1.out, H2.out, H3.out]
    exact ⟨_, _, _, _, [], rfl, rfl, own_nilmesh _ _ _, hb4⟩
end Go.Proofs.Ythipikllgpnlhaa

/- Does a pattern occur: the reference's search. -/
namespace Go.Proofs.Ythipikllgpnlhaa
set_option maxRecDepth 100000
open Go Go.RowKit

def fit1 (p q m : List Int) (k : Nat) : Bool := decide (q[k]?.getD 0 < q[m.length - 1]?.getD 0) == decide ((atL p m)[k]?.getD 0 < (atL p m)[m.length - 1]?.getD 0)
def fit1To (p q m : List Int) (k : Nat) : Bool := (List.range k).all (fit1 p q m)
theorem fit1To_succ (p q m : List Int) (k : Nat) : fit1To p q m (k + 1) = (fit1To p q m k && fit1 p q m k) := by simp [fit1To, List.range_succ]
theorem fit1To_all (p q m : List Int) : fit1To p q m (m.length - 1) = fitsB p q m := rfl
theorem fit1To_false {p q m : List Int} {k n : Nat} (h : k < n) (h1 : fit1 p q m k = false) : fit1To p q m n = false := by
  unfold fit1To
  rw [List.all_eq_false]
  exact ⟨k, List.mem_range.2 h, by simp [h1]⟩

set_option maxHeartbeats 1000000 in
theorem l7Fits_any (A B D : Option Addr) (c d f N : Nat) (p q m : List Int) (w : World) (hn : m.length = N) (hN1 : 1 ≤ N) (hq : N ≤ q.length) (hq8 : q.length ≤ 1000) (hp8 : p.length ≤ 1000) (hm : ∀ x ∈ m, 1 ≤ x ∧ x ≤ p.length)
    (hpr : Rd (Value.int .i64) w w.heap.size A p) (hqr : Rd (Value.int .i64) w w.heap.size B q) (hmr : Rd (Value.int .i64) w w.heap.size D m) :
    Calls Try.prog 146 #[.slice A p.length c, .slice B q.length d, .slice D N f] w (Rq w (.bool (fitsB p q m))) := by
  have HG := Lib.hid (show fitsB p q m = fit1To p q m (N - 1) by rw [← fit1To_all, hn])
  have hnm : N - 1 < m.length := by omega
  have hq1 : N - 1 < q.length := by omega
  have hxl := hm m[N - 1] (List.getElem_mem hnm)
  have hn1000 : N ≤ 1000 := by omega
  have HN := Lib.hid hn
  obtain ⟨cx, hcx⟩ : ∃ cx : Nat, (cx : Int) + 1 = m[N - 1] := ⟨(m[N - 1] - 1).toNat, by omega⟩
  have hcxp : cx < p.length := by omega
  obtain ⟨bp, op, rfl, _, hcp⟩ := hpr (by omega)
  obtain ⟨bq, oq, rfl, _, hcq⟩ := hqr (by omega)
  obtain ⟨bm, om, rfl, _, hcm⟩ := hmr (by omega)
  have c1 := hcm (N - 1) hnm
  have c2 := hcp cx hcxp
  have c3 := hcq (N - 1) hq1
  rw [← hcx] at c1
  have HX := Lib.hid (show (atL p m)[m.length - 1]?.getD 0 = p[cx] by
    unfold atL
    rw [List.getElem?_map, hn, List.getElem?_eq_getElem hnm, ← hcx]
    simp only [Option.map_some, Option.getD_some, Int.add_sub_cancel, Int.toNat_natCast]
    rw [List.getElem?_eq_getElem hcxp]; rfl)
  have e1 : IntKind.i64.wrap ((cx : Int) + 1 - 1) = (cx : Int) := by rw [Int.add_sub_cancel]; exact IntWalk.i64_in _ (by omega)
  have e2 : (cx : Int) < (p.length : Int) := by omega
  have e3 : (N : Int) - 1 < (q.length : Int) := by omega
  have e30 : 1 ≤ (N : Int) := by omega
  have e31 : 0 ≤ (N : Int) - 1 := by omega
  have e32 : (N : Int) - 1 < (N : Int) := by omega
  have e33 : ((N : Int) - 1).toNat = N - 1 := by omega
  clear hn hxl hcx hpr hqr hmr
  go_enter Try.func146, Try.ntmps146
  go_wp2_with fail
  go_loopw [8] (fun i wr => ∃ k : Nat, k ≤ N - 1 ∧ i = .int .i64 k ∧ Hid (fit1To p q m k = true) ∧ Dr w wr) (fun i _ => N - 1 - (intOf i).toNat)
  case atStart => exact ⟨0, Nat.zero_le _, rfl, Lib.hid rfl, Dr.refl _⟩
  case round =>
    obtain ⟨k, hk, rfl, HF, hd⟩ := hrel
    rcases Nat.lt_or_ge k (N - 1) with hlt | hge
    · have hkm : k < m.length := by omega
      have hkl := hm m[k] (List.getElem_mem hkm)
      obtain ⟨ck, hck⟩ : ∃ ck : Nat, (ck : Int) + 1 = m[k] := ⟨(m[k] - 1).toNat, by omega⟩
      have hckp : ck < p.length := by omega
      have hkq : k < q.length := by omega
      have g1 : wr.cell? ⟨bm, om + (N - 1), none⟩ = some (.int .i64 ((cx : Int) + 1)) := (hd.cell _).trans c1
      have g2 : wr.cell? ⟨bp, op + cx, none⟩ = some (.int .i64 p[cx]) := (hd.cell _).trans c2
      have g3 : wr.cell? ⟨bq, oq + (N - 1), none⟩ = some (.int .i64 q[N - 1]) := (hd.cell _).trans c3
      have g4 : wr.cell? ⟨bm, om + k, none⟩ = some (.int .i64 m[k]) := (hd.cell _).trans (hcm k hkm)
      have g5 : wr.cell? ⟨bp, op + ck, none⟩ = some (.int .i64 p[ck]) := (hd.cell _).trans (hcp ck hckp)
      have g6 : wr.cell? ⟨bq, oq + k, none⟩ = some (.int .i64 q[k]) := (hd.cell _).trans (hcq k hkq)
      rw [← hck] at g4
      have HK := Lib.hid (show fit1 p q m k = (decide (q[k] < q[N - 1]) == decide (p[ck] < p[cx])) by
        unfold fit1
        rw [HX.out]
        have : (atL p m)[k]?.getD 0 = p[ck] := by
          unfold atL
          rw [List.getElem?_map, List.getElem?_eq_getElem hkm, ← hck]
          simp only [Option.map_some, Option.getD_some, Int.add_sub_cancel, Int.toNat_natCast]
          rw [List.getElem?_eq_getElem hckp]; rfl
        rw [this, HN.out, List.getElem?_eq_getElem hkq, List.getElem?_eq_getElem hq1]
        rfl)
      have e4 : IntKind.i64.wrap ((ck : Int) + 1 - 1) = (ck : Int) := by rw [Int.add_sub_cancel]; exact IntWalk.i64_in _ (by omega)
      have e5 : (ck : Int) < (p.length : Int) := by omega
      have e6 : (k : Int) < (q.length : Int) := by omega
      have e7 : (k : Int) < (N : Int) := by omega
      have e8 : (k : Int) < (N : Int) - 1 := by omega
      clear hkl hck
      by_cases hf : fit1 p q m k = true
      · have HH := Lib.hid (show fit1To p q m (k + 1) = true by rw [fit1To_succ, HF.out, hf]; rfl)
        have hne : (!(decide (q[k] < q[N - 1]) == decide (p[ck] < p[cx]))) = false := by
          have := HK.out
          rw [hf] at this
          revert this
          cases decide (q[k] < q[N - 1]) <;> cases decide (p[ck] < p[cx]) <;> simp
        clear hf HK
        go_wp2_with fail
        go_quiet (fail)
        go_wp2_with fail
        go_roundw
        case rel => exact ⟨k + 1, by omega, by go_num, HH, (by first | with_reducible assumption | with_reducible exact hd | with_reducible exact Dr.drewN hd _ | with_reducible exact Dr.drewN (Dr.drewN hd _) _ | with_reducible exact Dr.drew hd)⟩
        case measure => simp [intOf]; omega
      · have hff : fit1 p q m k = false := by simpa using hf
        have HH := Lib.hid (show fit1To p q m (N - 1) = false from fit1To_false hlt hff)
        have hne : (!(decide (q[k] < q[N - 1]) == decide (p[ck] < p[cx]))) = true := by
          have := HK.out
          rw [hff] at this
          revert this
          cases decide (q[k] < q[N - 1]) <;> cases decide (p[ck] < p[cx]) <;> simp
        clear hf hff HK
        go_wp2_with fail
        go_quiet (fail)
        go_wp2_with fail
        go_ret
        exact ⟨ret_bool (by rw [HG.out, HH.out]), (by first | with_reducible assumption | with_reducible exact hd | with_reducible exact Dr.drewN hd _ | with_reducible exact Dr.drewN (Dr.drewN hd _) _ | with_reducible exact Dr.drew hd)⟩
    · obtain rfl : k = N - 1 := by omega
      have e8 : ((N - 1 : Nat) : Int) = (N : Int) - 1 := by omega
      go_wp2_with fail
      go_ret
      exact ⟨ret_bool (by rw [HG.out, HF.out]), hd⟩
def findTo (p q : List Int) (k : Nat) (l : List Int) (u : Nat) : List (List Int) := ((marks (fromI l) u).filter fun x => fitsB p q (l ++ [x])).flatMap fun x => occF p q k (l ++ [x])
theorem findTo_succ (p q : List Int) (k : Nat) (l : List Int) (u : Nat) : findTo p q k l (u + 1) = if fitsB p q (l ++ [fromI l + u]) = true then findTo p q k l u ++ occF p q k (l ++ [fromI l + u]) else findTo p q k l u := by
  unfold findTo
  rw [marks_succ, List.filter_append]
  by_cases h : fitsB p q (l ++ [fromI l + u]) = true <;> simp [h]
theorem findTo_le (p q : List Int) (k : Nat) (l : List Int) (u : Nat) (h : 1 ≤ fromI l) : (findTo p q k l u).length ≤ u * p.length ^ k := by
  have hm : ∀ x ∈ (marks (fromI l) u).filter fun x => fitsB p q (l ++ [x]), (occF p q k (l ++ [x])).length ≤ p.length ^ k := fun x hx => by
    obtain ⟨i, _, rfl⟩ := List.mem_map.1 (List.mem_filter.1 hx).1
    exact occF_le p q k _ (by rw [fromI_snoc]; omega)
  have h1 := flatMap_le (fun x => occF p q k (l ++ [x])) (p.length ^ k) _ hm
  have h2 := List.length_filter_le (fun x => fitsB p q (l ++ [x])) (marks (fromI l) u)
  rw [marks_len] at h2
  exact Nat.le_trans h1 (Nat.mul_le_mul_right _ h2)
theorem Asc.le {n : Nat} {l : List Int} (h : Asc n l) : fromI l ≤ n + 1 := by
  rcases hl : l.getLast? with _ | x
  · simp [fromI, hl]; omega
  · have := h.1 x (List.mem_of_getLast? hl)
    simp only [fromI, hl]
    omega

set_option maxHeartbeats 8000000 in
theorem find_rec (p q : List Int) (hp8 : p.length ≤ 8) (hq8 : q.length ≤ 8) : ∀ (k : Nat) (F rs : List Row) (r : Row) (A B D : Option Addr) (c d f lo : Nat) (w : World), r.xs.length + k = q.length → Asc p.length r.xs → lo ≤ w.heap.size → rs.length + p.length ^ k ≤ 100000000 →
    Rd (Value.int .i64) w lo A p → Rd (Value.int .i64) w lo B q → Own w lo w.heap.size (F ++ rs ++ [r]) [⟨D, f, rs.map Row.v⟩] →
    Calls Try.prog 127 #[.slice A p.length c, .slice B q.length d, .slice r.A r.xs.length r.c, .slice D rs.length f] w (Filled w lo F rs (occF p q k r.xs)) := by
  obtain ⟨i0, hi, hz0, hz1, hz2⟩ := info_parts infoI
  obtain ⟨j0, hj, hy0, hy1, hy2⟩ := info_parts infoL
  intro k
  induction k with
  | zero =>
    intro F rs r A B D c d f lo w hr has hlo hcount hp hq hO
    have hcount : rs.length + 1 ≤ 100000000 := by simpa using hcount
    have d1 : ((r.xs.length : Int) == (q.length : Int)) = true := by simp; omega
    have ho := hO.outN (n := rs.length) (by simp)
    have HR := Lib.hid hr
    clear hr
    go_enter Try.func127, Try.ntmps127
    go_wp2_with (at_builtin; refine wpList_append_own _ rfl _ _ 25 rfl (lo) 24 j0 (.slice none 0 0) 1 24 Try.underlying25 hj hy0 hy1 hy2 rfl (by decide) _ _ _ rfl (World.ownsRow.alloc ho _) ⟨w.heap.size, 0, none⟩ 1 1 [Value.slice r.A r.xs.length r.c] rfl rfl (cell_one_at _ _ (by simp)) (by intro u hu; simp at hu; subst hu; rfl) (by unfold maxLen; omega) (by omega) (by simp; omega) ?_; intro v9 w9 hown9 hgrow9 _)
    obtain ⟨A5, c5, rfl, hO6, hg3⟩ := hO.grow (Nat.le_refl _) (by simp) hown9 hgrow9
    have hbw := (Below.refl lo w).grown hg3 hlo (fun g hg => (hO.olim (by simp) g hg).1)
    have K := Lib.hid (And.intro hO6 hbw)
    clear hO6 hbw hown9 hgrow9 hg3 hO ho
    go_wp2
    go_ret
    exact ⟨A5, c5, [r], rfl, rfl, by simpa [Row.v, List.append_assoc] using K.out.1, K.out.2⟩
  | succ k ih =>
    intro F rs r A B D c d f lo w hr has hlo hcount hp hq hO
    have d1 : ((r.xs.length : Int) == (q.length : Int)) = false := by simp; omega
    have hrl : r.xs.length < q.length := by omega
    have hfrom := has.from
    have hfromle := has.le
    obtain ⟨fr, hfr⟩ : ∃ fr : Nat, (fr : Int) = fromI r.xs := ⟨(fromI r.xs).toNat, by omega⟩
    have hfr1 : 1 ≤ fr := by omega
    have hfr2 : fr ≤ p.length + 1 := by omega
    obtain ⟨m, hm⟩ : ∃ m : Nat, m = ((p.length : Int) + 1 - fromI r.xs).toNat := ⟨_, rfl⟩
    have hmu : ∀ u : Nat, fr + u ≤ p.length ↔ u < m := fun u => by omega
    have hm8 : m ≤ p.length := by omega
    have HMU := Lib.hid hmu
    have HG := Lib.hid (show occF p q (k + 1) r.xs = findTo p q k r.xs m by rw [hm]; rfl)
    have HFR := Lib.hid hfr
    have hpow : ∀ u, u + 1 ≤ m → u * p.length ^ k + p.length ^ k ≤ p.length ^ (k + 1) := fun u hu => by
      have := Nat.mul_le_mul_right (p.length ^ k) (Nat.le_trans hu hm8)
      rw [Nat.add_mul, Nat.one_mul] at this
      rw [Nat.pow_succ, Nat.mul_comm (p.length ^ k)]
      exact this
    have HP := Lib.hid hpow
    have HR := Lib.hid hr
    have HC := Lib.hid hcount
    have hO0 : Own w lo w.heap.size (F ++ [r] ++ (rs ++ [])) [⟨D, f, (rs ++ []).map Row.v⟩] := by
      rw [List.append_nil]
      refine hO.perm ?_
      rw [List.append_assoc, List.append_assoc]
      exact List.Perm.append_left F List.perm_append_comm
    have hrd0 := own_row hO (r := r) (by simp) (Nat.le_refl _)
    clear hr hcount hpow hO hfr hm hmu
    go_enter Try.func127, Try.ntmps127
    go_upto_if 23 with (fail)
    go_cut [9] (fun s9 wx => s9 = .int .i64 (fr : Int) ∧ wx = w)
    case first =>
      rcases Nat.eq_zero_or_pos r.xs.length with h0 | h0
      · have h0f : r.xs = [] := List.eq_nil_of_length_eq_zero h0
        have HF := Lib.hid (show fr = 1 by have := HFR.out; rw [h0f, fromI_nil] at this; omega)
        have d2 : decide (0 < r.xs.length) = false := decide_eq_false (by omega)
        have d3 : r.xs.length ≤ 0 := by omega
        clear h0 h0f
        go_wp2_with fail
        go_meet
        exact ⟨by rw [HF.out]; rfl, rfl⟩
      · obtain ⟨b, off, hA, _, hc⟩ := hrd0.2 (by omega)
        have c1 := hc (r.xs.length - 1) (by omega)
        have HF := Lib.hid (show (fr : Int) = r.xs[r.xs.length - 1] + 1 by
          rw [HFR.out]
          have : r.xs.getLast? = some r.xs[r.xs.length - 1] := by rw [List.getLast?_eq_getElem?, List.getElem?_eq_getElem (by omega)]
          simp only [fromI, this])
        have d2 : decide (0 < r.xs.length) = true := decide_eq_true (by omega)
        have hb1 := has.1 r.xs[r.xs.length - 1] (List.getElem_mem (by omega))
        have e0 : 1 ≤ (r.xs.length : Int) := by omega
        have e2 : 0 ≤ (r.xs.length : Int) - 1 := by omega
        have e3 : (r.xs.length : Int) - 1 < r.xs.length := by omega
        have e1 : ((r.xs.length : Int) - 1).toNat = r.xs.length - 1 := by omega
        clear hc
        rw [hA]
        go_wp2_with fail
        rw [← hA]
        go_meet
        exact ⟨by rw [HF.out], rfl⟩
    case rest =>
      obtain ⟨rfl, rfl⟩ := hcut
      clear hrd0
      go_wp2_with fail
      go_loopw [3, 10] (fun o i wr => ∃ (u : Nat) (A1 : Option Addr) (c1 : Nat) (rs1 : List Row), u ≤ m ∧ i = .int .i64 ((fr : Int) + u) ∧ o = .slice A1 (rs.length + rs1.length) c1 ∧ Hid (rs1.map Row.xs = findTo p q k r.xs u) ∧
        Own wr lo wr.heap.size (F ++ [r] ++ (rs ++ rs1)) [⟨A1, c1, (rs ++ rs1).map Row.v⟩] ∧ Below lo wc wr ∧ lo ≤ wr.heap.size) (fun _ i _ => m - ((intOf i).toNat - fr))
      case atStart => exact ⟨0, D, f, [], Nat.zero_le _, by simp, rfl, Lib.hid rfl, hO0, Below.refl _ _, hlo⟩
      case round =>
        clear hO0
        obtain ⟨u, A1, c1, rs1, hu, rfl, rfl, HX, hO, hb, hlo1⟩ := hrel
        have hrd := own_row hO (r := r) (by simp) (Nat.le_refl _)
        rcases Nat.lt_or_ge u m with hlt | hge
        · have hle : fr + u ≤ p.length := (HMU.out u).2 hlt
          have own0 : (wr.alloc (.cells #[] 3)).ownsRow wr.heap.size 3 1 (.slice (some ⟨wr.heap.size, 0, none⟩) 0 0) 0 [] := World.ownsRow_lit wr #[] 0 (Nat.le_refl _) (by unfold maxLen; omega) rfl
          have hx0 := hrd.2.alloc (Nat.le_refl _) (.cells #[] 3)
          have hbA := (Below.refl wr.heap.size wr).alloc (Nat.le_refl _) (.cells #[] 3)
          go_wp2_with (first | ((at_builtin; refine wpList_append_rd _ rfl _ _ 24 rfl (wr.heap.size) 3 i0 (.int .i64 0) 8 Try.underlying24 hi hz0 hz1 hz2 rfl _ _ _ rfl own0 _ _ _ _ (r.xs) rfl rfl hx0 (fun _ => rfl) (by unfold maxLen; omega) (by omega) (by first | omega | (simp; done) | (simp; omega)) ?_; intro v1 w1 hown1 hgrow1); simp only [Nat.zero_add, List.nil_append] at hown1; obtain ⟨A3, c3, rfl, _, _⟩ := own_shape hown1; have hbB := hbA.grown hgrow1 (by simp) (fun g hg => (own0.lt g hg).1); have hszB := hbB.size) | (at_builtin; refine wpList_append_own _ rfl _ _ 24 rfl (wr.heap.size) 3 i0 (.int .i64 0) 1 8 Try.underlying24 hi hz0 hz1 hz2 rfl (by decide) _ _ _ rfl (World.ownsRow.alloc hown1 _) ⟨w1.heap.size, 0, none⟩ 1 1 [.int .i64 ((fr : Int) + u)] rfl rfl (cell_one_new _ _ _) (by intro u hu; simp at hu; subst hu; rfl) (by unfold maxLen; omega) (by omega) (by simp; omega) ?_; intro v2 w2 hown2 hgrow2 _))
          have hbC := (hbB.alloc hszB (Obj.cells #[Value.int .i64 ((fr : Int) + u)] 3)).grown hgrow2 (by simp; omega) (fun g hg => (hown1.lt g hg).1)
          have hrow : w2.ownsRow wr.heap.size 3 1 v2 (r.xs.length + 1) ((r.xs ++ [(fr : Int) + u]).map (Value.int .i64)) := by simpa using hown2
          obtain ⟨A4, c4, rfl, _, _⟩ := own_shape hrow
          have hszC := hbC.size
          have hO1 := hO.below hbC
          have hO2 := hO1.add (r := ⟨A4, c4, r.xs ++ [(fr : Int) + u]⟩) (by simpa [Row.v] using hrow) hszC hlo1
          have hb2 := hb.trans (hbC.mono hlo1)
          have hlo2 : lo ≤ w2.heap.size := by omega
          have hrow2 := own_row hO2 (r := ⟨A4, c4, r.xs ++ [(fr : Int) + u]⟩) (by simp) (Nat.le_refl _)
          have hp2 := hp.below hb2
          have hq2 := hq.below hb2
          have has2 : Asc p.length (r.xs ++ [(fr : Int) + u]) := has.snoc (ways_mem.2 ⟨by rw [← HFR.out]; omega, by omega⟩)
          have hmem : ∀ x ∈ r.xs ++ [(fr : Int) + u], 1 ≤ x ∧ x ≤ p.length := fun x hx => by have := has2.1 x hx; omega
          have hlen1 : (r.xs ++ [(fr : Int) + u]).length = r.xs.length + 1 := by simp
          have HT := Lib.hid (findTo_succ p q k r.xs u)
          have hcnt : rs.length + rs1.length + p.length ^ k ≤ 100000000 := by
            have h1 := congrArg List.length HX.out
            have h2 := findTo_le p q k r.xs u hfrom
            have h3 := HP.out u hlt
            have h4 := HC.out
            rw [List.length_map] at h1
            omega
          have HL1 := Lib.hid hlen1
          have hOk := hO1.wider (Nat.le_refl _) hszC
          clear hown1 hown2 hgrow1 hgrow2 hbA hbB hrow hx0 own0 hO hO1 hlen1
          go_wp2_with fail
          by_cases hft : fitsB p q (r.xs ++ [(fr : Int) + u]) = true
          · have HE := Lib.hid (show findTo p q k r.xs (u + 1) = findTo p q k r.xs u ++ occF p q k (r.xs ++ [(fr : Int) + u]) by rw [HT.out, ← HFR.out, if_pos hft])
            have HH := Lib.hid hft
            clear hft
            (with_reducible refine (l7Fits_any A B A4 c d c4 (r.xs.length + 1) p q (r.xs ++ [(fr : Int) + u]) w2 HL1.out (by omega) (by omega) (by omega) (by omega) hmem (hp2.more hlo2) (hq2.more hlo2) hrow2.2).mono ?_)
            rintro e w3 ⟨rfl, hd3⟩
            rw [HH.out]
            have hO3 := hO2.dr hd3
            have hsz3 : w3.heap.size = w2.heap.size := by rw [hd3.heap]
            rw [← hsz3] at hO3
            have hb3 := below_dr hb2 hd3
            have hlo3 : lo ≤ w3.heap.size := by omega
            have IH := ih (F ++ [r]) (rs ++ rs1) ⟨A4, c4, r.xs ++ [(fr : Int) + u]⟩ A B A1 c d c1 lo w3 (by have := HR.out; have := HL1.out; show (r.xs ++ [(fr : Int) + u]).length + k = _; omega) has2 hlo3 (by rw [List.length_append]; exact hcnt) (hp2.dr hd3) (hq2.dr hd3) hO3
            rw [show (Row.mk A4 c4 (r.xs ++ [(fr : Int) + u])).xs.length = r.xs.length + 1 by simp, List.length_append] at IH
            have IHH := Lib.hid IH
            clear IH hO2 hO3 hOk hsz3 hrow2
            go_wp2_with fail
            (with_reducible refine IHH.out.mono ?_)
            rintro e w4 ⟨A5, c5, rs2, rfl, hxs, hO4, hb4⟩
            have K := Lib.hid (And.intro hxs (And.intro hO4 (hb3.trans hb4)))
            have hlo4 : lo ≤ w4.heap.size := by have := hb4.size; omega
            clear hxs hO4 hb4 IHH hb2 hb3
            go_wp2_with fail
            go_roundw
            case rel => exact ⟨u + 1, A5, c5, rs1 ++ rs2, by omega, by go_num, by rw [List.length_append]; go_num, Lib.hid (by rw [HE.out, List.map_append, HX.out, K.out.1]), by rw [← List.append_assoc rs]; exact K.out.2.1, K.out.2.2, hlo4⟩
            case measure => simp [intOf]; omega
          · have hff : fitsB p q (r.xs ++ [(fr : Int) + u]) = false := by simpa using hft
            have HE := Lib.hid (show findTo p q k r.xs (u + 1) = findTo p q k r.xs u by rw [HT.out, ← HFR.out, if_neg hft])
            have HH := Lib.hid hff
            clear hft hff
            (with_reducible refine (l7Fits_any A B A4 c d c4 (r.xs.length + 1) p q (r.xs ++ [(fr : Int) + u]) w2 HL1.out (by omega) (by omega) (by omega) (by omega) hmem (hp2.more hlo2) (hq2.more hlo2) hrow2.2).mono ?_)
            rintro e w3 ⟨rfl, hd3⟩
            rw [HH.out]
            have hO3 := hOk.dr hd3
            have hsz3 : w3.heap.size = w2.heap.size := by rw [hd3.heap]
            rw [← hsz3] at hO3
            have hb3 := below_dr hb2 hd3
            have hlo3 : lo ≤ w3.heap.size := by omega
            clear hO2 hOk hsz3 hrow2 hb2
            go_wp2_with fail
            go_roundw
            case rel => exact ⟨u + 1, A1, c1, rs1, by omega, by go_num, rfl, Lib.hid (by rw [HE.out]; exact HX.out), hO3, hb3, hlo3⟩
            case measure => simp [intOf]; omega
        · obtain rfl : u = m := by omega
          have hgt : p.length < fr + u := by have := (HMU.out u); omega
          have hO2 : Own wr lo wr.heap.size (F ++ (rs ++ rs1)) [⟨A1, c1, (rs ++ rs1).map Row.v⟩] := hO.sub (by
            rw [List.append_assoc F]
            exact List.Sublist.append_left (List.sublist_append_right _ _) F)
          go_wp2_with fail
          go_ret
          exact ⟨A1, c1, rs1, rfl, by rw [HG.out]; exact HX.out, hO2, hb⟩
end Go.Proofs.Ythipikllgpnlhaa

/- Does a pattern occur: the program's search. -/
namespace Go.Proofs.Ythipikllgpnlhaa
set_option maxRecDepth 100000
open Go Go.RowKit

/-- The last of the chosen places fits with all before it (places counted from 0). -/
theorem fits_up {p q l : List Int} {i : Int} : fitsB p q (up (l ++ [i])) = (List.range l.length).all fun k => decide (q[k]?.getD 0 < q[l.length]?.getD 0) == decide (nth p (l[k]?.getD 0) < nth p i) := by
  unfold fitsB up
  simp only [List.map_append, List.map_cons, List.map_nil, List.length_append, List.length_map, List.length_cons, List.length_nil, Nat.zero_add, Nat.add_sub_cancel]
  rw [Bool.eq_iff_iff, List.all_eq_true, List.all_eq_true]
  have hat : ∀ k, k < l.length → (atL p (l.map (· + 1) ++ [i + 1]))[k]?.getD 0 = nth p (l[k]?.getD 0) := fun k hk => by
    unfold atL nth
    rw [List.getElem?_map, List.getElem?_append_left (by simpa using hk), List.getElem?_map, List.getElem?_eq_getElem hk]
    simp only [Option.map_some, Option.getD_some, Int.add_sub_cancel]
  have hlast : (atL p (l.map (· + 1) ++ [i + 1]))[l.length]?.getD 0 = nth p i := by
    unfold atL nth
    rw [List.getElem?_map, List.getElem?_append_right (by simp)]
    simp only [List.length_map, Nat.sub_self, List.getElem?_cons_zero, Option.map_some, Option.getD_some, Int.add_sub_cancel]
  constructor
  · intro h k hk
    have h1 := h k hk
    rw [hat k (List.mem_range.1 hk), hlast] at h1
    exact h1
  · intro h k hk
    rw [hat k (List.mem_range.1 hk), hlast]
    exact h k hk
/-- The fits among the first k of the chosen. -/
def fitTo (p q l : List Int) (i : Int) (k : Nat) : Bool := (List.range k).all fun k => decide (q[k]?.getD 0 < q[l.length]?.getD 0) == decide (nth p (l[k]?.getD 0) < nth p i)
theorem fitTo_succ (p q l : List Int) (i : Int) (k : Nat) : fitTo p q l i (k + 1) = (fitTo p q l i k && (decide (q[k]?.getD 0 < q[l.length]?.getD 0) == decide (nth p (l[k]?.getD 0) < nth p i))) := by
  simp [fitTo, List.range_succ]
theorem fitTo_all (p q l : List Int) (i : Int) : fitTo p q l i l.length = fitsB p q (up (l ++ [i])) := fits_up.symm
/-- What the search has found behind the first u places. -/
def hasTo (p q : List Int) (k : Nat) (l : List Int) (u : Nat) : Bool := (marks (from0 l) u).any fun i => fitsB p q (up (l ++ [i])) && hasF p q k (l ++ [i])
theorem hasTo_succ (p q : List Int) (k : Nat) (l : List Int) (u : Nat) : hasTo p q k l (u + 1) = (hasTo p q k l u || (fitsB p q (up (l ++ [from0 l + u])) && hasF p q k (l ++ [from0 l + u]))) := by
  unfold hasTo
  rw [marks_succ, List.any_append]
  simp
theorem hasTo_mono {p q : List Int} {k : Nat} {l : List Int} {u m : Nat} (h : u < m) (h1 : (fitsB p q (up (l ++ [from0 l + u])) && hasF p q k (l ++ [from0 l + u])) = true) : hasTo p q k l m = true := by
  unfold hasTo
  refine List.any_eq_true.2 ⟨from0 l + u, List.mem_map.2 ⟨u, List.mem_range.2 h, rfl⟩, h1⟩
/-- Chosen places, ascending and within p. -/
def Chos (n : Nat) (l : List Int) : Prop := (∀ x ∈ l, 0 ≤ x ∧ x < n) ∧ 0 ≤ from0 l ∧ from0 l ≤ n
theorem Chos.nil (n : Nat) : Chos n [] := ⟨by simp, by simp [from0], by simp [from0]⟩
theorem Chos.snoc {n : Nat} {l : List Int} (h : Chos n l) {x : Int} (h1 : 0 ≤ x) (h2 : x < n) : Chos n (l ++ [x]) := by
  refine ⟨fun y hy => ?_, by simp [from0]; omega, by simp [from0]; omega⟩
  rcases List.mem_append.1 hy with hy | hy
  · exact h.1 y hy
  · obtain rfl := List.mem_singleton.1 hy
    exact ⟨h1, h2⟩


/-- The program's order: by length, then letter by letter. -/
def cmpP (p q : List Int) : Int := if p.length = q.length then cmpL p q else cmpI p.length q.length
end Go.Proofs.Ythipikllgpnlhaa

/- Occurrences and bases: the roots of the searches, IsBasis in program and reference. -/
namespace Go.Proofs.Ythipikllgpnlhaa
set_option maxRecDepth 100000
open Go Go.RowKit

/-- The two empty literals that the search begins with. -/
theorem find_root (A B : Option Addr) (c d : Nat) (p q : List Int) (w : World) (hp : In w A c p) (hq : In w B d q) (hp8 : p.length ≤ 8) (hq8 : q.length ≤ 8) :
    Calls Try.prog 127 #[.slice A p.length c, .slice B q.length d, .slice (some ⟨w.heap.size, 0, none⟩) 0 0, .slice (some ⟨w.heap.size + 1, 0, none⟩) 0 0] ((w.alloc (.cells #[] 3)).alloc (.cells #[] 24)) (RetL w (occL p q)) := by
  have own0 : (w.alloc (.cells #[] 3)).ownsRow w.heap.size 3 1 (Row.v ⟨some ⟨w.heap.size, 0, none⟩, 0, []⟩) 0 (([] : List Int).map (Value.int .i64)) := World.ownsRow_lit w #[] 0 (Nat.le_refl _) (by unfold maxLen; omega) rfl
  have hA : Own (w.alloc (.cells #[] 3)) w.heap.size (w.heap.size + 1) [⟨some ⟨w.heap.size, 0, none⟩, 0, []⟩] [] := by
    have := Own.add (os := []) (r := ⟨some ⟨w.heap.size, 0, none⟩, 0, []⟩) (Own.nil_ (w := w.alloc (.cells #[] 3)) (lo := w.heap.size) (hi := w.heap.size)) own0 (by simp) (Nat.le_refl _)
    simpa using this
  have hB : Own ((w.alloc (.cells #[] 3)).alloc (.cells #[] 24)) w.heap.size (w.heap.size + 1 + 1) [⟨some ⟨w.heap.size, 0, none⟩, 0, []⟩] [⟨some ⟨w.heap.size + 1, 0, none⟩, 0, []⟩] := by
    have h1 := hA.below ((Below.refl _ _).alloc (Nat.le_refl _) (.cells #[] 24))
    exact (h1.wider (Nat.le_refl _) (Nat.le_succ _)).with_ (A := some ⟨w.heap.size + 1, 0, none⟩) (c := 0) (vs := []) (by
      have := World.ownsRow_lit (base := w.heap.size) (e := 24) (size := 1) (w.alloc (.cells #[] 3)) #[] 0 (by simp) (by unfold maxLen; omega) rfl
      simpa using this) (by simp)
  have hb0 : Below w.heap.size w ((w.alloc (.cells #[] 3)).alloc (.cells #[] 24)) := ((Below.refl _ _).alloc (Nat.le_refl _) _).alloc (by simp) _
  have hpow : p.length ^ q.length ≤ 16777216 := by
    have h1 : p.length ^ q.length ≤ 8 ^ q.length := Nat.pow_le_pow_left hp8 _
    have h2 : 8 ^ q.length ≤ 8 ^ 8 := Nat.pow_le_pow_right (by omega) hq8
    omega
  have FSc := find_rec p q hp8 hq8 q.length [] [] ⟨some ⟨w.heap.size, 0, none⟩, 0, []⟩ A B (some ⟨w.heap.size + 1, 0, none⟩) c d 0 w.heap.size ((w.alloc (.cells #[] 3)).alloc (.cells #[] 24)) (by simp) (Asc.nil _) (by simp; omega) (by simp; omega) (hp.rd.below hb0) (hq.rd.below hb0) (by simpa using hB)
  exact FSc.mono fun e w' ⟨A', c', rs', he, hx, hO, hb⟩ => ⟨A', c', rs', by simpa using he, hx, by simpa using hO, hb0.trans hb⟩

/-- What a basis asks at the place k. -/
def basAt (L : List (List Int)) (k : Nat) : Bool :=
  permB (L[k]?.getD []) && decide ((L[k]?.getD []).length ≠ 0) && (decide (k = 0) || decide (cmpP (L[k - 1]?.getD []) (L[k]?.getD []) < 0)) && (List.range k).all fun i => !hasB (L[k]?.getD []) (L[i]?.getD [])
def basTo (L : List (List Int)) (k : Nat) : Bool := (List.range k).all (basAt L)
theorem basTo_succ (L : List (List Int)) (k : Nat) : basTo L (k + 1) = (basTo L k && basAt L k) := by simp [basTo, List.range_succ]
theorem basTo_false {L : List (List Int)} {k m : Nat} (h : k < m) (ht : basAt L k = false) : basTo L m = false := by
  unfold basTo
  rw [List.all_eq_false]
  exact ⟨k, List.mem_range.2 h, by simp [ht]⟩
theorem basTo_perm {L : List (List Int)} {k j : Nat} (h : basTo L k = true) (hj : j < k) (hl : j < L.length) : permB L[j] = true := by
  unfold basTo at h
  have := List.all_eq_true.1 h j (List.mem_range.2 hj)
  unfold basAt at this
  rw [List.getElem?_eq_getElem hl] at this
  simp only [Option.getD_some, Bool.and_eq_true] at this
  exact this.1.1.1
def basisB (L : List (List Int)) : Bool := decide (L.length ≤ 8) && basTo L L.length
def nohasTo (L : List (List Int)) (p : List Int) (i : Nat) : Bool := (List.range i).all fun i => !hasB p (L[i]?.getD [])
theorem nohasTo_succ (L : List (List Int)) (p : List Int) (i : Nat) : nohasTo L p (i + 1) = (nohasTo L p i && !hasB p (L[i]?.getD [])) := by simp [nohasTo, List.range_succ]
theorem nohasTo_false {L : List (List Int)} {p : List Int} {k m : Nat} (h : k < m) (ht : hasB p (L[k]?.getD []) = true) : nohasTo L p m = false := by
  unfold nohasTo
  rw [List.all_eq_false]
  exact ⟨k, List.mem_range.2 h, by simp [ht]⟩
theorem before_cmp (p q : List Int) : before p q = decide (cmpP p q < 0) := by
  unfold before cmpP
  by_cases h : p.length = q.length
  · rw [if_pos h, if_pos h]
  · rw [if_neg h, if_neg h]
    unfold cmpI
    rw [decide_eq_decide]
    constructor
    · intro hlt; rw [if_pos (by omega)]; omega
    · intro hlt
      split at hlt
      · omega
      · split at hlt <;> omega
theorem basAt_row {rs : List Row} {k : Nat} (hk : k < rs.length) : basAt (rs.map Row.xs) k = (permB rs[k].xs && decide (rs[k].xs.length ≠ 0) && (decide (k = 0) || decide (cmpP ((rs.map Row.xs)[k - 1]?.getD []) rs[k].xs < 0)) && nohasTo (rs.map Row.xs) rs[k].xs k) := by
  have hX : (rs.map Row.xs)[k]?.getD [] = rs[k].xs := by simp [hk]
  unfold basAt nohasTo
  rw [hX]
theorem getX {rs : List Row} {k : Nat} (hk : k < rs.length) : (rs.map Row.xs)[k]?.getD [] = rs[k].xs := by simp [hk]

end Go.Proofs.Ythipikllgpnlhaa

/- slices.IndexFunc, slices.ContainsFunc: the function value by its contract. -/
namespace Go.Proofs.Ythipikllgpnlhaa
set_option maxRecDepth 100000
open Go Go.RowKit

/-- A call's result: a number that is not below zero just where something holds. -/
def IdxPost (w : World) (b : Bool) (e : Ending) (w' : World) : Prop := ∃ i : Int, e = .returned (.int .i64 i) ∧ decide (i ≥ 0) = b ∧ Below w.heap.size w w'
theorem any_take_false {α : Type} {H : α → Bool} {l : List α} {k : Nat} (h : (l.take k).any H = false) (hk : k < l.length) (h1 : H l[k] = false) : (l.take (k + 1)).any H = false := by
  rw [List.take_succ_eq_append_getElem hk, List.any_append, h]
  simp [h1]
theorem any_at {α : Type} {H : α → Bool} {l : List α} {k : Nat} (hk : k < l.length) (h1 : H l[k] = true) : l.any H = true := List.any_eq_true.2 ⟨l[k], List.getElem_mem hk, h1⟩



set_option maxHeartbeats 800000 in
theorem indexFuncL1 (A : Option Addr) (c : Nat) (rs : List Row) (F : Nat) (g : Nat) (H : List Int → Bool) (w : World) (hl : rs.length ≤ 4611686018427387904) (hx : Read w w.heap.size rs [⟨A, c, rs.map Row.v⟩])
    (hF : ∀ args w', (callFunc F args).run Try.prog w' = .ok (.enter F args) w')
    (hcl : ∀ (w' : World) (k : Nat) (hk : k < rs.length), Below w.heap.size w w' → Calls Try.prog F #[.slice rs[k].A rs[k].xs.length rs[k].c, .pointer (some ⟨g, 0, none⟩)] w' (Rb w' (.bool (H rs[k].xs)))) :
    Calls Try.prog 148 #[.slice A rs.length c, .func (.func F) #[] #[.pointer (some ⟨g, 0, none⟩)]] w (IdxPost w (rs.any (fun r : Row => H r.xs))) := by
  go_enter Try.func148, Try.ntmps148
  go_wp2_with fail
  go_loopw [8] (fun i wr => ∃ k : Nat, k ≤ rs.length ∧ i = .int .i64 k ∧ Hid ((rs.take k).any (fun r : Row => H r.xs) = false) ∧ Below w.heap.size w wr) (fun i _ => rs.length - (intOf i).toNat)
  case atStart => exact ⟨0, Nat.zero_le _, rfl, Lib.hid rfl, Below.refl _ _⟩
  case round =>
    obtain ⟨k, hk, rfl, HN, hb⟩ := hrel
    have hsz := hb.size
    rcases Nat.lt_or_ge k rs.length with hlt | hge
    · have hcall := hcl wr k hlt hb
      obtain ⟨b, off, rfl, _, hc⟩ := (hx.below hb).at (by omega)
      have c1 := hc k hlt
      clear hc
      go_wp2_with fail
      (with_reducible refine hcall.mono ?_)
      rintro e w1 ⟨rfl, hb1⟩
      have hbz := hb.trans (hb1.mono hsz)
      by_cases hh : H rs[k].xs = true
      · have HT := Lib.hid (show rs.any (fun r : Row => H r.xs) = true from any_at hlt hh)
        rw [hh]
        clear hh hcall
        go_wp2_with fail
        go_ret
        exact ⟨k, rfl, by rw [HT.out]; exact decide_eq_true (by omega), hbz⟩
      · have hhf : H rs[k].xs = false := by simpa using hh
        have HT := Lib.hid (show (rs.take (k + 1)).any (fun r : Row => H r.xs) = false from any_take_false HN.out hlt hhf)
        rw [hhf]
        clear hh hhf hcall
        go_wp2_with fail
        go_roundw
        case rel => exact ⟨k + 1, by omega, by go_num, HT, hbz⟩
        case measure => simp [intOf]; omega
    · have HT := Lib.hid (show rs.any (fun r : Row => H r.xs) = false by have := HN.out; rwa [List.take_of_length_le hge] at this)
      go_wp2_with fail
      go_ret
      exact ⟨-1, rfl, by rw [HT.out]; rfl, hb⟩
theorem containsFuncL1 (A : Option Addr) (c : Nat) (rs : List Row) (F : Nat) (g : Nat) (H : List Int → Bool) (w : World) (hl : rs.length ≤ 4611686018427387904) (hx : Read w w.heap.size rs [⟨A, c, rs.map Row.v⟩])
    (hF : ∀ args w', (callFunc F args).run Try.prog w' = .ok (.enter F args) w')
    (hcl : ∀ (w' : World) (k : Nat) (hk : k < rs.length), Below w.heap.size w w' → Calls Try.prog F #[.slice rs[k].A rs[k].xs.length rs[k].c, .pointer (some ⟨g, 0, none⟩)] w' (Rb w' (.bool (H rs[k].xs)))) (b : Bool) (hb : rs.any (fun r : Row => H r.xs) = b) :
    Calls Try.prog 130 #[.slice A rs.length c, .func (.func F) #[] #[.pointer (some ⟨g, 0, none⟩)]] w (Rb w (.bool b)) := by
  subst hb
  have HI := Lib.hid (indexFuncL1 A c rs F g H w hl hx hF hcl)
  go_enter Try.func130, Try.ntmps130
  go_wp2_with fail
  (with_reducible refine HI.out.mono ?_)
  rintro e w1 ⟨i, rfl, hd, hb1⟩
  have HD := Lib.hid hd
  clear hd
  go_wp2_with fail
  go_ret
  exact ⟨ret_bool (by rw [← HD.out]), hb1⟩

set_option maxHeartbeats 800000 in
theorem indexFuncL0 (A : Option Addr) (c : Nat) (rs : List Row) (F : Nat) (H : List Int → Bool) (w : World) (hl : rs.length ≤ 4611686018427387904) (hx : Read w w.heap.size rs [⟨A, c, rs.map Row.v⟩])
    (hF : ∀ args w', (callFunc F args).run Try.prog w' = .ok (.enter F args) w')
    (hcl : ∀ (w' : World) (k : Nat) (hk : k < rs.length), Below w.heap.size w w' → Calls Try.prog F #[.slice rs[k].A rs[k].xs.length rs[k].c] w' (Rb w' (.bool (H rs[k].xs)))) :
    Calls Try.prog 148 #[.slice A rs.length c, .func (.func F) #[] #[]] w (IdxPost w (rs.any (fun r : Row => H r.xs))) := by
  go_enter Try.func148, Try.ntmps148
  go_wp2_with fail
  go_loopw [8] (fun i wr => ∃ k : Nat, k ≤ rs.length ∧ i = .int .i64 k ∧ Hid ((rs.take k).any (fun r : Row => H r.xs) = false) ∧ Below w.heap.size w wr) (fun i _ => rs.length - (intOf i).toNat)
  case atStart => exact ⟨0, Nat.zero_le _, rfl, Lib.hid rfl, Below.refl _ _⟩
  case round =>
    obtain ⟨k, hk, rfl, HN, hb⟩ := hrel
    have hsz := hb.size
    rcases Nat.lt_or_ge k rs.length with hlt | hge
    · have hcall := hcl wr k hlt hb
      obtain ⟨b, off, rfl, _, hc⟩ := (hx.below hb).at (by omega)
      have c1 := hc k hlt
      clear hc
      go_wp2_with fail
      (with_reducible refine hcall.mono ?_)
      rintro e w1 ⟨rfl, hb1⟩
      have hbz := hb.trans (hb1.mono hsz)
      by_cases hh : H rs[k].xs = true
      · have HT := Lib.hid (show rs.any (fun r : Row => H r.xs) = true from any_at hlt hh)
        rw [hh]
        clear hh hcall
        go_wp2_with fail
        go_ret
        exact ⟨k, rfl, by rw [HT.out]; exact decide_eq_true (by omega), hbz⟩
      · have hhf : H rs[k].xs = false := by simpa using hh
        have HT := Lib.hid (show (rs.take (k + 1)).any (fun r : Row => H r.xs) = false from any_take_false HN.out hlt hhf)
        rw [hhf]
        clear hh hhf hcall
        go_wp2_with fail
        go_roundw
        case rel => exact ⟨k + 1, by omega, by go_num, HT, hbz⟩
        case measure => simp [intOf]; omega
    · have HT := Lib.hid (show rs.any (fun r : Row => H r.xs) = false by have := HN.out; rwa [List.take_of_length_le hge] at this)
      go_wp2_with fail
      go_ret
      exact ⟨-1, rfl, by rw [HT.out]; rfl, hb⟩
theorem containsFuncL0 (A : Option Addr) (c : Nat) (rs : List Row) (F : Nat) (H : List Int → Bool) (w : World) (hl : rs.length ≤ 4611686018427387904) (hx : Read w w.heap.size rs [⟨A, c, rs.map Row.v⟩])
    (hF : ∀ args w', (callFunc F args).run Try.prog w' = .ok (.enter F args) w')
    (hcl : ∀ (w' : World) (k : Nat) (hk : k < rs.length), Below w.heap.size w w' → Calls Try.prog F #[.slice rs[k].A rs[k].xs.length rs[k].c] w' (Rb w' (.bool (H rs[k].xs)))) (b : Bool) (hb : rs.any (fun r : Row => H r.xs) = b) :
    Calls Try.prog 130 #[.slice A rs.length c, .func (.func F) #[] #[]] w (Rb w (.bool b)) := by
  subst hb
  have HI := Lib.hid (indexFuncL0 A c rs F H w hl hx hF hcl)
  go_enter Try.func130, Try.ntmps130
  go_wp2_with fail
  (with_reducible refine HI.out.mono ?_)
  rintro e w1 ⟨i, rfl, hd, hb1⟩
  have HD := Lib.hid hd
  clear hd
  go_wp2_with fail
  go_ret
  exact ⟨ret_bool (by rw [← HD.out]), hb1⟩

set_option maxHeartbeats 800000 in
theorem indexFuncL2 (A : Option Addr) (c : Nat) (rs : List Row) (F : Nat) (g g2 : Nat) (H : List Int → Bool) (w : World) (hl : rs.length ≤ 4611686018427387904) (hx : Read w w.heap.size rs [⟨A, c, rs.map Row.v⟩])
    (hF : ∀ args w', (callFunc F args).run Try.prog w' = .ok (.enter F args) w')
    (hcl : ∀ (w' : World) (k : Nat) (hk : k < rs.length), Below w.heap.size w w' → Calls Try.prog F #[.slice rs[k].A rs[k].xs.length rs[k].c, .pointer (some ⟨g, 0, none⟩), .pointer (some ⟨g2, 0, none⟩)] w' (Rb w' (.bool (H rs[k].xs)))) :
    Calls Try.prog 148 #[.slice A rs.length c, .func (.func F) #[] #[.pointer (some ⟨g, 0, none⟩), .pointer (some ⟨g2, 0, none⟩)]] w (IdxPost w (rs.any (fun r : Row => H r.xs))) := by
  go_enter Try.func148, Try.ntmps148
  go_wp2_with fail
  go_loopw [8] (fun i wr => ∃ k : Nat, k ≤ rs.length ∧ i = .int .i64 k ∧ Hid ((rs.take k).any (fun r : Row => H r.xs) = false) ∧ Below w.heap.size w wr) (fun i _ => rs.length - (intOf i).toNat)
  case atStart => exact ⟨0, Nat.zero_le _, rfl, Lib.hid rfl, Below.refl _ _⟩
  case round =>
    obtain ⟨k, hk, rfl, HN, hb⟩ := hrel
    have hsz := hb.size
    rcases Nat.lt_or_ge k rs.length with hlt | hge
    · have hcall := hcl wr k hlt hb
      obtain ⟨b, off, rfl, _, hc⟩ := (hx.below hb).at (by omega)
      have c1 := hc k hlt
      clear hc
      go_wp2_with fail
      (with_reducible refine hcall.mono ?_)
      rintro e w1 ⟨rfl, hb1⟩
      have hbz := hb.trans (hb1.mono hsz)
      by_cases hh : H rs[k].xs = true
      · have HT := Lib.hid (show rs.any (fun r : Row => H r.xs) = true from any_at hlt hh)
        rw [hh]
        clear hh hcall
        go_wp2_with fail
        go_ret
        exact ⟨k, rfl, by rw [HT.out]; exact decide_eq_true (by omega), hbz⟩
      · have hhf : H rs[k].xs = false := by simpa using hh
        have HT := Lib.hid (show (rs.take (k + 1)).any (fun r : Row => H r.xs) = false from any_take_false HN.out hlt hhf)
        rw [hhf]
        clear hh hhf hcall
        go_wp2_with fail
        go_roundw
        case rel => exact ⟨k + 1, by omega, by go_num, HT, hbz⟩
        case measure => simp [intOf]; omega
    · have HT := Lib.hid (show rs.any (fun r : Row => H r.xs) = false by have := HN.out; rwa [List.take_of_length_le hge] at this)
      go_wp2_with fail
      go_ret
      exact ⟨-1, rfl, by rw [HT.out]; rfl, hb⟩
theorem containsFuncL2 (A : Option Addr) (c : Nat) (rs : List Row) (F : Nat) (g g2 : Nat) (H : List Int → Bool) (w : World) (hl : rs.length ≤ 4611686018427387904) (hx : Read w w.heap.size rs [⟨A, c, rs.map Row.v⟩])
    (hF : ∀ args w', (callFunc F args).run Try.prog w' = .ok (.enter F args) w')
    (hcl : ∀ (w' : World) (k : Nat) (hk : k < rs.length), Below w.heap.size w w' → Calls Try.prog F #[.slice rs[k].A rs[k].xs.length rs[k].c, .pointer (some ⟨g, 0, none⟩), .pointer (some ⟨g2, 0, none⟩)] w' (Rb w' (.bool (H rs[k].xs)))) (b : Bool) (hb : rs.any (fun r : Row => H r.xs) = b) :
    Calls Try.prog 130 #[.slice A rs.length c, .func (.func F) #[] #[.pointer (some ⟨g, 0, none⟩), .pointer (some ⟨g2, 0, none⟩)]] w (Rb w (.bool b)) := by
  subst hb
  have HI := Lib.hid (indexFuncL2 A c rs F g g2 H w hl hx hF hcl)
  go_enter Try.func130, Try.ntmps130
  go_wp2_with fail
  (with_reducible refine HI.out.mono ?_)
  rintro e w1 ⟨i, rfl, hd, hb1⟩
  have HD := Lib.hid hd
  clear hd
  go_wp2_with fail
  go_ret
  exact ⟨ret_bool (by rw [← HD.out]), hb1⟩

end Go.Proofs.Ythipikllgpnlhaa

/- Avoiding a list; InClass, IsWithin. -/
namespace Go.Proofs.Ythipikllgpnlhaa
set_option maxRecDepth 100000
open Go Go.RowKit

def avoidB (X : List (List Int)) (p : List Int) : Bool := !X.any fun q => hasB p q
theorem basis_perm {X : List (List Int)} (h : basisB X = true) : ∀ q ∈ X, permB q = true := fun q hq => by
  unfold basisB at h
  rw [Bool.and_eq_true] at h
  obtain ⟨i, hi, rfl⟩ := List.mem_iff_getElem.1 hq
  exact basTo_perm h.2 hi hi
theorem basis_len {X : List (List Int)} (h : basisB X = true) : X.length ≤ 8 := by
  unfold basisB at h
  rw [Bool.and_eq_true, decide_eq_true_eq] at h
  exact h.1
theorem rows_8 {rs : List Row} (h : ∀ q ∈ rs.map Row.xs, permB q = true) : ∀ r ∈ rs, r.xs.length ≤ 8 := fun r hr => (permB_true (h r.xs (List.mem_map.2 ⟨r, hr, rfl⟩))).1
theorem any_rows (rs : List Row) (H : List Int → Bool) : (rs.any fun r : Row => H r.xs) = (rs.map Row.xs).any H := by rw [List.any_map]; rfl

def inClassB (X : List (List Int)) (p : List Int) : Bool := basisB X && permB p && avoidB X p
end Go.Proofs.Ythipikllgpnlhaa
