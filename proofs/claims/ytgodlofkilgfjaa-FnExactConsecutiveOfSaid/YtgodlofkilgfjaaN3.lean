/- ConsecutiveOf, program and reference. -/
import Derived.Test.YtgodlofkilgfjaaR2
import Derived.Test.YtgodlofkilgfjaaQ1
namespace Go.Proofs.Ytgodlofkilgfjaa
open Go Go.RowKit

/-- A call's result: a pattern with joined places of its own, and a truth value. -/
def RetNb (w : World) (xs ys : List Int) (b : Bool) (e : Ending) (w' : World) : Prop :=
  ∃ A B c k, e = .returned (.tuple #[.agg #[.slice A xs.length c, .slice B ys.length k], .bool b]) ∧ Own w' w.heap.size w'.heap.size [⟨A, c, xs⟩, ⟨B, k, ys⟩] [] ∧ Below w.heap.size w w'
theorem own_nilrow (w : World) (lo hi : Nat) : Own w lo hi [⟨none, 0, []⟩, ⟨none, 0, []⟩] [] := by
  refine ⟨fun r hr => ?_, fun r hr g hg => ?_, ?_, fun _ ho => (List.not_mem_nil ho).elim, fun _ ho => (List.not_mem_nil ho).elim⟩
  · have : r = ⟨none, 0, []⟩ := by simpa using hr
    subst this; exact ⟨rfl, .inl ⟨rfl, rfl⟩⟩
  · have : r = ⟨none, 0, []⟩ := by simpa using hr
    subst this; cases hg
  · simp [Row.v, Value.ownBlock]
theorem Own.two {w w1 : World} {A B : Option Addr} {c k lo hi : Nat} {xs ys : List Int} (h : w1.ownsRow lo 3 1 (.slice A xs.length c) xs.length (xs.map (Value.int .i64))) (h' : w.ownsRow w1.heap.size 3 1 (.slice B ys.length k) ys.length (ys.map (Value.int .i64)))
    (hb : Below w1.heap.size w1 w) (hh : w.heap.size ≤ hi) (hl : lo ≤ w1.heap.size) : Own w lo hi [⟨A, c, xs⟩, ⟨B, k, ys⟩] [] :=
  (((Own.one h (Nat.le_refl _)).below hb).app (Own.one h' (Nat.le_refl _)) hl hb.size).wider (Nat.le_refl _) hh

def conG1 (xs : List Int) : List Int := if permB xs then xs else []
def conG2 (xs : List Int) : List Int := if permB xs then idL (xs.length - 1) else []
theorem conG_le (xs : List Int) : (conG1 xs).length + (conG2 xs).length ≤ 16 := by
  unfold conG1 conG2
  by_cases hp : permB xs = true
  · rw [if_pos hp, if_pos hp, idL_length]
    have := (permB_true hp).1
    omega
  · rw [if_neg hp, if_neg hp]
    simp

theorem identity_i (i : Int) (n : Nat) (w : World) (hi : i = n) (hn : n ≤ 1048576) :
    Calls Try.prog 63 #[.int .i64 i] w (Ret (Value.int .i64) 3 w (idL n)) := by
  subst hi
  exact identity_any n w hn

set_option maxHeartbeats 1000000 in
theorem consecutive_impl (A : Option Addr) (c : Nat) (xs : List Int) (w : World) (h : In w A c xs) :
    Calls Try.prog 27 #[.slice A xs.length c] w (RetNb w (conG1 xs) (conG2 xs) (permB xs)) := by
  have hl := h.len
  by_cases hp : permB xs = true
  · have H1 := Lib.hid (show conG1 xs = xs by unfold conG1; rw [if_pos hp])
    have H2 := Lib.hid (show conG2 xs = idL (xs.length - 1) by unfold conG2; rw [if_pos hp])
    have h8 := (permB_true hp).1
    have HP := Lib.hid hp
    clear hp
    go_enter Try.func27, Try.ntmps27
    have hb0 : Below w.heap.size w (w.alloc (Obj.cells #[Value.slice none 0 0, Value.slice none 0 0] 31)) := (Below.refl _ _).alloc (Nat.le_refl _) _
    go_wp2_with fail
    have ob := obj_new w (Obj.cells #[Value.slice none 0 0, Value.slice none 0 0] 31)
    have hlt0 : w.heap.size < (w.alloc (Obj.cells #[Value.slice none 0 0, Value.slice none 0 0] 31)).heap.size := by simp
    generalize (w.alloc (Obj.cells #[Value.slice none 0 0, Value.slice none 0 0] 31)) = w0 at hb0 ob hlt0 ⊢
    (with_reducible refine (isPerm_impl A c xs _ (h.next hb0)).mono ?_)
    rintro e w1 ⟨rfl, hb1⟩
    rw [HP.out]
    have ob := obj_below ob hb1 (obj_lt ob)
    have hb := hb0.trans (hb1.mono hb0.size)
    go_wp2_with fail
    (with_reducible refine (clone_any A c xs _ (h.next hb)).mono ?_)
    rintro e w2 ⟨A2, c2, rfl, _, _, own2, hb2⟩
    have ob := obj_below ob hb2 (obj_lt ob)
    have hb' := hb.trans (hb2.mono hb.size)
    have e1 : IntKind.i64.wrap ((xs.length : Int) - 1) = (xs.length : Int) - 1 := IntWalk.i64_in _ (by omega)
    go_wp2_with fail
    all_goals
      (with_reducible refine (identity_i _ (xs.length - 1) _ (by omega) (by omega)).mono ?_)
      rintro e w3 ⟨A3, c3, rfl, _, _, own3, hb3⟩
      have ob := obj_below ob hb3 (obj_lt ob)
      have g0 : w3.cell? ⟨w.heap.size, 0, none⟩ = some (Value.slice none 0 0) := (obj_cell ob).trans rfl
      have g1 : w3.cell? ⟨w.heap.size, 1, none⟩ = some (Value.slice none 0 0) := (obj_cell ob).trans rfl
      have g2 : w3.frozen? ⟨w.heap.size, 0, none⟩ = false := obj_frozen ob
      have g3 : w3.frozen? ⟨w.heap.size, 1, none⟩ = false := obj_frozen ob
      have o2 := obj_set (i := 1) (obj_set (i := 0) ob (Value.slice A2 xs.length c2)) (Value.slice A3 (idL (xs.length - 1)).length c3)
      have hsp : Span w.heap.size w0.heap.size w3 ((w3.setCell ⟨w.heap.size, 0, none⟩ (Value.slice A2 xs.length c2)).setCell ⟨w.heap.size, 1, none⟩ (Value.slice A3 (idL (xs.length - 1)).length c3)) :=
        (Span.set (p := ⟨w.heap.size, 0, none⟩) (Nat.le_refl _) hlt0 _).trans (Span.set (p := ⟨w.heap.size, 1, none⟩) (Nat.le_refl _) hlt0 _)
      have s1 := hb1.size
      have s2 := hb2.size
      have s3 := hb3.size
      have own := (Own.two (lo := w1.heap.size) own2 own3 hb3 (Nat.le_refl _) hb2.size).span hsp (.inr hb1.size)
      have hb3' := hb'.trans (hb3.mono hb'.size)
      have hb4 := (hb3'.setCell (p := ⟨w.heap.size, 0, none⟩) (Nat.le_refl _) (Value.slice A2 xs.length c2)).setCell (p := ⟨w.heap.size, 1, none⟩) (Nat.le_refl _) (Value.slice A3 (idL (xs.length - 1)).length c3)
      have hq := hb.size
      have hq2 := hsp.size
      have l0 := (obj_cell (i := 0) o2).trans rfl
      have l1 := (obj_cell (i := 1) o2).trans rfl
      clear hsp
      go_wp2_with fail
      refine bodyPost_ret (v := .tuple #[.agg #[.slice A2 xs.length c2, .slice A3 (idL (xs.length - 1)).length c3], .bool true]) (by simp [results, Try.results27, go_sem, l0, l1]) rfl ?_
      rw [H1.out, H2.out, HP.out]
      exact ⟨_, _, _, _, rfl, own.wider (by omega) (by omega), hb4⟩
  · have hpf : permB xs = false := by simpa using hp
    have H1 := Lib.hid (show conG1 xs = [] by unfold conG1; rw [hpf]; rfl)
    have H2 := Lib.hid (show conG2 xs = [] by unfold conG2; rw [hpf]; rfl)
    have HP := Lib.hid hpf
    clear hp hpf
    go_enter Try.func27, Try.ntmps27
    have hb0 : Below w.heap.size w (w.alloc (Obj.cells #[Value.slice none 0 0, Value.slice none 0 0] 31)) := (Below.refl _ _).alloc (Nat.le_refl _) _
    go_wp2_with fail
    have ob := obj_new w (Obj.cells #[Value.slice none 0 0, Value.slice none 0 0] 31)
    generalize (w.alloc (Obj.cells #[Value.slice none 0 0, Value.slice none 0 0] 31)) = w0 at hb0 ob ⊢
    (with_reducible refine (isPerm_impl A c xs _ (h.next hb0)).mono ?_)
    rintro e w1 ⟨rfl, hb1⟩
    rw [HP.out]
    have ob := obj_below ob hb1 (obj_lt ob)
    have hb := hb0.trans (hb1.mono hb0.size)
    have g0 : w1.cell? ⟨w.heap.size, 0, none⟩ = some (Value.slice none 0 0) := (obj_cell ob).trans rfl
    have g1 : w1.cell? ⟨w.heap.size, 1, none⟩ = some (Value.slice none 0 0) := (obj_cell ob).trans rfl
    have g2 : w1.frozen? ⟨w.heap.size, 0, none⟩ = false := obj_frozen ob
    have g3 : w1.frozen? ⟨w.heap.size, 1, none⟩ = false := obj_frozen ob
    have o2 := obj_set (i := 1) (obj_set (i := 0) ob (Value.slice none 0 0)) (Value.slice none 0 0)
    have hb4 := (hb.setCell (p := ⟨w.heap.size, 0, none⟩) (Nat.le_refl _) (Value.slice none 0 0)).setCell (p := ⟨w.heap.size, 1, none⟩) (Nat.le_refl _) (Value.slice none 0 0)
    have l0 := (obj_cell (i := 0) o2).trans rfl
    have l1 := (obj_cell (i := 1) o2).trans rfl
    go_wp2_with fail
    refine bodyPost_ret (v := .tuple #[.agg #[.slice none 0 0, .slice none 0 0], .bool false]) (by simp [results, Try.results27, go_sem, l0, l1]) rfl ?_
    rw [H1.out, H2.out, HP.out]
    exact ⟨_, _, _, _, rfl, own_nilrow _ _ _, hb4⟩

set_option maxHeartbeats 2000000 in
theorem consecutive_spec (A : Option Addr) (c : Nat) (xs : List Int) (w : World) (h : In w A c xs) :
    Calls Try.prog 26 #[.slice A xs.length c] w (RetNb w (conG1 xs) (conG2 xs) (permB xs)) := by
  obtain ⟨i0, hi, hz0, hz1, hz2⟩ := info_parts infoI
  have hl := h.len
  have hlt0 : w.heap.size < (w.alloc (Obj.cells #[Value.slice none 0 0, Value.slice none 0 0] 31)).heap.size := by simp
  have hb0 : Below w.heap.size w (w.alloc (Obj.cells #[Value.slice none 0 0, Value.slice none 0 0] 31)) := (Below.refl _ _).alloc (Nat.le_refl _) _
  have ob := obj_new w (Obj.cells #[Value.slice none 0 0, Value.slice none 0 0] 31)
  go_enter Try.func26, Try.ntmps26
  go_wp2_with fail
  generalize (w.alloc (Obj.cells #[Value.slice none 0 0, Value.slice none 0 0] 31)) = w0 at hb0 ob hlt0 ⊢
  (with_reducible refine (isPerm_spec A c xs _ (h.next hb0)).mono ?_)
  rintro e wp ⟨rfl, hd1⟩
  have ob := obj_dr ob hd1
  have hb := below_dr hb0 hd1
  have hs1 : wp.heap.size = w0.heap.size := by rw [hd1.heap]
  by_cases hp : permB xs = true
  · have H1 := Lib.hid (show conG1 xs = xs by unfold conG1; rw [if_pos hp])
    have H2 := Lib.hid (show conG2 xs = idL (xs.length - 1) by unfold conG2; rw [if_pos hp])
    have h8 := (permB_true hp).1
    have HP := Lib.hid hp
    rw [hp]
    clear hp
    have hown0 : (wp.alloc (.cells #[] 3)).ownsRow wp.heap.size 3 1 (.slice (some ⟨wp.heap.size, 0, none⟩) 0 0) 0 [] := World.ownsRow_lit wp #[] 0 (Nat.le_refl _) (by unfold maxLen; omega) rfl
    have hb1 := hb.alloc (by omega) (.cells #[] 3)
    have hx0 := (h.next hb).rd.alloc (Nat.le_refl _) (.cells #[] 3)
    have ob := obj_alloc ob (.cells #[] 3)
    have HS1 := Lib.hid hs1
    clear hs1
    go_wp2_with ((at_builtin; refine wpList_append_rd _ rfl _ _ 22 rfl (wp.heap.size) 3 i0 (.int .i64 0) 8 Try.underlying22 hi hz0 hz1 hz2 rfl _ _ _ rfl hown0 _ _ _ _ (xs) rfl rfl hx0 (fun _ => rfl) (by unfold maxLen; omega) (by omega) (by first | omega | (simp; done) | (simp; omega)) ?_; intro v1 w1 hown1 hgrow1); simp only [Nat.zero_add, List.nil_append] at hown1; obtain ⟨A1, c1, rfl, q1, q2⟩ := own_shape hown1)
    have hs1 := HS1.out
    have hb2 := hb1.grown hgrow1 (by simp; omega) (by intro g hg; have := (hown0.lt g hg).1; omega)
    have ob : w1.heap[w.heap.size]? = some (Obj.cells #[Value.slice none 0 0, Value.slice none 0 0] 31) :=
      (hgrow1.block _ (obj_lt ob) (by intro he; have := (hown0.lt _ he.symm).1; omega)).trans ob
    have hsz1 : wp.heap.size ≤ w1.heap.size := by have := hgrow1.size; simp at this; omega
    have hb3 := hb2.alloc (by omega) (Obj.cells #[Value.slice A1 xs.length c1, Value.slice none 0 0] 31)
    have ob3 := obj_alloc ob (Obj.cells #[Value.slice A1 xs.length c1, Value.slice none 0 0] 31)
    have oc := obj_new w1 (Obj.cells #[Value.slice A1 xs.length c1, Value.slice none 0 0] 31)
    have hown3 := hown1.alloc (Obj.cells #[Value.slice A1 xs.length c1, Value.slice none 0 0] 31)
    have hs3 : (w1.alloc (Obj.cells #[Value.slice A1 xs.length c1, Value.slice none 0 0] 31)).heap.size = w1.heap.size + 1 := by simp
    have lA0 := fun q hq => (hown1.lt q hq).2
    clear hgrow1 hown1 ob hb2 hx0 hown0 hb1
    generalize (w1.alloc (Obj.cells #[Value.slice A1 xs.length c1, Value.slice none 0 0] 31)) = w2 at hb3 ob3 oc hown3 hs3 ⊢
    obtain ⟨g, hg⟩ : ∃ g, g = w1.heap.size := ⟨_, rfl⟩
    rw [← hg] at oc hs3 hsz1 ⊢
    have hgw : w.heap.size < g := by omega
    have hwp : w.heap.size < wp.heap.size := by omega
    have lA : ∀ q, (Value.slice A1 xs.length c1).ownBlock = some q → q < g := by rw [hg]; exact lA0
    have hH3 := Lib.hid hs3
    clear hg hs1 HS1
    go_loopw [5] (fun i wr => ∃ (m : Nat) (B : Option Addr) (kk : Nat), (m + 1 ≤ xs.length ∨ m = 0) ∧ i = .int .i64 ((m : Int) + 1) ∧ wr.heap[g]? = some (Obj.cells #[Value.slice A1 xs.length c1, Value.slice B m kk] 31) ∧
      wr.heap[w.heap.size]? = some (Obj.cells #[Value.slice none 0 0, Value.slice none 0 0] 31) ∧ wr.ownsRow wp.heap.size 3 1 (.slice A1 xs.length c1) xs.length (xs.map (Value.int .i64)) ∧
      wr.ownsRow w2.heap.size 3 1 (.slice B m kk) m ((idL m).map (Value.int .i64)) ∧ Below w.heap.size w wr ∧ w2.heap.size ≤ wr.heap.size) (fun i _ => xs.length - (intOf i).toNat)
    case atStart => exact ⟨0, none, 0, .inr rfl, rfl, oc, ob3, hown3, World.ownsRow_nil _ _ _ _, hb3, Nat.le_refl _⟩
    case round =>
      clear oc ob3 hown3 hb3 hs3
      obtain ⟨m, B, kk, hm, rfl, og, or, hA, hB, hbw, hsw⟩ := hrel
      have f1 : wr.cell? ⟨g, 1, none⟩ = some (Value.slice B m kk) := (obj_cell og).trans rfl
      by_cases hlt : m + 1 < xs.length
      · have HS := Lib.hid (idL_succ m)
        go_wp2_with ((at_builtin; refine wpList_append_own _ rfl _ _ 22 rfl (w2.heap.size) 3 i0 (.int .i64 0) 1 8 Try.underlying22 hi hz0 hz1 hz2 rfl (by decide) _ _ _ rfl (World.ownsRow.alloc hB _) ⟨wr.heap.size, 0, none⟩ 1 1 [.int .i64 ((m : Int) + 1)] rfl rfl (cell_one_new _ _ _) (by intro u hu; simp at hu; subst hu; rfl) (by unfold maxLen; omega) (by omega) (by simp; omega) ?_; intro v1 w1 hown1 hgrow1 _); obtain ⟨B1, k1, rfl, q3, q4⟩ := own_shape hown1; have og1 := (hgrow1.block g (obj_lt (obj_alloc og _)) (by intro he; have := (hB.lt _ he.symm).1; have := hH3.out; omega)).trans (obj_alloc og _); have or1 := (hgrow1.block w.heap.size (obj_lt (obj_alloc or _)) (by intro he; have := (hB.lt _ he.symm).1; have := hH3.out; omega)).trans (obj_alloc or _); have f2 : w1.cell? ⟨g, 1, none⟩ = some (Value.slice B m kk) := (obj_cell og1).trans rfl; have f3 : w1.frozen? ⟨g, 1, none⟩ = false := obj_frozen og1)
        have s3 := hH3.out
        have hA1 := (hA.alloc _).kept hgrow1 (own_off lA (fun q hq => by have := (hB.lt q hq).1; omega))
        have hsp : Span g (g + 1) w1 (w1.setCell ⟨g, 1, none⟩ (Value.slice B1 (m + 1) k1)) := Span.set (p := ⟨g, 1, none⟩) (Nat.le_refl _) (Nat.lt_succ_self _) _
        have hA2 := own_span hA1 hsp (fun q hq => by have := lA q hq; omega)
        have hB1 : w1.ownsRow w2.heap.size 3 1 (.slice B1 (m + 1) k1) (m + 1) ((idL (m + 1)).map (Value.int .i64)) := by rw [HS.out]; simpa using hown1
        have hB2 := own_span hB1 hsp (fun q hq => by have := (hB1.lt q hq).1; omega)
        have hb5 := (((hbw.alloc hbw.size _).grown hgrow1 (by have := hbw.size; simp; omega) (by intro q hq; have := (hB.lt q hq).1; omega)).setCell (p := ⟨g, 1, none⟩) (by simp; omega) (Value.slice B1 (m + 1) k1))
        have og2 := obj_set (i := 1) og1 (Value.slice B1 (m + 1) k1)
        have or2 := obj_other (g' := g) (i := 1) or1 (by omega) (Value.slice B1 (m + 1) k1)
        have hs5 : w2.heap.size ≤ (w1.setCell ⟨g, 1, none⟩ (Value.slice B1 (m + 1) k1)).heap.size := by have := hgrow1.size; simp [World.setCell] at this ⊢; omega
        have K := Lib.hid (And.intro og2 (And.intro or2 (And.intro hA2 (And.intro hB2 (And.intro hb5 hs5)))))
        clear og2 or2 hA2 hB2 hb5 hs5 hsp hA1 hB1 hown1 hgrow1 og1 or1 f2 f3 f1 hA hB og or hbw s3
        go_wp2
        go_roundw
        case rel => exact ⟨m + 1, B1, k1, .inl (by omega), by go_num, K.out.1, K.out.2.1, K.out.2.2.1, K.out.2.2.2.1, K.out.2.2.2.2.1, K.out.2.2.2.2.2⟩
        case measure => simp [intOf]; omega
      · have f0 : wr.cell? ⟨g, 0, none⟩ = some (Value.slice A1 xs.length c1) := (obj_cell og).trans rfl
        have g0 : wr.cell? ⟨w.heap.size, 0, none⟩ = some (Value.slice none 0 0) := (obj_cell or).trans rfl
        have g1 : wr.cell? ⟨w.heap.size, 1, none⟩ = some (Value.slice none 0 0) := (obj_cell or).trans rfl
        have g2 : wr.frozen? ⟨w.heap.size, 0, none⟩ = false := obj_frozen or
        have g3 : wr.frozen? ⟨w.heap.size, 1, none⟩ = false := obj_frozen or
        have o2 := obj_set (i := 1) (obj_set (i := 0) or (Value.slice A1 xs.length c1)) (Value.slice B m kk)
        have s3 := hH3.out
        have hsp : Span w.heap.size (w.heap.size + 1) wr ((wr.setCell ⟨w.heap.size, 0, none⟩ (Value.slice A1 xs.length c1)).setCell ⟨w.heap.size, 1, none⟩ (Value.slice B m kk)) :=
          (Span.set (p := ⟨w.heap.size, 0, none⟩) (Nat.le_refl _) (Nat.lt_succ_self _) _).trans (Span.set (p := ⟨w.heap.size, 1, none⟩) (Nat.le_refl _) (Nat.lt_succ_self _) _)
        have hB' : wr.ownsRow w2.heap.size 3 1 (.slice B (idL m).length kk) (idL m).length ((idL m).map (Value.int .i64)) := by rw [idL_length]; exact hB
        have own : Own wr wp.heap.size wr.heap.size [⟨A1, c1, xs⟩, ⟨B, kk, idL m⟩] [] :=
          ((Own.one hA (Nat.le_refl _)).lim g (fun r hr => by obtain rfl := List.mem_singleton.1 hr; exact lA) ).app ((Own.one hB' (Nat.le_refl _)).wider (by omega) (Nat.le_refl _)) (by omega) (by omega)
        have own := (own.span hsp (.inr (by omega)))
        have hb4 := (hbw.setCell (p := ⟨w.heap.size, 0, none⟩) (Nat.le_refl _) (Value.slice A1 xs.length c1)).setCell (p := ⟨w.heap.size, 1, none⟩) (Nat.le_refl _) (Value.slice B m kk)
        have l0 := (obj_cell (i := 0) o2).trans rfl
        have l1 := (obj_cell (i := 1) o2).trans rfl
        have hq2 := hsp.size
        clear hsp
        go_wp2_with fail
        refine bodyPost_ret (v := .tuple #[.agg #[.slice A1 xs.length c1, .slice B m kk], .bool true]) (by simp [results, Try.results26, go_sem, l0, l1]) rfl ?_
        have hm1 : m = xs.length - 1 := by omega
        rw [H1.out, H2.out, HP.out, ← hm1]
        exact ⟨_, _, _, _, by rw [idL_length], own.wider (by omega) (by omega), hb4⟩
  · have hpf : permB xs = false := by simpa using hp
    have H1 := Lib.hid (show conG1 xs = [] by unfold conG1; rw [hpf]; rfl)
    have H2 := Lib.hid (show conG2 xs = [] by unfold conG2; rw [hpf]; rfl)
    have HP := Lib.hid hpf
    rw [hpf]
    clear hp hpf hs1
    have g0 : wp.cell? ⟨w.heap.size, 0, none⟩ = some (Value.slice none 0 0) := (obj_cell ob).trans rfl
    have g1 : wp.cell? ⟨w.heap.size, 1, none⟩ = some (Value.slice none 0 0) := (obj_cell ob).trans rfl
    have g2 : wp.frozen? ⟨w.heap.size, 0, none⟩ = false := obj_frozen ob
    have g3 : wp.frozen? ⟨w.heap.size, 1, none⟩ = false := obj_frozen ob
    have o2 := obj_set (i := 1) (obj_set (i := 0) ob (Value.slice none 0 0)) (Value.slice none 0 0)
    have hb4 := (hb.setCell (p := ⟨w.heap.size, 0, none⟩) (Nat.le_refl _) (Value.slice none 0 0)).setCell (p := ⟨w.heap.size, 1, none⟩) (Nat.le_refl _) (Value.slice none 0 0)
    have l0 := (obj_cell (i := 0) o2).trans rfl
    have l1 := (obj_cell (i := 1) o2).trans rfl
    go_wp2_with fail
    refine bodyPost_ret (v := .tuple #[.agg #[.slice none 0 0, .slice none 0 0], .bool false]) (by simp [results, Try.results26, go_sem, l0, l1]) rfl ?_
    rw [H1.out, H2.out, HP.out]
    exact ⟨_, _, _, _, rfl, own_nilrow _ _ _, hb4⟩
end Go.Proofs.Ytgodlofkilgfjaa
