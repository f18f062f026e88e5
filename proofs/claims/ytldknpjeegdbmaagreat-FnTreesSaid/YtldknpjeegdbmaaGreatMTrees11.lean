/- Several texts in one, each with its own head: TI3. No program of ours. -/
import Derived.Deep.RegionHeld3
import Derived.Test.YtldknpjeegdbmaaGreatMTrees10
/- The split of the program. Written by gen/gents10.py. -/
namespace Go.Proofs.YtldknpjeegdbmaaGreat
set_option maxRecDepth 100000
open Go Go.RowKit

/-- A root, a first part and a rest of the call's own. -/
theorem Own.three {W : World} {lo m R O a b cR : Nat} {r0 rest : Row} {x y : Int} (h0 : Own W lo m [r0] []) (hm : lo ≤ m) (hmR : m ≤ R) (hma : m ≤ a) (hR : W.heap[R]? = some (Obj.cells #[.int .i64 x, .int .i64 y] 3 (0, 0))) (hcR : cR = 2)
    (hJ : W.ownsRow a 3 1 rest.v rest.xs.length (rest.xs.map (Value.int .i64))) (hJb : ∀ g, rest.v.ownBlock = some g → g < b) (hRJ : R < a ∨ b ≤ R) (hO : W.heap[O]? = some (Obj.cells #[r0.v, rest.v] 24 (0, 0))) (hlO : lo ≤ O) :
    Own W lo W.heap.size (⟨some ⟨R, 0, none⟩, cR, [x, y]⟩ :: [r0, rest]) [⟨some ⟨O, 0, none⟩, 2, [r0, rest].map Row.v⟩] := by
  subst hcR
  have hRl := obj_lt hR
  have hOl := obj_lt hO
  have hJl := fun g hg => (hJ.lt g hg)
  have hr0 := h0.rows r0 (by simp)
  have h0l := h0.lt r0 (by simp)
  have hro : W.ownsRow lo 3 1 (Row.v ⟨some ⟨R, 0, none⟩, 2, [x, y]⟩) [x, y].length ([x, y].map (Value.int .i64)) := own_lit2 hR (by omega)
  have hrows : ∀ r ∈ ([⟨some ⟨R, 0, none⟩, 2, [x, y]⟩, r0, rest] : List Row), W.ownsRow lo 3 1 r.v r.xs.length (r.xs.map (Value.int .i64)) := fun r hr => by
    simp only [List.mem_cons, List.not_mem_nil, or_false] at hr
    rcases hr with rfl | rfl | rfl
    · exact hro
    · exact hr0
    · exact own_mono hJ (by omega)
  have hap : ([⟨some ⟨R, 0, none⟩, 2, [x, y]⟩, r0, rest] : List Row).Pairwise fun r s => r.v.ownBlock = none ∨ r.v.ownBlock ≠ s.v.ownBlock := by
    refine List.Pairwise.cons (fun s hs => ?_) (List.Pairwise.cons (fun s hs => ?_) (List.pairwise_singleton _ _))
    · simp only [List.mem_cons, List.not_mem_nil, or_false] at hs
      refine .inr fun e => ?_
      have e : some R = s.v.ownBlock := e
      rcases hs with rfl | rfl
      · have := h0l R e.symm; omega
      · have h1 := (hJl R e.symm).1; have h2 := hJb R e.symm; omega
    · rw [List.mem_singleton] at hs
      subst hs
      rcases hb : r0.v.ownBlock with _ | g
      · exact .inl rfl
      · refine .inr fun e => ?_
        have h1 := h0l g hb
        have h2 := (hJl g e.symm).1
        omega
  have hbare : Own W lo W.heap.size [⟨some ⟨R, 0, none⟩, 2, [x, y]⟩, r0, rest] [] := ⟨hrows, fun r hr g hg => (hrows r hr |>.lt g hg).2, hap, fun _ ho => (List.not_mem_nil ho).elim, fun _ ho => (List.not_mem_nil ho).elim⟩
  exact hbare.with_ ⟨rfl, .inr ⟨O, 2, _, rfl, hlO, hO, Nat.le_refl _, by unfold maxLen; omega, rfl, rfl⟩⟩ (Nat.le_refl _)
set_option maxHeartbeats 8000000 in
theorem split_impl (A : Option Addr) (c : Nat) (p : List Int) (w : World) (h : In w A c p) (hp : permB p = true) (h0 : p ≠ []) :
    Calls Tryz.prog 29 #[.slice A p.length c] w (RetS w (splitR p) (splitP p)) := by
  obtain ⟨i0, hi, hz0, hz1, hz2⟩ := info_parts infoI
  obtain ⟨j0, hj, hy0, hy1, hy2⟩ := info_parts infoL
  have HP := Lib.hid hp
  have hl8 := (permB_true hp).1
  have hl0 := len_pos h0
  have hb0 : Below w.heap.size w (w.alloc (Obj.cells #[Value.slice none 0 0, Value.slice none 0 0] 28)) := (Below.refl _ _).alloc (Nat.le_refl _) _
  have ob := obj_new w (Obj.cells #[Value.slice none 0 0, Value.slice none 0 0] 28)
  have hz : (w.alloc (Obj.cells #[Value.slice none 0 0, Value.slice none 0 0] 28)).heap.size = w.heap.size + 1 := by simp
  by_cases h1 : p.length = 1
  case pos =>
    have HE := Lib.hid (split_eq1 h1)
    have d1 : ((p.length : Int) == 1) = true := by rw [h1]; rfl
    have hbF : Below w.heap.size w (w.alloc (Obj.cells #[Value.slice (some ⟨w.heap.size + 1, 0, none⟩) 1 1, Value.slice (some ⟨w.heap.size + 1 + 1 + 1, 0, none⟩) 1 1] 28)) := (Below.refl _ _).alloc (Nat.le_refl _) _
    have obF := obj_new w (Obj.cells #[Value.slice (some ⟨w.heap.size + 1, 0, none⟩) 1 1, Value.slice (some ⟨w.heap.size + 1 + 1 + 1, 0, none⟩) 1 1] 28)
    have hbA := ((hbF.alloc hbF.size (Obj.cells #[Value.int .i64 1] 3)).alloc (by simp; omega) (Obj.cells #[Value.int .i64 1] 3)).alloc (by simp; omega) (Obj.cells #[Value.slice (some ⟨w.heap.size + 1 + 1, 0, none⟩) 1 1] 24)
    have obA := obj_alloc (obj_alloc (obj_alloc obF (Obj.cells #[Value.int .i64 1] 3)) (Obj.cells #[Value.int .i64 1] 3)) (Obj.cells #[Value.slice (some ⟨w.heap.size + 1 + 1, 0, none⟩) 1 1] 24)
    have or1 := obj_alloc (obj_alloc (obj_new (w.alloc (Obj.cells #[Value.slice (some ⟨w.heap.size + 1, 0, none⟩) 1 1, Value.slice (some ⟨w.heap.size + 1 + 1 + 1, 0, none⟩) 1 1] 28)) (Obj.cells #[Value.int .i64 1] 3)) (Obj.cells #[Value.int .i64 1] 3)) (Obj.cells #[Value.slice (some ⟨w.heap.size + 1 + 1, 0, none⟩) 1 1] 24)
    have or2 := obj_alloc (obj_new ((w.alloc (Obj.cells #[Value.slice (some ⟨w.heap.size + 1, 0, none⟩) 1 1, Value.slice (some ⟨w.heap.size + 1 + 1 + 1, 0, none⟩) 1 1] 28)).alloc (Obj.cells #[Value.int .i64 1] 3)) (Obj.cells #[Value.int .i64 1] 3)) (Obj.cells #[Value.slice (some ⟨w.heap.size + 1 + 1, 0, none⟩) 1 1] 24)
    have or3 := obj_new (((w.alloc (Obj.cells #[Value.slice (some ⟨w.heap.size + 1, 0, none⟩) 1 1, Value.slice (some ⟨w.heap.size + 1 + 1 + 1, 0, none⟩) 1 1] 28)).alloc (Obj.cells #[Value.int .i64 1] 3)).alloc (Obj.cells #[Value.int .i64 1] 3)) (Obj.cells #[Value.slice (some ⟨w.heap.size + 1 + 1, 0, none⟩) 1 1] 24)
    simp only [World.size_alloc] at or1 or2 or3
    clear hp h0
    go_enter Tryz.func29, Tryz.ntmps29
    obtain ⟨W, hW⟩ : ∃ W, W = (((w.alloc (Obj.cells #[Value.slice (some ⟨w.heap.size + 1, 0, none⟩) 1 1, Value.slice (some ⟨w.heap.size + 1 + 1 + 1, 0, none⟩) 1 1] 28)).alloc (Obj.cells #[Value.int .i64 1] 3)).alloc (Obj.cells #[Value.int .i64 1] 3)).alloc (Obj.cells #[Value.slice (some ⟨w.heap.size + 1 + 1, 0, none⟩) 1 1] 24) := ⟨_, rfl⟩
    have hWs : W.heap.size = w.heap.size + 1 + 1 + 1 + 1 := by rw [hW]; simp
    rw [← hW] at hbA obA or1 or2 or3
    have r1 := Own.one (own_litN (lo := w.heap.size + 1) or1 (Nat.le_refl _)) (Nat.le_refl _)
    have r1 : Own W (w.heap.size + 1) (w.heap.size + 1 + 1) [⟨some ⟨w.heap.size + 1, 0, none⟩, 1, [1]⟩] [] := r1.lim _ (fun r hr q hq => by
      obtain rfl := List.mem_singleton.1 hr
      have hq : some (w.heap.size + 1) = some q := hq
      injection hq with hq; omega)
    have r2 : Own W (w.heap.size + 1) W.heap.size ([⟨some ⟨w.heap.size + 1, 0, none⟩, 1, [1]⟩] ++ [(⟨some ⟨w.heap.size + 1 + 1, 0, none⟩, 1, [1]⟩ : Row)]) [] := r1.add (own_litN (lo := w.heap.size + 1 + 1) or2 (Nat.le_refl _)) (by omega) (by omega)
    have hrow : Own W (w.heap.size + 1) W.heap.size (⟨some ⟨w.heap.size + 1, 0, none⟩, 1, [1]⟩ :: [(⟨some ⟨w.heap.size + 1 + 1, 0, none⟩, 1, [1]⟩ : Row)]) [⟨some ⟨w.heap.size + 1 + 1 + 1, 0, none⟩, 1, [(⟨some ⟨w.heap.size + 1 + 1, 0, none⟩, 1, [1]⟩ : Row)].map Row.v⟩] :=
      r2.with_ ⟨rfl, .inr ⟨w.heap.size + 1 + 1 + 1, 1, _, rfl, by omega, or3, Nat.le_refl _, by unfold maxLen; omega, rfl, rfl⟩⟩ (Nat.le_refl _)
    have hOF := Lib.hid (hrow.wider (lo' := w.heap.size) (by omega) (Nat.le_refl _))
    have hBF := Lib.hid hbA
    have l0 := (obj_cell (i := 0) obA).trans rfl
    have l1 := (obj_cell (i := 1) obA).trans rfl
    clear hrow r1 r2 hbA obA or1 or2 or3 hWs hbF obF
    subst hW
    go_wp2_with fail
    try simp only [Exit.inBlock, Exit.then]
    refine bodyPost_ret (v := .agg #[.slice (some ⟨w.heap.size + 1, 0, none⟩) 1 1, .slice (some ⟨w.heap.size + 1 + 1 + 1, 0, none⟩) 1 1]) (by simp [results, Tryz.results29, go_sem, l0, l1]) rfl ?_
    rw [HE.out.1, HE.out.2]
    exact ⟨_, _, _, _, [⟨some ⟨w.heap.size + 1 + 1, 0, none⟩, 1, [1]⟩], rfl, rfl, hOF.out, hBF.out⟩
  have d1 : ((p.length : Int) == 1) = false := by rw [beq_eq_false_iff_ne]; omega
  clear h0
  have H1 := Lib.hid h1
  clear h1 hp
  go_enter Tryz.func29, Tryz.ntmps29
  have HC := Lib.hid (sumRows_impl A c p _ (h.next hb0) HP.out)
  go_wp2_with fail
  generalize (w.alloc (Obj.cells #[Value.slice none 0 0, Value.slice none 0 0] 28)) = w0 at hb0 ob hz HC ⊢
  (with_reducible refine HC.out.mono ?_)
  rintro e w1 ⟨S, sk, ss, rfl, hX, hOs, hb1⟩
  have HX := Lib.hid (show ss.map Row.xs = sumL p by exact hX)
  have ob := obj_below ob hb1 (obj_lt ob)
  have hbw := hb0.trans (hb1.mono hb0.size)
  have hs1 := hb1.size
  have HSZ := Lib.hid (sum_size HP.out HX.out)
  have hsl : (sumL p).length = ss.length := by rw [← HX.out, List.length_map]
  clear HC hX hb1 hb0
  by_cases h2 : 1 < ss.length
  case pos =>
    have HE := Lib.hid (split_eq2 HP.out H1.out (by rw [hsl]; exact h2))
    have d2 : decide ((ss.length : Int) > 1) = true := decide_eq_true (by omega)
    have d3 : decide (1 < (ss.length : Int)) = true := decide_eq_true (by omega)
    clear hsl
    obtain ⟨r0, t, rfl, iss⟩ := rows_cons hOs (Nat.le_refl _) HSZ.out h2
    have h2' : 1 < t.length + 1 := h2
    have d4 : decide (1 < (t.length : Int) + 1) = true := decide_eq_true (by omega)
    have d5 : decide ((t.length : Int) + 1 > 1) = true := decide_eq_true (by omega)
    have HTT := Lib.hid (show headP (sumL p) = r0.xs ∧ (sumL p).tail = t.map Row.xs by rw [← HX.out]; exact ⟨rfl, rfl⟩)
    have HJP := Lib.hid (show jpB false (t.map Row.xs) = true by rw [← HTT.out.2]; exact tail_jp HP.out (sum_join HP.out) (sumL_perm HP.out))
    have hcap := iss.read.ocap _ (List.mem_singleton.2 rfl)
    simp only [List.length_map, List.length_cons] at hcap
    have hsl := fun w => run_cut (P := Tryz.prog) (t := 26) Tryz.underlying26 sizeLL S (t.length + 1) sk 1 1 rfl (by omega) w
    have h0r : Own w1 (w.heap.size + 1) w1.heap.size [r0] [] := (hOs.bare.sub (List.Sublist.cons_cons r0 (List.nil_sublist t))).wider (by omega) (Nat.le_refl _)
    obtain ⟨bo, oo, rfl, hbo, hc⟩ := iss.read.at (by simp)
    have cc := hc 0 (by simp)
    simp only [List.getElem_cons_zero, Nat.add_zero] at cc
    obtain ⟨M, hM⟩ : ∃ M, M = w1.heap.size := ⟨_, rfl⟩
    have HMM := Lib.hid hM
    have hMW : M ≤ w1.heap.size := by omega
    rw [← hM] at hbo h0r
    have hMw : w.heap.size + 1 ≤ M := by omega
    obtain ⟨r0l, hr0l⟩ : ∃ n, n = r0.xs.length := ⟨_, rfl⟩
    have HRL := Lib.hid hr0l
    have cc : w1.drew.cell? ⟨bo, oo, none⟩ = some (Value.slice r0.A r0l r0.c) := by rw [hr0l]; exact cc
    obtain ⟨rA, hrA⟩ : ∃ x, x = r0.A := ⟨_, rfl⟩
    obtain ⟨rc, hrc⟩ : ∃ x, x = r0.c := ⟨_, rfl⟩
    have HRV := Lib.hid (show r0.v = Value.slice rA r0l rc by rw [hrA, hrc, hr0l]; rfl)
    rw [← hrA, ← hrc] at cc
    have ob : w1.drew.heap[w.heap.size]? = some (Obj.cells #[Value.slice none 0 0, Value.slice none 0 0] 28) := ob
    have h0r := h0r.dr (Dr.refl w1).drew
    have il := (iss.tail).dr (Dr.refl w1).drew
    have hb := below_dr hbw (Dr.refl w1).drew
    have hMs : M ≤ w1.drew.heap.size := by rw [hM]; exact Nat.le_refl _
    have HBO := Lib.hid (show w.heap.size + 1 ≤ bo ∧ bo < M from ⟨by have hlow := (hOs.out.lt bo (by rfl)).1; omega, hbo⟩)
    clear hOs hc iss hbw hM hr0l hrA hrc
    go_wp2_with fail
    refine wp_region_held_drew (S := (fun v => v.cell? ⟨bo, oo, none⟩ = some (Value.slice rA r0l rc))) (by kernel_rfl) cc (fun hHeld => ?_)
    refine wpAnyH_take (i := 1) (oi := _) (v := ?_) rfl (by kernel_rfl) (by kernel_rfl) (by kernel_rfl) (fun _ _ _ h => h) (Or.inl ⟨by rfl, ?_⟩) (by assumption) ?_
    rotate_left
    · intro w hSw
      try dsimp only at hSw
      go_simp
      all_goals with_reducible rfl
    try simp only [Act.put, List.setIfInBounds_toArray, List.set_cons_zero, List.set_cons_succ, List.getElem_toArray, List.getElem_cons_succ, List.getElem_cons_zero]
    refine wpAnyH_take (i := 2) (oi := _) (v := ?_) rfl (by kernel_rfl) (by kernel_rfl) (by kernel_rfl) (fun _ _ _ h => h) (Or.inl ⟨by rfl, ?_⟩) (by assumption) ?_
    rotate_left
    · intro w hSw
      try dsimp only at hSw
      go_simp
      all_goals with_reducible rfl
    try simp only [Act.put, List.setIfInBounds_toArray, List.set_cons_zero, List.set_cons_succ, List.getElem_toArray, List.getElem_cons_succ, List.getElem_cons_zero]
    refine wpAnyH_take (i := 3) (oi := _) (v := ?_) rfl (by kernel_rfl) (by kernel_rfl) (by kernel_rfl) (fun _ _ _ h => h) (Or.inl ⟨by rfl, ?_⟩) (by assumption) ?_
    rotate_left
    · intro w hSw
      try dsimp only at hSw
      go_simp
      all_goals with_reducible rfl
    try simp only [Act.put, List.setIfInBounds_toArray, List.set_cons_zero, List.set_cons_succ, List.getElem_toArray, List.getElem_cons_succ, List.getElem_cons_zero]
    refine wpAnyH_take (i := 4) (oi := _) (v := ?_) rfl (by kernel_rfl) (by kernel_rfl) (by kernel_rfl) (fun _ _ _ h => h) (Or.inl ⟨by rfl, ?_⟩) (by assumption) ?_
    rotate_left
    · intro w hSw
      try dsimp only at hSw
      go_simp
      all_goals with_reducible rfl
    try simp only [Act.put, List.setIfInBounds_toArray, List.set_cons_zero, List.set_cons_succ, List.getElem_toArray, List.getElem_cons_succ, List.getElem_cons_zero]
    refine wpAnyH_take (i := 5) (oi := _) (v := ?_) rfl (by kernel_rfl) (by kernel_rfl) (by kernel_rfl) (fun _ _ _ h => h) (Or.inl ⟨by rfl, ?_⟩) (by assumption) ?_
    rotate_left
    · intro w hSw
      try dsimp only at hSw
      go_simp
      all_goals with_reducible rfl
    try simp only [Act.put, List.setIfInBounds_toArray, List.set_cons_zero, List.set_cons_succ, List.getElem_toArray, List.getElem_cons_succ, List.getElem_cons_zero]
    refine wpAnyH_ready (rs := [0, 6]) (by kernel_rfl) (by simp) ?_
    refine AllReadyH.cons (o := _) rfl (fun K hK => ?_) (AllReadyH.cons (o := _) rfl (fun K hK => ?_) AllReadyH.nil)
    · replace ob := obj_alloc ob (Obj.cells #[Value.int .i64 1, Value.int .i64 2] 3)
      have hbx := (Below.refl (w1.drew).heap.size (w1.drew)).alloc (Nat.le_refl _) (Obj.cells #[Value.int .i64 1, Value.int .i64 2] 3)
      replace h0r := h0r.below hbx
      replace il := il.next hbx
      replace hb := hb.trans (hbx.mono hb.size)
      replace cc : ((w1.drew).alloc (Obj.cells #[Value.int .i64 1, Value.int .i64 2] 3)).cell? ⟨bo, oo, none⟩ = some (Value.slice rA r0l rc) := (hbx.cell (by show bo < (w1.drew).heap.size; omega)).trans cc
      have oR0 := obj_new (w1.drew) (Obj.cells #[Value.int .i64 1, Value.int .i64 2] 3)
      have hMs : M ≤ ((w1.drew).alloc (Obj.cells #[Value.int .i64 1, Value.int .i64 2] 3)).heap.size := Nat.le_trans hMs hbx.size
      clear hbx
      have oR : ((w1.drew).alloc (Obj.cells #[Value.int .i64 1, Value.int .i64 2] 3)).heap[w1.heap.size]? = some (Obj.cells #[Value.int .i64 1, Value.int .i64 2] 3) := by first | exact oR0 | (have := oR0; simpa using this)
      clear oR0
      have hXE : (w1.drew).alloc (Obj.cells #[Value.int .i64 1, Value.int .i64 2] 3) = ((w1).alloc (Obj.cells #[Value.int .i64 1, Value.int .i64 2] 3)).drew := rfl
      rw [hXE] at ob oR h0r il hb cc hMs
      clear hXE
      go_simp
      refine hK.out _ _ (cc) (fun hHeld => ?_)
      clear hK K
      try simp only [Act.put, List.setIfInBounds_toArray, List.set_cons_zero, List.set_cons_succ, List.getElem_toArray, List.getElem_cons_succ, List.getElem_cons_zero]
      refine wpAnyH_ready (rs := [6]) (by kernel_rfl) (by simp) ?_
      refine AllReadyH.cons (o := _) rfl (fun K hK => ?_) AllReadyH.nil
      go_simp
      refine Calls.mono (joinParts_impl (cutA (some ⟨bo, oo, none⟩) sk 1) (sk - 1) t false _ il HJP.out) ?_
      rintro e y1 ⟨J, jk, rfl, _, _, hJ, hbJ⟩
      obtain ⟨aJ, haJ⟩ : ∃ a, a = (((w1).alloc (Obj.cells #[Value.int .i64 1, Value.int .i64 2] 3)).drew).heap.size := ⟨_, rfl⟩
      obtain ⟨bJ, hbJe⟩ : ∃ b, b = y1.heap.size := ⟨_, rfl⟩
      have hJb : ∀ g, (Value.slice J (jpG false (t.map Row.xs)).length jk).ownBlock = some g → g < bJ := fun g hg => by rw [hbJe]; exact (hJ.lt g hg).2
      rw [← haJ] at hJ
      have hMa : M ≤ aJ := by rw [haJ]; exact hMs
      have hMR0 := hMs
      replace ob := obj_below ob hbJ (obj_lt ob)
      replace oR := obj_below oR hbJ (obj_lt oR)
      have hRJ : w1.heap.size < aJ ∨ bJ ≤ w1.heap.size := .inl (by rw [haJ]; simp)
      replace h0r := h0r.below hbJ
      replace hb := hb.trans (hbJ.mono hb.size)
      replace cc : y1.cell? ⟨bo, oo, none⟩ = some (Value.slice rA r0l rc) := (hbJ.cell (by show bo < _; omega)).trans cc
      have hMs : M ≤ y1.heap.size := Nat.le_trans hMs hbJ.size
      replace il := il.next hbJ
      have hbJs : bJ ≤ y1.heap.size := by rw [hbJe]; exact Nat.le_refl _
      obtain ⟨js, hjs⟩ : ∃ j, j = jpG false (t.map Row.xs) := ⟨_, rfl⟩
      rw [← hjs] at hJ hJb ⊢
      have HJS := Lib.hid hjs
      obtain ⟨jl, hjl⟩ : ∃ n, n = js.length := ⟨_, rfl⟩
      have HJL := Lib.hid hjl
      rw [← hjl] at hJ hJb ⊢
      clear hbJ haJ hbJe hjs hjl
      go_wp2_with fail
      refine hK.out _ _ (cc) (fun hHeld => ?_)
      clear hK K
      try simp only [Act.put, List.setIfInBounds_toArray, List.set_cons_zero, List.set_cons_succ, List.getElem_toArray, List.getElem_cons_succ, List.getElem_cons_zero]
      refine wpAnyH_ready (rs := [7]) (by kernel_rfl) (by simp) ?_
      refine AllReadyH.cons (o := _) rfl (fun K hK => ?_) AllReadyH.nil
      replace ob := obj_alloc ob (Obj.cells #[Value.slice rA r0l rc, Value.slice J jl jk] 24)
      replace oR := obj_alloc oR (Obj.cells #[Value.slice rA r0l rc, Value.slice J jl jk] 24)
      replace hJ := hJ.alloc (Obj.cells #[Value.slice rA r0l rc, Value.slice J jl jk] 24)
      have hbx := (Below.refl (y1).heap.size (y1)).alloc (Nat.le_refl _) (Obj.cells #[Value.slice rA r0l rc, Value.slice J jl jk] 24)
      replace h0r := h0r.below hbx
      replace il := il.next hbx
      replace hb := hb.trans (hbx.mono hb.size)
      replace cc : ((y1).alloc (Obj.cells #[Value.slice rA r0l rc, Value.slice J jl jk] 24)).cell? ⟨bo, oo, none⟩ = some (Value.slice rA r0l rc) := (hbx.cell (by show bo < (y1).heap.size; omega)).trans cc
      have oO0 := obj_new (y1) (Obj.cells #[Value.slice rA r0l rc, Value.slice J jl jk] 24)
      have hMs : M ≤ ((y1).alloc (Obj.cells #[Value.slice rA r0l rc, Value.slice J jl jk] 24)).heap.size := Nat.le_trans hMs hbx.size
      clear hbx
      have oO : ((y1).alloc (Obj.cells #[Value.slice rA r0l rc, Value.slice J jl jk] 24)).heap[y1.heap.size]? = some (Obj.cells #[Value.slice rA r0l rc, Value.slice J jl jk] 24) := by first | exact oO0 | (have := oO0; simpa using this)
      clear oO0
      go_simp
      refine hK.out _ _ (cc) (fun hHeld => ?_)
      clear hK K
      try simp only [Act.put, List.setIfInBounds_toArray, List.set_cons_zero, List.set_cons_succ, List.getElem_toArray, List.getElem_cons_succ, List.getElem_cons_zero]
      refine wpAnyH_take (i := 8) (oi := _) (v := ?_) rfl (by kernel_rfl) (by kernel_rfl) (by kernel_rfl) (fun _ _ _ h => h) (Or.inl ⟨by rfl, ?_⟩) (by assumption) ?_
      rotate_left
      · intro w hSw
        try dsimp only at hSw
        go_simp
        all_goals with_reducible rfl
      try simp only [Act.put, List.setIfInBounds_toArray, List.set_cons_zero, List.set_cons_succ, List.getElem_toArray, List.getElem_cons_succ, List.getElem_cons_zero]
      have hJ2 : (((y1).alloc (Obj.cells #[Value.slice rA r0l rc, Value.slice J jl jk] 24))).ownsRow aJ 3 1 (Row.v ⟨J, jk, js⟩) js.length (js.map (Value.int .i64)) := by rw [show Row.v ⟨J, jk, js⟩ = Value.slice J jl jk by rw [HJL.out]; rfl, ← HJL.out]; exact hJ
      have hJb2 : ∀ g, (Row.v ⟨J, jk, js⟩).ownBlock = some g → g < bJ := fun g hg => by have := hJb g; rw [HJL.out] at this; exact this hg
      have oO2 : (((y1).alloc (Obj.cells #[Value.slice rA r0l rc, Value.slice J jl jk] 24))).heap[y1.heap.size]? = some (Obj.cells #[r0.v, Row.v ⟨J, jk, js⟩] 24) := by rw [HRV.out, show Row.v ⟨J, jk, js⟩ = Value.slice J jl jk by rw [HJL.out]; rfl]; exact oO
      have hrow := Own.three (cR := 2) (x := 1) (y := 2) h0r hMw (by omega) hMa oR rfl hJ2 hJb2 hRJ oO2 (by omega)
      obtain ⟨l0, l1, hOf, hbf⟩ := ret_cell (n := 2) (m := 2) ob hrow hb rfl rfl
      have hOF := Lib.hid hOf
      have hBF := Lib.hid hbf
      have g0 : (((y1).alloc (Obj.cells #[Value.slice rA r0l rc, Value.slice J jl jk] 24))).cell? ⟨w.heap.size, 0, none⟩ = some (Value.slice none 0 0) := (obj_cell ob).trans rfl
      have g1 : (((y1).alloc (Obj.cells #[Value.slice rA r0l rc, Value.slice J jl jk] 24))).cell? ⟨w.heap.size, 1, none⟩ = some (Value.slice none 0 0) := (obj_cell ob).trans rfl
      have g2 : (((y1).alloc (Obj.cells #[Value.slice rA r0l rc, Value.slice J jl jk] 24))).frozen? ⟨w.heap.size, 0, none⟩ = false := obj_frozen ob
      have g3 : (((y1).alloc (Obj.cells #[Value.slice rA r0l rc, Value.slice J jl jk] 24))).frozen? ⟨w.heap.size, 1, none⟩ = false := obj_frozen ob
      have hbo1 := HBO.out
      have cc2 : (((((y1).alloc (Obj.cells #[Value.slice rA r0l rc, Value.slice J jl jk] 24))).setCell ⟨w.heap.size, 0, none⟩ (.slice (some ⟨w1.heap.size, 0, none⟩) 2 2)).setCell ⟨w.heap.size, 1, none⟩ (.slice (some ⟨y1.heap.size, 0, none⟩) 2 2)).cell? ⟨bo, oo, none⟩ = some (Value.slice rA r0l rc) := (World.cell?_setCell_other _ _ _ _ (fun e => by injection e with e; omega)).trans ((World.cell?_setCell_other _ _ _ _ (fun e => by injection e with e; omega)).trans cc)
      clear hOf hbf hrow hJ hJ2 hJb hJb2 oO oO2 oR ob hb h0r il hbo1
      refine wpAnyH_ready (rs := [9]) (by kernel_rfl) (by simp) ?_
      refine AllReadyH.cons (o := _) rfl (fun K hK => ?_) AllReadyH.nil
      go_simp
      refine hK.out _ _ (cc2) (fun hHeld => ?_)
      clear hK K
      try simp only [Act.put, List.setIfInBounds_toArray, List.set_cons_zero, List.set_cons_succ, List.getElem_toArray, List.getElem_cons_succ, List.getElem_cons_zero]
      refine wpAnyH_done (by kernel_rfl) ?_ _
      go_wp2_with fail
      try simp only [Exit.inBlock, Exit.then]
      refine bodyPost_ret (v := .agg #[.slice (some ⟨w1.heap.size, 0, none⟩) 2 2, .slice (some ⟨y1.heap.size, 0, none⟩) 2 2]) (by simp [results, Tryz.results29, go_sem, l0, l1]) rfl ?_
      rw [HE.out.1, HE.out.2]
      exact ⟨_, _, _, _, [r0, ⟨J, jk, js⟩], rfl, by rw [HTT.out.1, HTT.out.2, ← HJS.out]; rfl, hOF.out, hBF.out⟩
    · go_simp
      refine Calls.mono (joinParts_impl (cutA (some ⟨bo, oo, none⟩) sk 1) (sk - 1) t false _ il HJP.out) ?_
      rintro e y2 ⟨J, jk, rfl, _, _, hJ, hbJ⟩
      obtain ⟨aJ, haJ⟩ : ∃ a, a = (w1.drew).heap.size := ⟨_, rfl⟩
      obtain ⟨bJ, hbJe⟩ : ∃ b, b = y2.heap.size := ⟨_, rfl⟩
      have hJb : ∀ g, (Value.slice J (jpG false (t.map Row.xs)).length jk).ownBlock = some g → g < bJ := fun g hg => by rw [hbJe]; exact (hJ.lt g hg).2
      rw [← haJ] at hJ
      have hMa : M ≤ aJ := by rw [haJ]; exact hMs
      have hMR0 := hMs
      replace ob := obj_below ob hbJ (obj_lt ob)
      replace h0r := h0r.below hbJ
      replace hb := hb.trans (hbJ.mono hb.size)
      replace cc : y2.cell? ⟨bo, oo, none⟩ = some (Value.slice rA r0l rc) := (hbJ.cell (by show bo < _; omega)).trans cc
      have hMs : M ≤ y2.heap.size := Nat.le_trans hMs hbJ.size
      replace il := il.next hbJ
      have hbJs : bJ ≤ y2.heap.size := by rw [hbJe]; exact Nat.le_refl _
      obtain ⟨js, hjs⟩ : ∃ j, j = jpG false (t.map Row.xs) := ⟨_, rfl⟩
      rw [← hjs] at hJ hJb ⊢
      have HJS := Lib.hid hjs
      obtain ⟨jl, hjl⟩ : ∃ n, n = js.length := ⟨_, rfl⟩
      have HJL := Lib.hid hjl
      rw [← hjl] at hJ hJb ⊢
      clear hbJ haJ hbJe hjs hjl
      go_wp2_with fail
      refine hK.out _ _ (cc) (fun hHeld => ?_)
      clear hK K
      try simp only [Act.put, List.setIfInBounds_toArray, List.set_cons_zero, List.set_cons_succ, List.getElem_toArray, List.getElem_cons_succ, List.getElem_cons_zero]
      refine wpAnyH_ready (rs := [0, 7]) (by kernel_rfl) (by simp) ?_
      refine AllReadyH.cons (o := _) rfl (fun K hK => ?_) (AllReadyH.cons (o := _) rfl (fun K hK => ?_) AllReadyH.nil)
      · replace ob := obj_alloc ob (Obj.cells #[Value.int .i64 1, Value.int .i64 2] 3)
        replace hJ := hJ.alloc (Obj.cells #[Value.int .i64 1, Value.int .i64 2] 3)
        have hbx := (Below.refl (y2).heap.size (y2)).alloc (Nat.le_refl _) (Obj.cells #[Value.int .i64 1, Value.int .i64 2] 3)
        replace h0r := h0r.below hbx
        replace il := il.next hbx
        replace hb := hb.trans (hbx.mono hb.size)
        replace cc : ((y2).alloc (Obj.cells #[Value.int .i64 1, Value.int .i64 2] 3)).cell? ⟨bo, oo, none⟩ = some (Value.slice rA r0l rc) := (hbx.cell (by show bo < (y2).heap.size; omega)).trans cc
        have oR0 := obj_new (y2) (Obj.cells #[Value.int .i64 1, Value.int .i64 2] 3)
        have hMs : M ≤ ((y2).alloc (Obj.cells #[Value.int .i64 1, Value.int .i64 2] 3)).heap.size := Nat.le_trans hMs hbx.size
        clear hbx
        have oR : ((y2).alloc (Obj.cells #[Value.int .i64 1, Value.int .i64 2] 3)).heap[y2.heap.size]? = some (Obj.cells #[Value.int .i64 1, Value.int .i64 2] 3) := by first | exact oR0 | (have := oR0; simpa using this)
        clear oR0
        have hRJ : y2.heap.size < aJ ∨ bJ ≤ y2.heap.size := .inr (by omega)
        go_simp
        refine hK.out _ _ (cc) (fun hHeld => ?_)
        clear hK K
        try simp only [Act.put, List.setIfInBounds_toArray, List.set_cons_zero, List.set_cons_succ, List.getElem_toArray, List.getElem_cons_succ, List.getElem_cons_zero]
        refine wpAnyH_ready (rs := [7]) (by kernel_rfl) (by simp) ?_
        refine AllReadyH.cons (o := _) rfl (fun K hK => ?_) AllReadyH.nil
        replace ob := obj_alloc ob (Obj.cells #[Value.slice rA r0l rc, Value.slice J jl jk] 24)
        replace hJ := hJ.alloc (Obj.cells #[Value.slice rA r0l rc, Value.slice J jl jk] 24)
        replace oR := obj_alloc oR (Obj.cells #[Value.slice rA r0l rc, Value.slice J jl jk] 24)
        have hbx := (Below.refl (((y2).alloc (Obj.cells #[Value.int .i64 1, Value.int .i64 2] 3))).heap.size (((y2).alloc (Obj.cells #[Value.int .i64 1, Value.int .i64 2] 3)))).alloc (Nat.le_refl _) (Obj.cells #[Value.slice rA r0l rc, Value.slice J jl jk] 24)
        replace h0r := h0r.below hbx
        replace il := il.next hbx
        replace hb := hb.trans (hbx.mono hb.size)
        replace cc : ((((y2).alloc (Obj.cells #[Value.int .i64 1, Value.int .i64 2] 3))).alloc (Obj.cells #[Value.slice rA r0l rc, Value.slice J jl jk] 24)).cell? ⟨bo, oo, none⟩ = some (Value.slice rA r0l rc) := (hbx.cell (by show bo < (((y2).alloc (Obj.cells #[Value.int .i64 1, Value.int .i64 2] 3))).heap.size; omega)).trans cc
        have oO0 := obj_new (((y2).alloc (Obj.cells #[Value.int .i64 1, Value.int .i64 2] 3))) (Obj.cells #[Value.slice rA r0l rc, Value.slice J jl jk] 24)
        have hMs : M ≤ ((((y2).alloc (Obj.cells #[Value.int .i64 1, Value.int .i64 2] 3))).alloc (Obj.cells #[Value.slice rA r0l rc, Value.slice J jl jk] 24)).heap.size := Nat.le_trans hMs hbx.size
        clear hbx
        have oO : ((((y2).alloc (Obj.cells #[Value.int .i64 1, Value.int .i64 2] 3))).alloc (Obj.cells #[Value.slice rA r0l rc, Value.slice J jl jk] 24)).heap[y2.heap.size + 1]? = some (Obj.cells #[Value.slice rA r0l rc, Value.slice J jl jk] 24) := by first | exact oO0 | (have := oO0; simpa using this)
        clear oO0
        go_simp
        refine hK.out _ _ (cc) (fun hHeld => ?_)
        clear hK K
        try simp only [Act.put, List.setIfInBounds_toArray, List.set_cons_zero, List.set_cons_succ, List.getElem_toArray, List.getElem_cons_succ, List.getElem_cons_zero]
        refine wpAnyH_take (i := 8) (oi := _) (v := ?_) rfl (by kernel_rfl) (by kernel_rfl) (by kernel_rfl) (fun _ _ _ h => h) (Or.inl ⟨by rfl, ?_⟩) (by assumption) ?_
        rotate_left
        · intro w hSw
          try dsimp only at hSw
          go_simp
          all_goals with_reducible rfl
        try simp only [Act.put, List.setIfInBounds_toArray, List.set_cons_zero, List.set_cons_succ, List.getElem_toArray, List.getElem_cons_succ, List.getElem_cons_zero]
        have hJ2 : (((((y2).alloc (Obj.cells #[Value.int .i64 1, Value.int .i64 2] 3))).alloc (Obj.cells #[Value.slice rA r0l rc, Value.slice J jl jk] 24))).ownsRow aJ 3 1 (Row.v ⟨J, jk, js⟩) js.length (js.map (Value.int .i64)) := by rw [show Row.v ⟨J, jk, js⟩ = Value.slice J jl jk by rw [HJL.out]; rfl, ← HJL.out]; exact hJ
        have hJb2 : ∀ g, (Row.v ⟨J, jk, js⟩).ownBlock = some g → g < bJ := fun g hg => by have := hJb g; rw [HJL.out] at this; exact this hg
        have oO2 : (((((y2).alloc (Obj.cells #[Value.int .i64 1, Value.int .i64 2] 3))).alloc (Obj.cells #[Value.slice rA r0l rc, Value.slice J jl jk] 24))).heap[y2.heap.size + 1]? = some (Obj.cells #[r0.v, Row.v ⟨J, jk, js⟩] 24) := by rw [HRV.out, show Row.v ⟨J, jk, js⟩ = Value.slice J jl jk by rw [HJL.out]; rfl]; exact oO
        have hrow := Own.three (cR := 2) (x := 1) (y := 2) h0r hMw (by omega) hMa oR rfl hJ2 hJb2 hRJ oO2 (by omega)
        obtain ⟨l0, l1, hOf, hbf⟩ := ret_cell (n := 2) (m := 2) ob hrow hb rfl rfl
        have hOF := Lib.hid hOf
        have hBF := Lib.hid hbf
        have g0 : (((((y2).alloc (Obj.cells #[Value.int .i64 1, Value.int .i64 2] 3))).alloc (Obj.cells #[Value.slice rA r0l rc, Value.slice J jl jk] 24))).cell? ⟨w.heap.size, 0, none⟩ = some (Value.slice none 0 0) := (obj_cell ob).trans rfl
        have g1 : (((((y2).alloc (Obj.cells #[Value.int .i64 1, Value.int .i64 2] 3))).alloc (Obj.cells #[Value.slice rA r0l rc, Value.slice J jl jk] 24))).cell? ⟨w.heap.size, 1, none⟩ = some (Value.slice none 0 0) := (obj_cell ob).trans rfl
        have g2 : (((((y2).alloc (Obj.cells #[Value.int .i64 1, Value.int .i64 2] 3))).alloc (Obj.cells #[Value.slice rA r0l rc, Value.slice J jl jk] 24))).frozen? ⟨w.heap.size, 0, none⟩ = false := obj_frozen ob
        have g3 : (((((y2).alloc (Obj.cells #[Value.int .i64 1, Value.int .i64 2] 3))).alloc (Obj.cells #[Value.slice rA r0l rc, Value.slice J jl jk] 24))).frozen? ⟨w.heap.size, 1, none⟩ = false := obj_frozen ob
        have hbo1 := HBO.out
        have cc2 : (((((((y2).alloc (Obj.cells #[Value.int .i64 1, Value.int .i64 2] 3))).alloc (Obj.cells #[Value.slice rA r0l rc, Value.slice J jl jk] 24))).setCell ⟨w.heap.size, 0, none⟩ (.slice (some ⟨y2.heap.size, 0, none⟩) 2 2)).setCell ⟨w.heap.size, 1, none⟩ (.slice (some ⟨y2.heap.size + 1, 0, none⟩) 2 2)).cell? ⟨bo, oo, none⟩ = some (Value.slice rA r0l rc) := (World.cell?_setCell_other _ _ _ _ (fun e => by injection e with e; omega)).trans ((World.cell?_setCell_other _ _ _ _ (fun e => by injection e with e; omega)).trans cc)
        clear hOf hbf hrow hJ hJ2 hJb hJb2 oO oO2 oR ob hb h0r il hbo1
        refine wpAnyH_ready (rs := [9]) (by kernel_rfl) (by simp) ?_
        refine AllReadyH.cons (o := _) rfl (fun K hK => ?_) AllReadyH.nil
        go_simp
        refine hK.out _ _ (cc2) (fun hHeld => ?_)
        clear hK K
        try simp only [Act.put, List.setIfInBounds_toArray, List.set_cons_zero, List.set_cons_succ, List.getElem_toArray, List.getElem_cons_succ, List.getElem_cons_zero]
        refine wpAnyH_done (by kernel_rfl) ?_ _
        go_wp2_with fail
        try simp only [Exit.inBlock, Exit.then]
        refine bodyPost_ret (v := .agg #[.slice (some ⟨y2.heap.size, 0, none⟩) 2 2, .slice (some ⟨y2.heap.size + 1, 0, none⟩) 2 2]) (by simp [results, Tryz.results29, go_sem, l0, l1]) rfl ?_
        rw [HE.out.1, HE.out.2]
        exact ⟨_, _, _, _, [r0, ⟨J, jk, js⟩], rfl, by rw [HTT.out.1, HTT.out.2, ← HJS.out]; rfl, hOF.out, hBF.out⟩
      · replace ob := obj_alloc ob (Obj.cells #[Value.slice rA r0l rc, Value.slice J jl jk] 24)
        replace hJ := hJ.alloc (Obj.cells #[Value.slice rA r0l rc, Value.slice J jl jk] 24)
        have hbx := (Below.refl (y2).heap.size (y2)).alloc (Nat.le_refl _) (Obj.cells #[Value.slice rA r0l rc, Value.slice J jl jk] 24)
        replace h0r := h0r.below hbx
        replace il := il.next hbx
        replace hb := hb.trans (hbx.mono hb.size)
        replace cc : ((y2).alloc (Obj.cells #[Value.slice rA r0l rc, Value.slice J jl jk] 24)).cell? ⟨bo, oo, none⟩ = some (Value.slice rA r0l rc) := (hbx.cell (by show bo < (y2).heap.size; omega)).trans cc
        have oO0 := obj_new (y2) (Obj.cells #[Value.slice rA r0l rc, Value.slice J jl jk] 24)
        have hMs : M ≤ ((y2).alloc (Obj.cells #[Value.slice rA r0l rc, Value.slice J jl jk] 24)).heap.size := Nat.le_trans hMs hbx.size
        clear hbx
        have oO : ((y2).alloc (Obj.cells #[Value.slice rA r0l rc, Value.slice J jl jk] 24)).heap[y2.heap.size]? = some (Obj.cells #[Value.slice rA r0l rc, Value.slice J jl jk] 24) := by first | exact oO0 | (have := oO0; simpa using this)
        clear oO0
        go_simp
        refine hK.out _ _ (cc) (fun hHeld => ?_)
        clear hK K
        try simp only [Act.put, List.setIfInBounds_toArray, List.set_cons_zero, List.set_cons_succ, List.getElem_toArray, List.getElem_cons_succ, List.getElem_cons_zero]
        refine wpAnyH_ready (rs := [0]) (by kernel_rfl) (by simp) ?_
        refine AllReadyH.cons (o := _) rfl (fun K hK => ?_) AllReadyH.nil
        replace ob := obj_alloc ob (Obj.cells #[Value.int .i64 1, Value.int .i64 2] 3)
        replace hJ := hJ.alloc (Obj.cells #[Value.int .i64 1, Value.int .i64 2] 3)
        replace oO := obj_alloc oO (Obj.cells #[Value.int .i64 1, Value.int .i64 2] 3)
        have hbx := (Below.refl (((y2).alloc (Obj.cells #[Value.slice rA r0l rc, Value.slice J jl jk] 24))).heap.size (((y2).alloc (Obj.cells #[Value.slice rA r0l rc, Value.slice J jl jk] 24)))).alloc (Nat.le_refl _) (Obj.cells #[Value.int .i64 1, Value.int .i64 2] 3)
        replace h0r := h0r.below hbx
        replace il := il.next hbx
        replace hb := hb.trans (hbx.mono hb.size)
        replace cc : ((((y2).alloc (Obj.cells #[Value.slice rA r0l rc, Value.slice J jl jk] 24))).alloc (Obj.cells #[Value.int .i64 1, Value.int .i64 2] 3)).cell? ⟨bo, oo, none⟩ = some (Value.slice rA r0l rc) := (hbx.cell (by show bo < (((y2).alloc (Obj.cells #[Value.slice rA r0l rc, Value.slice J jl jk] 24))).heap.size; omega)).trans cc
        have oR0 := obj_new (((y2).alloc (Obj.cells #[Value.slice rA r0l rc, Value.slice J jl jk] 24))) (Obj.cells #[Value.int .i64 1, Value.int .i64 2] 3)
        have hMs : M ≤ ((((y2).alloc (Obj.cells #[Value.slice rA r0l rc, Value.slice J jl jk] 24))).alloc (Obj.cells #[Value.int .i64 1, Value.int .i64 2] 3)).heap.size := Nat.le_trans hMs hbx.size
        clear hbx
        have oR : ((((y2).alloc (Obj.cells #[Value.slice rA r0l rc, Value.slice J jl jk] 24))).alloc (Obj.cells #[Value.int .i64 1, Value.int .i64 2] 3)).heap[y2.heap.size + 1]? = some (Obj.cells #[Value.int .i64 1, Value.int .i64 2] 3) := by first | exact oR0 | (have := oR0; simpa using this)
        clear oR0
        have hRJ : y2.heap.size + 1 < aJ ∨ bJ ≤ y2.heap.size + 1 := .inr (by omega)
        go_simp
        refine hK.out _ _ (cc) (fun hHeld => ?_)
        clear hK K
        try simp only [Act.put, List.setIfInBounds_toArray, List.set_cons_zero, List.set_cons_succ, List.getElem_toArray, List.getElem_cons_succ, List.getElem_cons_zero]
        refine wpAnyH_take (i := 8) (oi := _) (v := ?_) rfl (by kernel_rfl) (by kernel_rfl) (by kernel_rfl) (fun _ _ _ h => h) (Or.inl ⟨by rfl, ?_⟩) (by assumption) ?_
        rotate_left
        · intro w hSw
          try dsimp only at hSw
          go_simp
          all_goals with_reducible rfl
        try simp only [Act.put, List.setIfInBounds_toArray, List.set_cons_zero, List.set_cons_succ, List.getElem_toArray, List.getElem_cons_succ, List.getElem_cons_zero]
        have hJ2 : (((((y2).alloc (Obj.cells #[Value.slice rA r0l rc, Value.slice J jl jk] 24))).alloc (Obj.cells #[Value.int .i64 1, Value.int .i64 2] 3))).ownsRow aJ 3 1 (Row.v ⟨J, jk, js⟩) js.length (js.map (Value.int .i64)) := by rw [show Row.v ⟨J, jk, js⟩ = Value.slice J jl jk by rw [HJL.out]; rfl, ← HJL.out]; exact hJ
        have hJb2 : ∀ g, (Row.v ⟨J, jk, js⟩).ownBlock = some g → g < bJ := fun g hg => by have := hJb g; rw [HJL.out] at this; exact this hg
        have oO2 : (((((y2).alloc (Obj.cells #[Value.slice rA r0l rc, Value.slice J jl jk] 24))).alloc (Obj.cells #[Value.int .i64 1, Value.int .i64 2] 3))).heap[y2.heap.size]? = some (Obj.cells #[r0.v, Row.v ⟨J, jk, js⟩] 24) := by rw [HRV.out, show Row.v ⟨J, jk, js⟩ = Value.slice J jl jk by rw [HJL.out]; rfl]; exact oO
        have hrow := Own.three (cR := 2) (x := 1) (y := 2) h0r hMw (by omega) hMa oR rfl hJ2 hJb2 hRJ oO2 (by omega)
        obtain ⟨l0, l1, hOf, hbf⟩ := ret_cell (n := 2) (m := 2) ob hrow hb rfl rfl
        have hOF := Lib.hid hOf
        have hBF := Lib.hid hbf
        have g0 : (((((y2).alloc (Obj.cells #[Value.slice rA r0l rc, Value.slice J jl jk] 24))).alloc (Obj.cells #[Value.int .i64 1, Value.int .i64 2] 3))).cell? ⟨w.heap.size, 0, none⟩ = some (Value.slice none 0 0) := (obj_cell ob).trans rfl
        have g1 : (((((y2).alloc (Obj.cells #[Value.slice rA r0l rc, Value.slice J jl jk] 24))).alloc (Obj.cells #[Value.int .i64 1, Value.int .i64 2] 3))).cell? ⟨w.heap.size, 1, none⟩ = some (Value.slice none 0 0) := (obj_cell ob).trans rfl
        have g2 : (((((y2).alloc (Obj.cells #[Value.slice rA r0l rc, Value.slice J jl jk] 24))).alloc (Obj.cells #[Value.int .i64 1, Value.int .i64 2] 3))).frozen? ⟨w.heap.size, 0, none⟩ = false := obj_frozen ob
        have g3 : (((((y2).alloc (Obj.cells #[Value.slice rA r0l rc, Value.slice J jl jk] 24))).alloc (Obj.cells #[Value.int .i64 1, Value.int .i64 2] 3))).frozen? ⟨w.heap.size, 1, none⟩ = false := obj_frozen ob
        have hbo1 := HBO.out
        have cc2 : (((((((y2).alloc (Obj.cells #[Value.slice rA r0l rc, Value.slice J jl jk] 24))).alloc (Obj.cells #[Value.int .i64 1, Value.int .i64 2] 3))).setCell ⟨w.heap.size, 0, none⟩ (.slice (some ⟨y2.heap.size + 1, 0, none⟩) 2 2)).setCell ⟨w.heap.size, 1, none⟩ (.slice (some ⟨y2.heap.size, 0, none⟩) 2 2)).cell? ⟨bo, oo, none⟩ = some (Value.slice rA r0l rc) := (World.cell?_setCell_other _ _ _ _ (fun e => by injection e with e; omega)).trans ((World.cell?_setCell_other _ _ _ _ (fun e => by injection e with e; omega)).trans cc)
        clear hOf hbf hrow hJ hJ2 hJb hJb2 oO oO2 oR ob hb h0r il hbo1
        refine wpAnyH_ready (rs := [9]) (by kernel_rfl) (by simp) ?_
        refine AllReadyH.cons (o := _) rfl (fun K hK => ?_) AllReadyH.nil
        go_simp
        refine hK.out _ _ (cc2) (fun hHeld => ?_)
        clear hK K
        try simp only [Act.put, List.setIfInBounds_toArray, List.set_cons_zero, List.set_cons_succ, List.getElem_toArray, List.getElem_cons_succ, List.getElem_cons_zero]
        refine wpAnyH_done (by kernel_rfl) ?_ _
        go_wp2_with fail
        try simp only [Exit.inBlock, Exit.then]
        refine bodyPost_ret (v := .agg #[.slice (some ⟨y2.heap.size + 1, 0, none⟩) 2 2, .slice (some ⟨y2.heap.size, 0, none⟩) 2 2]) (by simp [results, Tryz.results29, go_sem, l0, l1]) rfl ?_
        rw [HE.out.1, HE.out.2]
        exact ⟨_, _, _, _, [r0, ⟨J, jk, js⟩], rfl, by rw [HTT.out.1, HTT.out.2, ← HJS.out]; rfl, hOF.out, hBF.out⟩
  have H2 := Lib.hid (show ¬ 1 < (sumL p).length by rw [hsl]; exact h2)
  have d2 : decide ((ss.length : Int) > 1) = false := decide_eq_false (by omega)
  have d3 : decide (1 < (ss.length : Int)) = false := decide_eq_false (by omega)
  have HC := Lib.hid (skewRows_impl A c p w1 (h.next hbw) HP.out)
  clear hOs HSZ HX hsl
  go_wp2_with fail
  (with_reducible refine HC.out.mono ?_)
  rintro e w2 ⟨S2, sk2, ss2, rfl, hX, hOs, hb1⟩
  obtain ⟨S, hSe⟩ : ∃ S, S = S2 := ⟨_, rfl⟩
  obtain ⟨sk, hske⟩ : ∃ S, S = sk2 := ⟨_, rfl⟩
  subst hSe hske
  have HX := Lib.hid (show ss2.map Row.xs = skewL p by exact hX)
  have ob := obj_below ob hb1 (obj_lt ob)
  have hbw := hbw.trans (hb1.mono hbw.size)
  have hs2 := hb1.size
  have HSZ := Lib.hid (skew_size HP.out HX.out)
  have hsl : (skewL p).length = ss2.length := by rw [← HX.out, List.length_map]
  clear HC hX hb1 d2 d3 h2
  by_cases h2 : 1 < ss2.length
  case pos =>
    have HE := Lib.hid (split_eq3 HP.out H1.out H2.out (by rw [hsl]; exact h2))
    have d2 : decide ((ss2.length : Int) > 1) = true := decide_eq_true (by omega)
    have d3 : decide (1 < (ss2.length : Int)) = true := decide_eq_true (by omega)
    clear hsl
    obtain ⟨r0, t, rfl, iss⟩ := rows_cons hOs (Nat.le_refl _) HSZ.out h2
    have h2' : 1 < t.length + 1 := h2
    have d4 : decide (1 < (t.length : Int) + 1) = true := decide_eq_true (by omega)
    have d5 : decide ((t.length : Int) + 1 > 1) = true := decide_eq_true (by omega)
    have HTT := Lib.hid (show headP (skewL p) = r0.xs ∧ (skewL p).tail = t.map Row.xs by rw [← HX.out]; exact ⟨rfl, rfl⟩)
    have HJP := Lib.hid (show jpB true (t.map Row.xs) = true by rw [← HTT.out.2]; exact tail_jp HP.out (skew_join HP.out) (skewL_perm HP.out))
    have hcap := iss.read.ocap _ (List.mem_singleton.2 rfl)
    simp only [List.length_map, List.length_cons] at hcap
    have hsl := fun w => run_cut (P := Tryz.prog) (t := 26) Tryz.underlying26 sizeLL S (t.length + 1) sk 1 1 rfl (by omega) w
    have h0r : Own w2 (w.heap.size + 1) w2.heap.size [r0] [] := (hOs.bare.sub (List.Sublist.cons_cons r0 (List.nil_sublist t))).wider (by omega) (Nat.le_refl _)
    obtain ⟨bo, oo, rfl, hbo, hc⟩ := iss.read.at (by simp)
    have cc := hc 0 (by simp)
    simp only [List.getElem_cons_zero, Nat.add_zero] at cc
    obtain ⟨M, hM⟩ : ∃ M, M = w2.heap.size := ⟨_, rfl⟩
    have HMM := Lib.hid hM
    have hMW : M ≤ w2.heap.size := by omega
    rw [← hM] at hbo h0r
    have hMw : w.heap.size + 1 ≤ M := by omega
    obtain ⟨r0l, hr0l⟩ : ∃ n, n = r0.xs.length := ⟨_, rfl⟩
    have HRL := Lib.hid hr0l
    have cc : w2.drew.cell? ⟨bo, oo, none⟩ = some (Value.slice r0.A r0l r0.c) := by rw [hr0l]; exact cc
    obtain ⟨rA, hrA⟩ : ∃ x, x = r0.A := ⟨_, rfl⟩
    obtain ⟨rc, hrc⟩ : ∃ x, x = r0.c := ⟨_, rfl⟩
    have HRV := Lib.hid (show r0.v = Value.slice rA r0l rc by rw [hrA, hrc, hr0l]; rfl)
    rw [← hrA, ← hrc] at cc
    have ob : w2.drew.heap[w.heap.size]? = some (Obj.cells #[Value.slice none 0 0, Value.slice none 0 0] 28) := ob
    have h0r := h0r.dr (Dr.refl w2).drew
    have il := (iss.tail).dr (Dr.refl w2).drew
    have hb := below_dr hbw (Dr.refl w2).drew
    have hMs : M ≤ w2.drew.heap.size := by rw [hM]; exact Nat.le_refl _
    have HBO := Lib.hid (show w.heap.size + 1 ≤ bo ∧ bo < M from ⟨by have hlow := (hOs.out.lt bo (by rfl)).1; omega, hbo⟩)
    clear hOs hc iss hbw hM hr0l hrA hrc
    go_wp2_with fail
    refine wp_region_held_drew (S := (fun v => v.cell? ⟨bo, oo, none⟩ = some (Value.slice rA r0l rc))) (by kernel_rfl) cc (fun hHeld => ?_)
    refine wpAnyH_take (i := 1) (oi := _) (v := ?_) rfl (by kernel_rfl) (by kernel_rfl) (by kernel_rfl) (fun _ _ _ h => h) (Or.inl ⟨by rfl, ?_⟩) (by assumption) ?_
    rotate_left
    · intro w hSw
      try dsimp only at hSw
      go_simp
      all_goals with_reducible rfl
    try simp only [Act.put, List.setIfInBounds_toArray, List.set_cons_zero, List.set_cons_succ, List.getElem_toArray, List.getElem_cons_succ, List.getElem_cons_zero]
    refine wpAnyH_take (i := 2) (oi := _) (v := ?_) rfl (by kernel_rfl) (by kernel_rfl) (by kernel_rfl) (fun _ _ _ h => h) (Or.inl ⟨by rfl, ?_⟩) (by assumption) ?_
    rotate_left
    · intro w hSw
      try dsimp only at hSw
      go_simp
      all_goals with_reducible rfl
    try simp only [Act.put, List.setIfInBounds_toArray, List.set_cons_zero, List.set_cons_succ, List.getElem_toArray, List.getElem_cons_succ, List.getElem_cons_zero]
    refine wpAnyH_take (i := 3) (oi := _) (v := ?_) rfl (by kernel_rfl) (by kernel_rfl) (by kernel_rfl) (fun _ _ _ h => h) (Or.inl ⟨by rfl, ?_⟩) (by assumption) ?_
    rotate_left
    · intro w hSw
      try dsimp only at hSw
      go_simp
      all_goals with_reducible rfl
    try simp only [Act.put, List.setIfInBounds_toArray, List.set_cons_zero, List.set_cons_succ, List.getElem_toArray, List.getElem_cons_succ, List.getElem_cons_zero]
    refine wpAnyH_take (i := 4) (oi := _) (v := ?_) rfl (by kernel_rfl) (by kernel_rfl) (by kernel_rfl) (fun _ _ _ h => h) (Or.inl ⟨by rfl, ?_⟩) (by assumption) ?_
    rotate_left
    · intro w hSw
      try dsimp only at hSw
      go_simp
      all_goals with_reducible rfl
    try simp only [Act.put, List.setIfInBounds_toArray, List.set_cons_zero, List.set_cons_succ, List.getElem_toArray, List.getElem_cons_succ, List.getElem_cons_zero]
    refine wpAnyH_take (i := 5) (oi := _) (v := ?_) rfl (by kernel_rfl) (by kernel_rfl) (by kernel_rfl) (fun _ _ _ h => h) (Or.inl ⟨by rfl, ?_⟩) (by assumption) ?_
    rotate_left
    · intro w hSw
      try dsimp only at hSw
      go_simp
      all_goals with_reducible rfl
    try simp only [Act.put, List.setIfInBounds_toArray, List.set_cons_zero, List.set_cons_succ, List.getElem_toArray, List.getElem_cons_succ, List.getElem_cons_zero]
    refine wpAnyH_ready (rs := [0, 6]) (by kernel_rfl) (by simp) ?_
    refine AllReadyH.cons (o := _) rfl (fun K hK => ?_) (AllReadyH.cons (o := _) rfl (fun K hK => ?_) AllReadyH.nil)
    · replace ob := obj_alloc ob (Obj.cells #[Value.int .i64 2, Value.int .i64 1] 3)
      have hbx := (Below.refl (w2.drew).heap.size (w2.drew)).alloc (Nat.le_refl _) (Obj.cells #[Value.int .i64 2, Value.int .i64 1] 3)
      replace h0r := h0r.below hbx
      replace il := il.next hbx
      replace hb := hb.trans (hbx.mono hb.size)
      replace cc : ((w2.drew).alloc (Obj.cells #[Value.int .i64 2, Value.int .i64 1] 3)).cell? ⟨bo, oo, none⟩ = some (Value.slice rA r0l rc) := (hbx.cell (by show bo < (w2.drew).heap.size; omega)).trans cc
      have oR0 := obj_new (w2.drew) (Obj.cells #[Value.int .i64 2, Value.int .i64 1] 3)
      have hMs : M ≤ ((w2.drew).alloc (Obj.cells #[Value.int .i64 2, Value.int .i64 1] 3)).heap.size := Nat.le_trans hMs hbx.size
      clear hbx
      have oR : ((w2.drew).alloc (Obj.cells #[Value.int .i64 2, Value.int .i64 1] 3)).heap[w2.heap.size]? = some (Obj.cells #[Value.int .i64 2, Value.int .i64 1] 3) := by first | exact oR0 | (have := oR0; simpa using this)
      clear oR0
      have hXE : (w2.drew).alloc (Obj.cells #[Value.int .i64 2, Value.int .i64 1] 3) = ((w2).alloc (Obj.cells #[Value.int .i64 2, Value.int .i64 1] 3)).drew := rfl
      rw [hXE] at ob oR h0r il hb cc hMs
      clear hXE
      go_simp
      refine hK.out _ _ (cc) (fun hHeld => ?_)
      clear hK K
      try simp only [Act.put, List.setIfInBounds_toArray, List.set_cons_zero, List.set_cons_succ, List.getElem_toArray, List.getElem_cons_succ, List.getElem_cons_zero]
      refine wpAnyH_ready (rs := [6]) (by kernel_rfl) (by simp) ?_
      refine AllReadyH.cons (o := _) rfl (fun K hK => ?_) AllReadyH.nil
      go_simp
      refine Calls.mono (joinParts_impl (cutA (some ⟨bo, oo, none⟩) sk 1) (sk - 1) t true _ il HJP.out) ?_
      rintro e y1 ⟨J, jk, rfl, _, _, hJ, hbJ⟩
      obtain ⟨aJ, haJ⟩ : ∃ a, a = (((w2).alloc (Obj.cells #[Value.int .i64 2, Value.int .i64 1] 3)).drew).heap.size := ⟨_, rfl⟩
      obtain ⟨bJ, hbJe⟩ : ∃ b, b = y1.heap.size := ⟨_, rfl⟩
      have hJb : ∀ g, (Value.slice J (jpG true (t.map Row.xs)).length jk).ownBlock = some g → g < bJ := fun g hg => by rw [hbJe]; exact (hJ.lt g hg).2
      rw [← haJ] at hJ
      have hMa : M ≤ aJ := by rw [haJ]; exact hMs
      have hMR0 := hMs
      replace ob := obj_below ob hbJ (obj_lt ob)
      replace oR := obj_below oR hbJ (obj_lt oR)
      have hRJ : w2.heap.size < aJ ∨ bJ ≤ w2.heap.size := .inl (by rw [haJ]; simp)
      replace h0r := h0r.below hbJ
      replace hb := hb.trans (hbJ.mono hb.size)
      replace cc : y1.cell? ⟨bo, oo, none⟩ = some (Value.slice rA r0l rc) := (hbJ.cell (by show bo < _; omega)).trans cc
      have hMs : M ≤ y1.heap.size := Nat.le_trans hMs hbJ.size
      replace il := il.next hbJ
      have hbJs : bJ ≤ y1.heap.size := by rw [hbJe]; exact Nat.le_refl _
      obtain ⟨js, hjs⟩ : ∃ j, j = jpG true (t.map Row.xs) := ⟨_, rfl⟩
      rw [← hjs] at hJ hJb ⊢
      have HJS := Lib.hid hjs
      obtain ⟨jl, hjl⟩ : ∃ n, n = js.length := ⟨_, rfl⟩
      have HJL := Lib.hid hjl
      rw [← hjl] at hJ hJb ⊢
      clear hbJ haJ hbJe hjs hjl
      go_wp2_with fail
      refine hK.out _ _ (cc) (fun hHeld => ?_)
      clear hK K
      try simp only [Act.put, List.setIfInBounds_toArray, List.set_cons_zero, List.set_cons_succ, List.getElem_toArray, List.getElem_cons_succ, List.getElem_cons_zero]
      refine wpAnyH_ready (rs := [7]) (by kernel_rfl) (by simp) ?_
      refine AllReadyH.cons (o := _) rfl (fun K hK => ?_) AllReadyH.nil
      replace ob := obj_alloc ob (Obj.cells #[Value.slice rA r0l rc, Value.slice J jl jk] 24)
      replace oR := obj_alloc oR (Obj.cells #[Value.slice rA r0l rc, Value.slice J jl jk] 24)
      replace hJ := hJ.alloc (Obj.cells #[Value.slice rA r0l rc, Value.slice J jl jk] 24)
      have hbx := (Below.refl (y1).heap.size (y1)).alloc (Nat.le_refl _) (Obj.cells #[Value.slice rA r0l rc, Value.slice J jl jk] 24)
      replace h0r := h0r.below hbx
      replace il := il.next hbx
      replace hb := hb.trans (hbx.mono hb.size)
      replace cc : ((y1).alloc (Obj.cells #[Value.slice rA r0l rc, Value.slice J jl jk] 24)).cell? ⟨bo, oo, none⟩ = some (Value.slice rA r0l rc) := (hbx.cell (by show bo < (y1).heap.size; omega)).trans cc
      have oO0 := obj_new (y1) (Obj.cells #[Value.slice rA r0l rc, Value.slice J jl jk] 24)
      have hMs : M ≤ ((y1).alloc (Obj.cells #[Value.slice rA r0l rc, Value.slice J jl jk] 24)).heap.size := Nat.le_trans hMs hbx.size
      clear hbx
      have oO : ((y1).alloc (Obj.cells #[Value.slice rA r0l rc, Value.slice J jl jk] 24)).heap[y1.heap.size]? = some (Obj.cells #[Value.slice rA r0l rc, Value.slice J jl jk] 24) := by first | exact oO0 | (have := oO0; simpa using this)
      clear oO0
      go_simp
      refine hK.out _ _ (cc) (fun hHeld => ?_)
      clear hK K
      try simp only [Act.put, List.setIfInBounds_toArray, List.set_cons_zero, List.set_cons_succ, List.getElem_toArray, List.getElem_cons_succ, List.getElem_cons_zero]
      refine wpAnyH_take (i := 8) (oi := _) (v := ?_) rfl (by kernel_rfl) (by kernel_rfl) (by kernel_rfl) (fun _ _ _ h => h) (Or.inl ⟨by rfl, ?_⟩) (by assumption) ?_
      rotate_left
      · intro w hSw
        try dsimp only at hSw
        go_simp
        all_goals with_reducible rfl
      try simp only [Act.put, List.setIfInBounds_toArray, List.set_cons_zero, List.set_cons_succ, List.getElem_toArray, List.getElem_cons_succ, List.getElem_cons_zero]
      have hJ2 : (((y1).alloc (Obj.cells #[Value.slice rA r0l rc, Value.slice J jl jk] 24))).ownsRow aJ 3 1 (Row.v ⟨J, jk, js⟩) js.length (js.map (Value.int .i64)) := by rw [show Row.v ⟨J, jk, js⟩ = Value.slice J jl jk by rw [HJL.out]; rfl, ← HJL.out]; exact hJ
      have hJb2 : ∀ g, (Row.v ⟨J, jk, js⟩).ownBlock = some g → g < bJ := fun g hg => by have := hJb g; rw [HJL.out] at this; exact this hg
      have oO2 : (((y1).alloc (Obj.cells #[Value.slice rA r0l rc, Value.slice J jl jk] 24))).heap[y1.heap.size]? = some (Obj.cells #[r0.v, Row.v ⟨J, jk, js⟩] 24) := by rw [HRV.out, show Row.v ⟨J, jk, js⟩ = Value.slice J jl jk by rw [HJL.out]; rfl]; exact oO
      have hrow := Own.three (cR := 2) (x := 2) (y := 1) h0r hMw (by omega) hMa oR rfl hJ2 hJb2 hRJ oO2 (by omega)
      obtain ⟨l0, l1, hOf, hbf⟩ := ret_cell (n := 2) (m := 2) ob hrow hb rfl rfl
      have hOF := Lib.hid hOf
      have hBF := Lib.hid hbf
      have g0 : (((y1).alloc (Obj.cells #[Value.slice rA r0l rc, Value.slice J jl jk] 24))).cell? ⟨w.heap.size, 0, none⟩ = some (Value.slice none 0 0) := (obj_cell ob).trans rfl
      have g1 : (((y1).alloc (Obj.cells #[Value.slice rA r0l rc, Value.slice J jl jk] 24))).cell? ⟨w.heap.size, 1, none⟩ = some (Value.slice none 0 0) := (obj_cell ob).trans rfl
      have g2 : (((y1).alloc (Obj.cells #[Value.slice rA r0l rc, Value.slice J jl jk] 24))).frozen? ⟨w.heap.size, 0, none⟩ = false := obj_frozen ob
      have g3 : (((y1).alloc (Obj.cells #[Value.slice rA r0l rc, Value.slice J jl jk] 24))).frozen? ⟨w.heap.size, 1, none⟩ = false := obj_frozen ob
      have hbo1 := HBO.out
      have cc2 : (((((y1).alloc (Obj.cells #[Value.slice rA r0l rc, Value.slice J jl jk] 24))).setCell ⟨w.heap.size, 0, none⟩ (.slice (some ⟨w2.heap.size, 0, none⟩) 2 2)).setCell ⟨w.heap.size, 1, none⟩ (.slice (some ⟨y1.heap.size, 0, none⟩) 2 2)).cell? ⟨bo, oo, none⟩ = some (Value.slice rA r0l rc) := (World.cell?_setCell_other _ _ _ _ (fun e => by injection e with e; omega)).trans ((World.cell?_setCell_other _ _ _ _ (fun e => by injection e with e; omega)).trans cc)
      clear hOf hbf hrow hJ hJ2 hJb hJb2 oO oO2 oR ob hb h0r il hbo1
      refine wpAnyH_ready (rs := [9]) (by kernel_rfl) (by simp) ?_
      refine AllReadyH.cons (o := _) rfl (fun K hK => ?_) AllReadyH.nil
      go_simp
      refine hK.out _ _ (cc2) (fun hHeld => ?_)
      clear hK K
      try simp only [Act.put, List.setIfInBounds_toArray, List.set_cons_zero, List.set_cons_succ, List.getElem_toArray, List.getElem_cons_succ, List.getElem_cons_zero]
      refine wpAnyH_done (by kernel_rfl) ?_ _
      go_wp2_with fail
      try simp only [Exit.inBlock, Exit.then]
      refine bodyPost_ret (v := .agg #[.slice (some ⟨w2.heap.size, 0, none⟩) 2 2, .slice (some ⟨y1.heap.size, 0, none⟩) 2 2]) (by simp [results, Tryz.results29, go_sem, l0, l1]) rfl ?_
      rw [HE.out.1, HE.out.2]
      exact ⟨_, _, _, _, [r0, ⟨J, jk, js⟩], rfl, by rw [HTT.out.1, HTT.out.2, ← HJS.out]; rfl, hOF.out, hBF.out⟩
    · go_simp
      refine Calls.mono (joinParts_impl (cutA (some ⟨bo, oo, none⟩) sk 1) (sk - 1) t true _ il HJP.out) ?_
      rintro e y2 ⟨J, jk, rfl, _, _, hJ, hbJ⟩
      obtain ⟨aJ, haJ⟩ : ∃ a, a = (w2.drew).heap.size := ⟨_, rfl⟩
      obtain ⟨bJ, hbJe⟩ : ∃ b, b = y2.heap.size := ⟨_, rfl⟩
      have hJb : ∀ g, (Value.slice J (jpG true (t.map Row.xs)).length jk).ownBlock = some g → g < bJ := fun g hg => by rw [hbJe]; exact (hJ.lt g hg).2
      rw [← haJ] at hJ
      have hMa : M ≤ aJ := by rw [haJ]; exact hMs
      have hMR0 := hMs
      replace ob := obj_below ob hbJ (obj_lt ob)
      replace h0r := h0r.below hbJ
      replace hb := hb.trans (hbJ.mono hb.size)
      replace cc : y2.cell? ⟨bo, oo, none⟩ = some (Value.slice rA r0l rc) := (hbJ.cell (by show bo < _; omega)).trans cc
      have hMs : M ≤ y2.heap.size := Nat.le_trans hMs hbJ.size
      replace il := il.next hbJ
      have hbJs : bJ ≤ y2.heap.size := by rw [hbJe]; exact Nat.le_refl _
      obtain ⟨js, hjs⟩ : ∃ j, j = jpG true (t.map Row.xs) := ⟨_, rfl⟩
      rw [← hjs] at hJ hJb ⊢
      have HJS := Lib.hid hjs
      obtain ⟨jl, hjl⟩ : ∃ n, n = js.length := ⟨_, rfl⟩
      have HJL := Lib.hid hjl
      rw [← hjl] at hJ hJb ⊢
      clear hbJ haJ hbJe hjs hjl
      go_wp2_with fail
      refine hK.out _ _ (cc) (fun hHeld => ?_)
      clear hK K
      try simp only [Act.put, List.setIfInBounds_toArray, List.set_cons_zero, List.set_cons_succ, List.getElem_toArray, List.getElem_cons_succ, List.getElem_cons_zero]
      refine wpAnyH_ready (rs := [0, 7]) (by kernel_rfl) (by simp) ?_
      refine AllReadyH.cons (o := _) rfl (fun K hK => ?_) (AllReadyH.cons (o := _) rfl (fun K hK => ?_) AllReadyH.nil)
      · replace ob := obj_alloc ob (Obj.cells #[Value.int .i64 2, Value.int .i64 1] 3)
        replace hJ := hJ.alloc (Obj.cells #[Value.int .i64 2, Value.int .i64 1] 3)
        have hbx := (Below.refl (y2).heap.size (y2)).alloc (Nat.le_refl _) (Obj.cells #[Value.int .i64 2, Value.int .i64 1] 3)
        replace h0r := h0r.below hbx
        replace il := il.next hbx
        replace hb := hb.trans (hbx.mono hb.size)
        replace cc : ((y2).alloc (Obj.cells #[Value.int .i64 2, Value.int .i64 1] 3)).cell? ⟨bo, oo, none⟩ = some (Value.slice rA r0l rc) := (hbx.cell (by show bo < (y2).heap.size; omega)).trans cc
        have oR0 := obj_new (y2) (Obj.cells #[Value.int .i64 2, Value.int .i64 1] 3)
        have hMs : M ≤ ((y2).alloc (Obj.cells #[Value.int .i64 2, Value.int .i64 1] 3)).heap.size := Nat.le_trans hMs hbx.size
        clear hbx
        have oR : ((y2).alloc (Obj.cells #[Value.int .i64 2, Value.int .i64 1] 3)).heap[y2.heap.size]? = some (Obj.cells #[Value.int .i64 2, Value.int .i64 1] 3) := by first | exact oR0 | (have := oR0; simpa using this)
        clear oR0
        have hRJ : y2.heap.size < aJ ∨ bJ ≤ y2.heap.size := .inr (by omega)
        go_simp
        refine hK.out _ _ (cc) (fun hHeld => ?_)
        clear hK K
        try simp only [Act.put, List.setIfInBounds_toArray, List.set_cons_zero, List.set_cons_succ, List.getElem_toArray, List.getElem_cons_succ, List.getElem_cons_zero]
        refine wpAnyH_ready (rs := [7]) (by kernel_rfl) (by simp) ?_
        refine AllReadyH.cons (o := _) rfl (fun K hK => ?_) AllReadyH.nil
        replace ob := obj_alloc ob (Obj.cells #[Value.slice rA r0l rc, Value.slice J jl jk] 24)
        replace hJ := hJ.alloc (Obj.cells #[Value.slice rA r0l rc, Value.slice J jl jk] 24)
        replace oR := obj_alloc oR (Obj.cells #[Value.slice rA r0l rc, Value.slice J jl jk] 24)
        have hbx := (Below.refl (((y2).alloc (Obj.cells #[Value.int .i64 2, Value.int .i64 1] 3))).heap.size (((y2).alloc (Obj.cells #[Value.int .i64 2, Value.int .i64 1] 3)))).alloc (Nat.le_refl _) (Obj.cells #[Value.slice rA r0l rc, Value.slice J jl jk] 24)
        replace h0r := h0r.below hbx
        replace il := il.next hbx
        replace hb := hb.trans (hbx.mono hb.size)
        replace cc : ((((y2).alloc (Obj.cells #[Value.int .i64 2, Value.int .i64 1] 3))).alloc (Obj.cells #[Value.slice rA r0l rc, Value.slice J jl jk] 24)).cell? ⟨bo, oo, none⟩ = some (Value.slice rA r0l rc) := (hbx.cell (by show bo < (((y2).alloc (Obj.cells #[Value.int .i64 2, Value.int .i64 1] 3))).heap.size; omega)).trans cc
        have oO0 := obj_new (((y2).alloc (Obj.cells #[Value.int .i64 2, Value.int .i64 1] 3))) (Obj.cells #[Value.slice rA r0l rc, Value.slice J jl jk] 24)
        have hMs : M ≤ ((((y2).alloc (Obj.cells #[Value.int .i64 2, Value.int .i64 1] 3))).alloc (Obj.cells #[Value.slice rA r0l rc, Value.slice J jl jk] 24)).heap.size := Nat.le_trans hMs hbx.size
        clear hbx
        have oO : ((((y2).alloc (Obj.cells #[Value.int .i64 2, Value.int .i64 1] 3))).alloc (Obj.cells #[Value.slice rA r0l rc, Value.slice J jl jk] 24)).heap[y2.heap.size + 1]? = some (Obj.cells #[Value.slice rA r0l rc, Value.slice J jl jk] 24) := by first | exact oO0 | (have := oO0; simpa using this)
        clear oO0
        go_simp
        refine hK.out _ _ (cc) (fun hHeld => ?_)
        clear hK K
        try simp only [Act.put, List.setIfInBounds_toArray, List.set_cons_zero, List.set_cons_succ, List.getElem_toArray, List.getElem_cons_succ, List.getElem_cons_zero]
        refine wpAnyH_take (i := 8) (oi := _) (v := ?_) rfl (by kernel_rfl) (by kernel_rfl) (by kernel_rfl) (fun _ _ _ h => h) (Or.inl ⟨by rfl, ?_⟩) (by assumption) ?_
        rotate_left
        · intro w hSw
          try dsimp only at hSw
          go_simp
          all_goals with_reducible rfl
        try simp only [Act.put, List.setIfInBounds_toArray, List.set_cons_zero, List.set_cons_succ, List.getElem_toArray, List.getElem_cons_succ, List.getElem_cons_zero]
        have hJ2 : (((((y2).alloc (Obj.cells #[Value.int .i64 2, Value.int .i64 1] 3))).alloc (Obj.cells #[Value.slice rA r0l rc, Value.slice J jl jk] 24))).ownsRow aJ 3 1 (Row.v ⟨J, jk, js⟩) js.length (js.map (Value.int .i64)) := by rw [show Row.v ⟨J, jk, js⟩ = Value.slice J jl jk by rw [HJL.out]; rfl, ← HJL.out]; exact hJ
        have hJb2 : ∀ g, (Row.v ⟨J, jk, js⟩).ownBlock = some g → g < bJ := fun g hg => by have := hJb g; rw [HJL.out] at this; exact this hg
        have oO2 : (((((y2).alloc (Obj.cells #[Value.int .i64 2, Value.int .i64 1] 3))).alloc (Obj.cells #[Value.slice rA r0l rc, Value.slice J jl jk] 24))).heap[y2.heap.size + 1]? = some (Obj.cells #[r0.v, Row.v ⟨J, jk, js⟩] 24) := by rw [HRV.out, show Row.v ⟨J, jk, js⟩ = Value.slice J jl jk by rw [HJL.out]; rfl]; exact oO
        have hrow := Own.three (cR := 2) (x := 2) (y := 1) h0r hMw (by omega) hMa oR rfl hJ2 hJb2 hRJ oO2 (by omega)
        obtain ⟨l0, l1, hOf, hbf⟩ := ret_cell (n := 2) (m := 2) ob hrow hb rfl rfl
        have hOF := Lib.hid hOf
        have hBF := Lib.hid hbf
        have g0 : (((((y2).alloc (Obj.cells #[Value.int .i64 2, Value.int .i64 1] 3))).alloc (Obj.cells #[Value.slice rA r0l rc, Value.slice J jl jk] 24))).cell? ⟨w.heap.size, 0, none⟩ = some (Value.slice none 0 0) := (obj_cell ob).trans rfl
        have g1 : (((((y2).alloc (Obj.cells #[Value.int .i64 2, Value.int .i64 1] 3))).alloc (Obj.cells #[Value.slice rA r0l rc, Value.slice J jl jk] 24))).cell? ⟨w.heap.size, 1, none⟩ = some (Value.slice none 0 0) := (obj_cell ob).trans rfl
        have g2 : (((((y2).alloc (Obj.cells #[Value.int .i64 2, Value.int .i64 1] 3))).alloc (Obj.cells #[Value.slice rA r0l rc, Value.slice J jl jk] 24))).frozen? ⟨w.heap.size, 0, none⟩ = false := obj_frozen ob
        have g3 : (((((y2).alloc (Obj.cells #[Value.int .i64 2, Value.int .i64 1] 3))).alloc (Obj.cells #[Value.slice rA r0l rc, Value.slice J jl jk] 24))).frozen? ⟨w.heap.size, 1, none⟩ = false := obj_frozen ob
        have hbo1 := HBO.out
        have cc2 : (((((((y2).alloc (Obj.cells #[Value.int .i64 2, Value.int .i64 1] 3))).alloc (Obj.cells #[Value.slice rA r0l rc, Value.slice J jl jk] 24))).setCell ⟨w.heap.size, 0, none⟩ (.slice (some ⟨y2.heap.size, 0, none⟩) 2 2)).setCell ⟨w.heap.size, 1, none⟩ (.slice (some ⟨y2.heap.size + 1, 0, none⟩) 2 2)).cell? ⟨bo, oo, none⟩ = some (Value.slice rA r0l rc) := (World.cell?_setCell_other _ _ _ _ (fun e => by injection e with e; omega)).trans ((World.cell?_setCell_other _ _ _ _ (fun e => by injection e with e; omega)).trans cc)
        clear hOf hbf hrow hJ hJ2 hJb hJb2 oO oO2 oR ob hb h0r il hbo1
        refine wpAnyH_ready (rs := [9]) (by kernel_rfl) (by simp) ?_
        refine AllReadyH.cons (o := _) rfl (fun K hK => ?_) AllReadyH.nil
        go_simp
        refine hK.out _ _ (cc2) (fun hHeld => ?_)
        clear hK K
        try simp only [Act.put, List.setIfInBounds_toArray, List.set_cons_zero, List.set_cons_succ, List.getElem_toArray, List.getElem_cons_succ, List.getElem_cons_zero]
        refine wpAnyH_done (by kernel_rfl) ?_ _
        go_wp2_with fail
        try simp only [Exit.inBlock, Exit.then]
        refine bodyPost_ret (v := .agg #[.slice (some ⟨y2.heap.size, 0, none⟩) 2 2, .slice (some ⟨y2.heap.size + 1, 0, none⟩) 2 2]) (by simp [results, Tryz.results29, go_sem, l0, l1]) rfl ?_
        rw [HE.out.1, HE.out.2]
        exact ⟨_, _, _, _, [r0, ⟨J, jk, js⟩], rfl, by rw [HTT.out.1, HTT.out.2, ← HJS.out]; rfl, hOF.out, hBF.out⟩
      · replace ob := obj_alloc ob (Obj.cells #[Value.slice rA r0l rc, Value.slice J jl jk] 24)
        replace hJ := hJ.alloc (Obj.cells #[Value.slice rA r0l rc, Value.slice J jl jk] 24)
        have hbx := (Below.refl (y2).heap.size (y2)).alloc (Nat.le_refl _) (Obj.cells #[Value.slice rA r0l rc, Value.slice J jl jk] 24)
        replace h0r := h0r.below hbx
        replace il := il.next hbx
        replace hb := hb.trans (hbx.mono hb.size)
        replace cc : ((y2).alloc (Obj.cells #[Value.slice rA r0l rc, Value.slice J jl jk] 24)).cell? ⟨bo, oo, none⟩ = some (Value.slice rA r0l rc) := (hbx.cell (by show bo < (y2).heap.size; omega)).trans cc
        have oO0 := obj_new (y2) (Obj.cells #[Value.slice rA r0l rc, Value.slice J jl jk] 24)
        have hMs : M ≤ ((y2).alloc (Obj.cells #[Value.slice rA r0l rc, Value.slice J jl jk] 24)).heap.size := Nat.le_trans hMs hbx.size
        clear hbx
        have oO : ((y2).alloc (Obj.cells #[Value.slice rA r0l rc, Value.slice J jl jk] 24)).heap[y2.heap.size]? = some (Obj.cells #[Value.slice rA r0l rc, Value.slice J jl jk] 24) := by first | exact oO0 | (have := oO0; simpa using this)
        clear oO0
        go_simp
        refine hK.out _ _ (cc) (fun hHeld => ?_)
        clear hK K
        try simp only [Act.put, List.setIfInBounds_toArray, List.set_cons_zero, List.set_cons_succ, List.getElem_toArray, List.getElem_cons_succ, List.getElem_cons_zero]
        refine wpAnyH_ready (rs := [0]) (by kernel_rfl) (by simp) ?_
        refine AllReadyH.cons (o := _) rfl (fun K hK => ?_) AllReadyH.nil
        replace ob := obj_alloc ob (Obj.cells #[Value.int .i64 2, Value.int .i64 1] 3)
        replace hJ := hJ.alloc (Obj.cells #[Value.int .i64 2, Value.int .i64 1] 3)
        replace oO := obj_alloc oO (Obj.cells #[Value.int .i64 2, Value.int .i64 1] 3)
        have hbx := (Below.refl (((y2).alloc (Obj.cells #[Value.slice rA r0l rc, Value.slice J jl jk] 24))).heap.size (((y2).alloc (Obj.cells #[Value.slice rA r0l rc, Value.slice J jl jk] 24)))).alloc (Nat.le_refl _) (Obj.cells #[Value.int .i64 2, Value.int .i64 1] 3)
        replace h0r := h0r.below hbx
        replace il := il.next hbx
        replace hb := hb.trans (hbx.mono hb.size)
        replace cc : ((((y2).alloc (Obj.cells #[Value.slice rA r0l rc, Value.slice J jl jk] 24))).alloc (Obj.cells #[Value.int .i64 2, Value.int .i64 1] 3)).cell? ⟨bo, oo, none⟩ = some (Value.slice rA r0l rc) := (hbx.cell (by show bo < (((y2).alloc (Obj.cells #[Value.slice rA r0l rc, Value.slice J jl jk] 24))).heap.size; omega)).trans cc
        have oR0 := obj_new (((y2).alloc (Obj.cells #[Value.slice rA r0l rc, Value.slice J jl jk] 24))) (Obj.cells #[Value.int .i64 2, Value.int .i64 1] 3)
        have hMs : M ≤ ((((y2).alloc (Obj.cells #[Value.slice rA r0l rc, Value.slice J jl jk] 24))).alloc (Obj.cells #[Value.int .i64 2, Value.int .i64 1] 3)).heap.size := Nat.le_trans hMs hbx.size
        clear hbx
        have oR : ((((y2).alloc (Obj.cells #[Value.slice rA r0l rc, Value.slice J jl jk] 24))).alloc (Obj.cells #[Value.int .i64 2, Value.int .i64 1] 3)).heap[y2.heap.size + 1]? = some (Obj.cells #[Value.int .i64 2, Value.int .i64 1] 3) := by first | exact oR0 | (have := oR0; simpa using this)
        clear oR0
        have hRJ : y2.heap.size + 1 < aJ ∨ bJ ≤ y2.heap.size + 1 := .inr (by omega)
        go_simp
        refine hK.out _ _ (cc) (fun hHeld => ?_)
        clear hK K
        try simp only [Act.put, List.setIfInBounds_toArray, List.set_cons_zero, List.set_cons_succ, List.getElem_toArray, List.getElem_cons_succ, List.getElem_cons_zero]
        refine wpAnyH_take (i := 8) (oi := _) (v := ?_) rfl (by kernel_rfl) (by kernel_rfl) (by kernel_rfl) (fun _ _ _ h => h) (Or.inl ⟨by rfl, ?_⟩) (by assumption) ?_
        rotate_left
        · intro w hSw
          try dsimp only at hSw
          go_simp
          all_goals with_reducible rfl
        try simp only [Act.put, List.setIfInBounds_toArray, List.set_cons_zero, List.set_cons_succ, List.getElem_toArray, List.getElem_cons_succ, List.getElem_cons_zero]
        have hJ2 : (((((y2).alloc (Obj.cells #[Value.slice rA r0l rc, Value.slice J jl jk] 24))).alloc (Obj.cells #[Value.int .i64 2, Value.int .i64 1] 3))).ownsRow aJ 3 1 (Row.v ⟨J, jk, js⟩) js.length (js.map (Value.int .i64)) := by rw [show Row.v ⟨J, jk, js⟩ = Value.slice J jl jk by rw [HJL.out]; rfl, ← HJL.out]; exact hJ
        have hJb2 : ∀ g, (Row.v ⟨J, jk, js⟩).ownBlock = some g → g < bJ := fun g hg => by have := hJb g; rw [HJL.out] at this; exact this hg
        have oO2 : (((((y2).alloc (Obj.cells #[Value.slice rA r0l rc, Value.slice J jl jk] 24))).alloc (Obj.cells #[Value.int .i64 2, Value.int .i64 1] 3))).heap[y2.heap.size]? = some (Obj.cells #[r0.v, Row.v ⟨J, jk, js⟩] 24) := by rw [HRV.out, show Row.v ⟨J, jk, js⟩ = Value.slice J jl jk by rw [HJL.out]; rfl]; exact oO
        have hrow := Own.three (cR := 2) (x := 2) (y := 1) h0r hMw (by omega) hMa oR rfl hJ2 hJb2 hRJ oO2 (by omega)
        obtain ⟨l0, l1, hOf, hbf⟩ := ret_cell (n := 2) (m := 2) ob hrow hb rfl rfl
        have hOF := Lib.hid hOf
        have hBF := Lib.hid hbf
        have g0 : (((((y2).alloc (Obj.cells #[Value.slice rA r0l rc, Value.slice J jl jk] 24))).alloc (Obj.cells #[Value.int .i64 2, Value.int .i64 1] 3))).cell? ⟨w.heap.size, 0, none⟩ = some (Value.slice none 0 0) := (obj_cell ob).trans rfl
        have g1 : (((((y2).alloc (Obj.cells #[Value.slice rA r0l rc, Value.slice J jl jk] 24))).alloc (Obj.cells #[Value.int .i64 2, Value.int .i64 1] 3))).cell? ⟨w.heap.size, 1, none⟩ = some (Value.slice none 0 0) := (obj_cell ob).trans rfl
        have g2 : (((((y2).alloc (Obj.cells #[Value.slice rA r0l rc, Value.slice J jl jk] 24))).alloc (Obj.cells #[Value.int .i64 2, Value.int .i64 1] 3))).frozen? ⟨w.heap.size, 0, none⟩ = false := obj_frozen ob
        have g3 : (((((y2).alloc (Obj.cells #[Value.slice rA r0l rc, Value.slice J jl jk] 24))).alloc (Obj.cells #[Value.int .i64 2, Value.int .i64 1] 3))).frozen? ⟨w.heap.size, 1, none⟩ = false := obj_frozen ob
        have hbo1 := HBO.out
        have cc2 : (((((((y2).alloc (Obj.cells #[Value.slice rA r0l rc, Value.slice J jl jk] 24))).alloc (Obj.cells #[Value.int .i64 2, Value.int .i64 1] 3))).setCell ⟨w.heap.size, 0, none⟩ (.slice (some ⟨y2.heap.size + 1, 0, none⟩) 2 2)).setCell ⟨w.heap.size, 1, none⟩ (.slice (some ⟨y2.heap.size, 0, none⟩) 2 2)).cell? ⟨bo, oo, none⟩ = some (Value.slice rA r0l rc) := (World.cell?_setCell_other _ _ _ _ (fun e => by injection e with e; omega)).trans ((World.cell?_setCell_other _ _ _ _ (fun e => by injection e with e; omega)).trans cc)
        clear hOf hbf hrow hJ hJ2 hJb hJb2 oO oO2 oR ob hb h0r il hbo1
        refine wpAnyH_ready (rs := [9]) (by kernel_rfl) (by simp) ?_
        refine AllReadyH.cons (o := _) rfl (fun K hK => ?_) AllReadyH.nil
        go_simp
        refine hK.out _ _ (cc2) (fun hHeld => ?_)
        clear hK K
        try simp only [Act.put, List.setIfInBounds_toArray, List.set_cons_zero, List.set_cons_succ, List.getElem_toArray, List.getElem_cons_succ, List.getElem_cons_zero]
        refine wpAnyH_done (by kernel_rfl) ?_ _
        go_wp2_with fail
        try simp only [Exit.inBlock, Exit.then]
        refine bodyPost_ret (v := .agg #[.slice (some ⟨y2.heap.size + 1, 0, none⟩) 2 2, .slice (some ⟨y2.heap.size, 0, none⟩) 2 2]) (by simp [results, Tryz.results29, go_sem, l0, l1]) rfl ?_
        rw [HE.out.1, HE.out.2]
        exact ⟨_, _, _, _, [r0, ⟨J, jk, js⟩], rfl, by rw [HTT.out.1, HTT.out.2, ← HJS.out]; rfl, hOF.out, hBF.out⟩
  have HE := Lib.hid (split_eq4 H1.out H2.out (by rw [hsl]; exact h2))
  have d2 : decide ((ss2.length : Int) > 1) = false := decide_eq_false (by omega)
  have d3 : decide (1 < (ss2.length : Int)) = false := decide_eq_false (by omega)
  have hn2 : 2 ≤ p.length := by have := H1.out; omega
  clear hOs HSZ HX hsl h2
  have hbL := (hbw.alloc hbw.size (Obj.cells #[Value.slice none 0 0, Value.slice none 0 0] 28)).alloc (by simp; have := hbw.size; omega) (.cells #[] 3)
  have obL := obj_alloc (obj_alloc ob (Obj.cells #[Value.slice none 0 0, Value.slice none 0 0] 28)) (.cells #[] 3)
  have ogL := obj_alloc (obj_new w2 (Obj.cells #[Value.slice none 0 0, Value.slice none 0 0] 28)) (.cells #[] 3)
  have howL : ((w2.alloc (Obj.cells #[Value.slice none 0 0, Value.slice none 0 0] 28)).alloc (.cells #[] 3)).ownsRow (w2.heap.size + 1) 3 1 (Row.v ⟨some ⟨w2.heap.size + 1, 0, none⟩, 0, []⟩) ([] : List Int).length (([] : List Int).map (Value.int .i64)) := by
    have := World.ownsRow_lit (base := w2.heap.size + 1) (w2.alloc (Obj.cells #[Value.slice none 0 0, Value.slice none 0 0] 28)) (e := 3) (size := 1) #[] 0 (by simp) (by unfold maxLen; omega) rfl
    simpa [Row.v] using this
  have hOL : Own ((w2.alloc (Obj.cells #[Value.slice none 0 0, Value.slice none 0 0] 28)).alloc (.cells #[] 3)) (w2.heap.size + 1) ((w2.alloc (Obj.cells #[Value.slice none 0 0, Value.slice none 0 0] 28)).alloc (.cells #[] 3)).heap.size [⟨some ⟨w2.heap.size + 1, 0, none⟩, 0, ([] : List (List Int)).map headL⟩] [⟨none, 0, ([] : List Row).map Row.v⟩] := (Own.one howL (Nat.le_refl _)).with_ (World.ownsRow_nil _ _ _ _) (Nat.le_refl _)
  have hG0 : w.heap.size < w2.heap.size := by omega
  obtain ⟨bp, op, rfl, hbp, hcp⟩ := h.rd (by omega)
  have HCP := Lib.hid hcp
  have hcap := h.cap
  clear howL ob hbw hcp
  go_wp2_with fail
  obtain ⟨G, hG⟩ : ∃ G, G = w2.heap.size := ⟨_, rfl⟩
  rw [← hG] at ogL hOL hG0 ⊢
  clear hG
  go_loopw [6, 7] (fun v i wr => ∃ (ds : List (List Int)) (f : Nat) (s : List Int) (H : Option Addr) (hc : Nat) (P : Option Addr) (pk : Nat) (ps : List Row), i = .int .i64 (ds.flatten.length : Nat) ∧ v = .slice H ds.length hc ∧ Hid (BlkSt p ds f s) ∧ wr.heap[w.heap.size]? = some (Obj.cells #[Value.slice none 0 0, Value.slice none 0 0] 28) ∧ wr.heap[G]? = some (Obj.cells #[Value.slice none 0 0, Value.slice P ps.length pk] 28) ∧
    Own wr (G + 1) wr.heap.size (⟨H, hc, ds.map headL⟩ :: ps) [⟨P, pk, ps.map Row.v⟩] ∧ Hid (ps.map Row.xs = ds.map patL) ∧ Below w.heap.size w wr) (fun _ i _ => p.length - (intOf i).toNat)
  case atStart => exact ⟨[], p.length, p, _, 0, none, 0, [], rfl, rfl, Lib.hid (BlkSt.start p), obL, ogL, hOL, Lib.hid rfl, hbL⟩
  case round =>
    clear obL ogL hOL hbL
    obtain ⟨ds, f, s, H, hc, P, pk, ps, rfl, rfl, HST, ob, og, hO, HPS, hb⟩ := hrel
    have hlen := HST.out.len
    have hcnt := (HST.out.cnt HP.out hn2).1
    have hpsl : ps.length = ds.length := by have h1 := congrArg List.length HPS.out; rwa [List.length_map, List.length_map] at h1
    have hsz := hb.size
    have hGs : G + 1 ≤ wr.heap.size := obj_lt og
    obtain ⟨a, ha⟩ : ∃ a, a = ds.flatten.length := ⟨_, rfl⟩
    have HA := Lib.hid ha
    have HDR := Lib.hid (show p.drop a = s by rw [ha]; exact HST.out.drop)
    rw [← ha] at hlen ⊢
    have hlen1 : a + s.length ≤ p.length := by omega
    have hlen2 : p.length ≤ a + s.length := by omega
    have hps1 : ps.length ≤ ds.length := by omega
    have HPSL := Lib.hid hpsl
    clear ha hlen hpsl
    by_cases hs : s = []
    case neg =>
      have hsl := len_pos hs
      obtain ⟨f', L, hL, hL1, hLs, hLn, hst', hfl⟩ := HST.out.next hs hn2
      have HL := Lib.hid hL
      have HST2 := Lib.hid hst'
      have HFL := Lib.hid (show (ds ++ [s.take L]).flatten.length = a + L by rw [hfl, HA.out])
      have hda : decide ((a : Int) < (p.length : Int)) = true := decide_eq_true (by omega)
      have hai : (a : Int) < (p.length : Int) := by omega
      have e0 : IntKind.i64.wrap ((p.length : Int) - 1) = (p.length : Int) - 1 := IntWalk.i64_in _ (by omega)
      have HV := Lib.hid (perm_small HP.out)
      have hin := h.next hb
      have HSEG := Lib.hid (show ∀ k, 1 ≤ k → segL p a (a + k - 1) = s.take k from fun k hk => by unfold segL; rw [HDR.out, show a + k - 1 - a + 1 = k by omega])
      clear hL hst' hfl hs
      go_wp2_with fail
      have HL1 := Lib.hid (show longL p.length s 1 = 1 by rw [longL_succ]; split <;> rfl)
      have e6 : IntKind.i64.wrap ((a : Int) + 1) = (a : Int) + 1 := IntWalk.i64_in _ (by omega)
      have e7 : IntKind.i64.wrap ((a : Int) + 2) = (a : Int) + 2 := IntWalk.i64_in _ (by omega)
      go_loop [8, 9] (fun tt kk => ∃ j : Nat, 1 ≤ j ∧ j ≤ s.length ∧ kk = .int .i64 ((a + j + 1 : Nat) : Int) ∧ tt = .int .i64 ((a + longL p.length s j : Nat) : Int)) (fun _ kk => p.length + 1 - (intOf kk).toNat)
      case atStart => exact ⟨1, Nat.le_refl _, hsl, by go_num, by rw [HL1.out]; go_num⟩
      case round =>
        obtain ⟨j, hj1, hjs, rfl, rfl⟩ := hrel
        obtain ⟨LJ, hLJ⟩ : ∃ x, x = longL p.length s j := ⟨_, rfl⟩
        have HLJ := Lib.hid hLJ
        obtain ⟨K, hK⟩ : ∃ K, K = a + j + 1 := ⟨_, rfl⟩
        have HKK := Lib.hid hK
        rw [← hLJ, ← hK]
        clear hLJ
        have hll := (longL_facts (n := p.length) (s := s) hn2 j hj1 hjs).2.1
        rw [← HLJ.out] at hll
        rcases Nat.lt_or_ge j s.length with hlt | hge
        · have hKp : K ≤ p.length := by omega
          have dk : decide ((K : Int) ≤ (p.length : Int)) = true := decide_eq_true (by omega)
          have hKi : (K : Int) ≤ (p.length : Int) := by omega
          have e1 : IntKind.i64.wrap ((K : Int) - (a : Int)) = ((j + 1 : Nat) : Int) := by rw [IntWalk.i64_in _ (by omega)]; omega
          obtain ⟨j1, hj1e⟩ : ∃ x, x = j + 1 := ⟨_, rfl⟩
          rw [← hj1e] at e1
          have HLS := Lib.hid (longL_succ p.length s j)
          have HSK := Lib.hid (show (p.drop a).take (K - a) = s.take (j + 1) by rw [HDR.out, show K - a = j + 1 by omega])
          have e2 : IntKind.i64.wrap ((K : Int) + 1) = (K : Int) + 1 := IntWalk.i64_in _ (by omega)
          have haK : a < K := by omega
          clear hK
          by_cases hn : j + 1 < p.length
          · have d6 : decide ((j1 : Int) < (p.length : Int)) = true := decide_eq_true (by omega)
            have hj1i : (j1 : Int) < (p.length : Int) := by omega
            have HC := Lib.hid (isInterval_any (some ⟨bp, op, none⟩) c p a K wr hin haK hKp HV.out)
            rw [HSK.out] at HC
            have HJ1 := Lib.hid hj1e
            rcases hiv : ivB (s.take (j + 1)) with _ | _
            · have HX2 := Lib.hid (show longL p.length s (j + 1) = LJ by rw [HLS.out, if_neg (by rw [hiv]; simp), HLJ.out])
              rw [hiv] at HC
              clear hiv hj1e
              go_wp2_with fail
              (with_reducible refine HC.out.mono ?_)
              rintro e w' ⟨rfl, rfl⟩
              go_wp2_with fail
              go_round
              case rel => exact ⟨j + 1, by omega, by omega, by rw [show a + (j + 1) + 1 = K + 1 by have := HKK.out; omega]; go_num, by first | (rw [HX2.out]; done) | (rw [HX2.out]; go_num)⟩
              case measure => simp [intOf]; omega
            · have HX2 := Lib.hid (show longL p.length s (j + 1) = j + 1 by rw [HLS.out, if_pos (by rw [hiv]; simpa using hn)])
              rw [hiv] at HC
              clear hiv hj1e
              go_wp2_with fail
              (with_reducible refine HC.out.mono ?_)
              rintro e w' ⟨rfl, rfl⟩
              go_wp2_with fail
              go_round
              case rel => exact ⟨j + 1, by omega, by omega, by rw [show a + (j + 1) + 1 = K + 1 by have := HKK.out; omega]; go_num, by rw [HX2.out, show a + (j + 1) = K by have := HKK.out; omega]⟩
              case measure => simp [intOf]; omega
          · have d6 : decide ((j1 : Int) < (p.length : Int)) = false := decide_eq_false (by omega)
            have hj1i : ¬ (j1 : Int) < (p.length : Int) := by omega
            have HX2 := Lib.hid (show longL p.length s (j + 1) = LJ by rw [HLS.out, if_neg (by simp; intro h; omega), HLJ.out])
            clear hj1e
            go_wp2_with fail
            go_round
            case rel => exact ⟨j + 1, by omega, by omega, by rw [show a + (j + 1) + 1 = K + 1 by have := HKK.out; omega]; go_num, by first | (rw [HX2.out]; done) | (rw [HX2.out]; go_num)⟩
            case measure => simp [intOf]; omega
        · have hje : j = s.length := by omega
          have hLe : LJ = L := by rw [HLJ.out, HL.out, hje]
          have dk : decide ((K : Int) ≤ (p.length : Int)) = false := decide_eq_false (by omega)
          have hKi : ¬ (K : Int) ≤ (p.length : Int) := by omega
          obtain ⟨T, hT⟩ : ∃ T, T = a + LJ := ⟨_, rfl⟩
          rw [← hT]
          have hTL : T = a + L := by rw [hT, hLe]
          have hT1 : T ≤ a + L := by omega
          have hT2 : a + L ≤ T := by omega
          have HTL := Lib.hid hTL
          clear hT hLe hje hK HKK hll hTL
          obtain ⟨b, hbd0⟩ : ∃ b, b = s.take L := ⟨_, rfl⟩
          have HBE := Lib.hid (show (p.take (a + L)).drop a = b by rw [hbd0, ← HDR.out, List.drop_take, show a + L - a = L by omega])
          have HLN := Lib.hid (show ((p.take (a + L)).drop a).length = L by simp; omega)
          have hsl := fun w => run_cut2 (P := Tryz.prog) (t := 24) Tryz.underlying24 sizeI (some ⟨bp, op, none⟩) p.length c a (a + L) (a : Int) (T : Int) rfl (by omega) (by omega) (by omega) w
          have hla : a + L - a = L := by omega
          have HHD := Lib.hid (show p[a]'(by omega) = headL b by
            have h1 : b[0]? = p[a]? := by rw [hbd0, ← HDR.out, List.getElem?_take_of_lt (by omega), List.getElem?_drop, Nat.add_zero]
            unfold headL
            rw [h1, List.getElem?_eq_getElem (by omega)]; rfl)
          rw [← hbd0] at HST2 HFL
          have hpl8 : ps.length ≤ 8 := by omega
          clear hbd0
          have c1 : wr.cell? ⟨bp, op + a, none⟩ = some (.int .i64 (headL b)) := by rw [← HHD.out]; exact (hb.cell hbp).trans (HCP.out a (by omega))
          have hown : wr.ownsRow (G + 1) 3 1 (.slice H ds.length hc) ds.length ((ds.map headL).map (Value.int .i64)) := by
            have := hO.rows ⟨H, hc, ds.map headL⟩ (by simp)
            simpa [Row.v] using this
          have hs2 := hb.size
          have hGz := obj_lt og
          have hl0 : (0 : Int) ≤ (a : Int) := Int.natCast_nonneg _
          clear hin
          go_wp2_with (at_builtin; refine wpList_append_own_at _ rfl _ _ 24 rfl (G + 1) 3 i0 (.int .i64 0) 1 8 Tryz.underlying24 hi hz0 hz1 hz2 rfl (by decide) _ _ _ rfl (World.ownsRow.alloc hown _) ⟨wr.heap.size, 0, none⟩ 1 1 [.int .i64 (headL b)] rfl rfl (cell_one_new _ _ _) (by intro u hu; simp at hu; subst hu; rfl) (by unfold maxLen; omega) (by omega) (by simp; omega) ?_; intro v1 w1 hown1 hgrow1 _ hat1)
          obtain ⟨H2, hc2, rfl, _, _⟩ := own_shape hown1
          have hal := (Below.refl wr.heap.size wr).alloc (Nat.le_refl _) (Obj.cells #[Value.int .i64 (headL b)] 3)
          have hne : ∀ g, g ≤ G → some g ≠ (Value.slice H ds.length hc).ownBlock := fun g hg e => by have := (hown.lt g e.symm).1; omega
          have og3 := (hgrow1.block G (by simp; omega) (hne G (Nat.le_refl _))).trans (obj_alloc og (Obj.cells #[Value.int .i64 (headL b)] 3))
          have ob3 := (hgrow1.block w.heap.size (by simp; omega) (hne w.heap.size (by omega))).trans (obj_alloc ob (Obj.cells #[Value.int .i64 (headL b)] 3))
          have hO3 := Own.push (hO.below hal) (by simp) (by simp) (x := headL b) (by rw [List.map_append]; exact hown1) hgrow1 hat1
          have hb3 := (hb.alloc hs2 (Obj.cells #[Value.int .i64 (headL b)] 3)).grown hgrow1 (by simp; omega) (fun g hg => by have := (hown.lt g hg).1; omega)
          clear hown1 hgrow1 hat1 hown hal hne og ob hO hb c1
          obtain ⟨wy, rfl⟩ : ∃ wy : World, wy = w1 := ⟨_, rfl⟩
          have hGy : G + 1 ≤ wy.heap.size := obj_lt og3
          have hin2 := h.next hb3
          have HCUT := Lib.hid ((hin2.rd.take (a + L)).cut (k := a) (c := c) (by simp; omega) (by simp; omega))
          go_upto_region 20 with (fail)
          go_cut [] from 81 to 89 (fun wz => Hid (∃ (P : Option Addr) (pk : Nat) (ps : List Row), wz.heap[G]? = some (Obj.cells #[Value.slice none 0 0, Value.slice P ps.length pk] 28) ∧ wz.heap[w.heap.size]? = some (Obj.cells #[Value.slice none 0 0, Value.slice none 0 0] 28) ∧ Own wz (G + 1) wz.heap.size (⟨H2, hc2, ds.map headL ++ [headL b]⟩ :: ps) [⟨P, pk, ps.map Row.v⟩] ∧ ps.map Row.xs = (ds ++ [b]).map patL ∧ Below w.heap.size w wz))
          case first =>
            have hOd := hO3.dr (Dr.refl wy).drew
            have og : wy.drew.heap[G]? = some (Obj.cells #[Value.slice none 0 0, Value.slice P ps.length pk] 28) := og3
            have ob : wy.drew.heap[w.heap.size]? = some (Obj.cells #[Value.slice none 0 0, Value.slice none 0 0] 28) := ob3
            have fG : wy.drew.cell? ⟨G, 1, none⟩ = some (Value.slice P ps.length pk) := (obj_cell og).trans rfl
            have hbd := below_dr hb3 (Dr.refl wy).drew
            have hGs' : wy.drew.heap.size = wy.heap.size := rfl
            clear hO3 hb3 og3 ob3
            go_wp2_with fail
            refine wp_region_held_drew (S := (fun _ => True)) (by kernel_rfl) trivial (fun hHeld => ?_)
            refine wpAnyH_take (i := 0) (oi := _) (v := ?_) rfl (by kernel_rfl) (by kernel_rfl) (by kernel_rfl) (fun _ _ _ h => h) (Or.inl ⟨by rfl, ?_⟩) (by assumption) ?_
            rotate_left
            · intro w hSw
              try dsimp only at hSw
              go_simp
              all_goals with_reducible rfl
            try simp only [Act.put, List.setIfInBounds_toArray, List.set_cons_zero, List.set_cons_succ, List.getElem_toArray, List.getElem_cons_zero]
            refine wpAnyH_take (i := 2) (oi := _) (v := ?_) rfl (by kernel_rfl) (by kernel_rfl) (by kernel_rfl) (fun _ _ _ h => h) (Or.inl ⟨by rfl, ?_⟩) (by assumption) ?_
            rotate_left
            · intro w hSw
              try dsimp only at hSw
              go_simp
              all_goals with_reducible rfl
            try simp only [Act.put, List.setIfInBounds_toArray, List.set_cons_zero, List.set_cons_succ, List.getElem_toArray, List.getElem_cons_succ, List.getElem_cons_zero]
            refine wpAnyH_take (i := 3) (oi := _) (v := ?_) rfl (by kernel_rfl) (by kernel_rfl) (by kernel_rfl) (fun _ _ _ h => h) (Or.inl ⟨by rfl, ?_⟩) (by assumption) ?_
            rotate_left
            · intro w hSw
              try dsimp only at hSw
              go_simp
              all_goals with_reducible rfl
            try simp only [Act.put, List.setIfInBounds_toArray, List.set_cons_zero, List.set_cons_succ, List.getElem_toArray, List.getElem_cons_succ, List.getElem_cons_zero]
            refine wpAnyH_take (i := 4) (oi := _) (v := ?_) rfl (by kernel_rfl) (by kernel_rfl) (by kernel_rfl) (fun _ _ _ h => h) (Or.inl ⟨by rfl, ?_⟩) (by assumption) ?_
            rotate_left
            · intro w hSw
              try dsimp only at hSw
              go_simp
              all_goals with_reducible rfl
            try simp only [Act.put, List.setIfInBounds_toArray, List.set_cons_zero, List.set_cons_succ, List.getElem_toArray, List.getElem_cons_succ, List.getElem_cons_zero]
            refine wpAnyH_take (i := 5) (oi := _) (v := ?_) rfl (by kernel_rfl) (by kernel_rfl) (by kernel_rfl) (fun _ _ _ h => h) (Or.inl ⟨by rfl, ?_⟩) (by assumption) ?_
            rotate_left
            · intro w hSw
              try dsimp only at hSw
              go_simp
              all_goals with_reducible rfl
            try simp only [Act.put, List.setIfInBounds_toArray, List.set_cons_zero, List.set_cons_succ, List.getElem_toArray, List.getElem_cons_succ, List.getElem_cons_zero]
            refine wpAnyH_ready (rs := [1, 6]) (by kernel_rfl) (by simp) ?_
            refine AllReadyH.cons (o := _) rfl (fun K hK => ?_) (AllReadyH.cons (o := _) rfl (fun K hK => ?_) AllReadyH.nil)
            · go_simp
              refine hK.out _ _ (trivial) (fun hHeld => ?_)
              clear hK K
              try simp only [Act.put, List.setIfInBounds_toArray, List.set_cons_zero, List.set_cons_succ, List.getElem_toArray, List.getElem_cons_succ, List.getElem_cons_zero]
              refine wpAnyH_ready (rs := [6]) (by kernel_rfl) (by simp) ?_
              refine AllReadyH.cons (o := _) rfl (fun K hK => ?_) AllReadyH.nil
              go_simp
              refine Calls.mono (pattern_impl _ _ L ((p.take (a + L)).drop a) _ HLN.out (by omega) (HCUT.out.dr (Dr.refl wy).drew)) ?_
              rintro e w5 ⟨D, dk, rfl, _, _, ownD, hb5⟩
              rw [HBE.out] at ownD
              have og := obj_below og hb5 (obj_lt og)
              have ob := obj_below ob hb5 (obj_lt ob)
              have hO5 := (hOd.below hb5).add (r := ⟨D, dk, patL b⟩) ownD hb5.size (by have := hGy; omega)
              have hb6 := hbd.trans (hb5.mono hbd.size)
              have hs5 := hb5.size
              have fG : w5.cell? ⟨G, 1, none⟩ = some (Value.slice P ps.length pk) := (obj_cell og).trans rfl
              obtain ⟨dl, hdl⟩ : ∃ m, m = (patL b).length := ⟨_, rfl⟩
              have HDL := Lib.hid hdl
              rw [HBE.out, ← hdl]
              clear ownD hb5 hdl
              go_wp2_with fail
              refine hK.out _ _ (trivial) (fun hHeld => ?_)
              clear hK K
              try simp only [Act.put, List.setIfInBounds_toArray, List.set_cons_zero, List.set_cons_succ, List.getElem_toArray, List.getElem_cons_succ, List.getElem_cons_zero]
              refine wpAnyH_ready (rs := [7]) (by kernel_rfl) (by simp) ?_
              refine AllReadyH.cons (o := _) rfl (fun K hK => ?_) AllReadyH.nil
              have og := obj_alloc og (Obj.cells #[Value.slice D dl dk] 24)
              have ob := obj_alloc ob (Obj.cells #[Value.slice D dl dk] 24)
              have fG : (w5.alloc (Obj.cells #[Value.slice D dl dk] 24)).cell? ⟨G, 1, none⟩ = some (Value.slice P ps.length pk) := (obj_cell og).trans rfl
              go_simp
              refine hK.out _ _ (trivial) (fun hHeld => ?_)
              clear hK K
              try simp only [Act.put, List.setIfInBounds_toArray, List.set_cons_zero, List.set_cons_succ, List.getElem_toArray, List.getElem_cons_succ, List.getElem_cons_zero]
              refine wpAnyH_ready (rs := [8]) (by kernel_rfl) (by simp) ?_
              refine AllReadyH.cons (o := _) rfl (fun K hK => ?_) AllReadyH.nil
              have hOW := hO5.outN (n := ps.length) (by simp)
              refine step_append_lies _ (by rfl) _ _ _ (by rfl) (G + 1) 24 j0 (.slice none 0 0) 1 24 Tryz.underlying26 hj hy0 hy1 hy2 rfl (by decide) (Value.slice P ps.length pk) ps.length (ps.map Row.v) (by rfl) (World.ownsRow.alloc hOW _) ⟨w5.heap.size, 0, none⟩ 1 1 [Value.slice D dl dk] (by rfl) (by rfl) (cell_one_at (w := w5) _ _ rfl) (by intro u hu; simp at hu; subst hu; rfl) (by omega) (by unfold maxLen; omega) (by omega) (by simp; omega) (w5.heap.size + 1) (by simp) ?_
              intro g cap w9 hown9 hgrow9 hlies9 hglt9
              have hne : some G ≠ (Value.slice P ps.length pk).ownBlock := fun e => by have := (hOW.lt G e.symm).1; omega
              have hnr : some w.heap.size ≠ (Value.slice P ps.length pk).ownBlock := fun e => by have := (hOW.lt w.heap.size e.symm).1; omega
              have og := (hgrow9.block G (obj_lt og) hne).trans og
              have ob := (hgrow9.block w.heap.size (obj_lt ob) hnr).trans ob
              have fG : w9.cell? ⟨G, 1, none⟩ = some (Value.slice P ps.length pk) := (obj_cell og).trans rfl
              have uG : w9.frozen? ⟨G, 1, none⟩ = false := obj_frozen og
              obtain ⟨A9, c9, hv9, hO9, hg9⟩ := hO5.grow (u := Row.v ⟨D, dk, patL b⟩) (n := ps.length) (Nat.le_refl _) (by simp) (by rw [show Row.v ⟨D, dk, patL b⟩ = Value.slice D dl dk by rw [HDL.out]; rfl]; exact hown9) hgrow9
              injection hv9 with e1 e2 e3
              subst e1 e3
              have hb9 := hb6.grown hg9 hb6.size fun q hq => by have := (hOW.lt q hq).1; omega
              refine hK.out _ _ (trivial) (fun hHeld => ?_)
              clear hK K
              try simp only [Act.put, List.setIfInBounds_toArray, List.set_cons_zero, List.set_cons_succ, List.getElem_toArray, List.getElem_cons_succ, List.getElem_cons_zero]
              refine wpAnyH_take (i := 9) (oi := _) (v := ?_) rfl (by kernel_rfl) (by kernel_rfl) (by kernel_rfl) (fun _ _ _ h => h) (Or.inl ⟨by rfl, ?_⟩) (by assumption) ?_
              rotate_left
              · intro w hSw
                try dsimp only at hSw
                go_simp
                all_goals with_reducible rfl
              try simp only [Act.put, List.setIfInBounds_toArray, List.set_cons_zero, List.set_cons_succ, List.getElem_toArray, List.getElem_cons_succ, List.getElem_cons_zero]
              refine wpAnyH_ready (rs := [10]) (by kernel_rfl) (by simp) ?_
              refine AllReadyH.cons (o := _) rfl (fun K hK => ?_) AllReadyH.nil
              go_simp
              refine hK.out _ _ (trivial) (fun hHeld => ?_)
              clear hK K
              try simp only [Act.put, List.setIfInBounds_toArray, List.set_cons_zero, List.set_cons_succ, List.getElem_toArray, List.getElem_cons_succ, List.getElem_cons_zero]
              refine wpAnyH_done (by kernel_rfl) ?_ _
              obtain ⟨wz, hwz⟩ : ∃ wz, wz = w9.setCell ⟨G, 1, none⟩ (Value.slice (some ⟨g, 0, none⟩) (ps.length + 1) cap) := ⟨_, rfl⟩
              have hsp : Span G (G + 1) w9 wz := by rw [hwz]; exact Span.set (p := ⟨G, 1, none⟩) (Nat.le_refl _) (Nat.lt_succ_self _) _
              have K1 := Lib.hid (show wz.heap[G]? = some (Obj.cells #[Value.slice none 0 0, Value.slice (some ⟨g, 0, none⟩) (ps.length + 1) cap] 28) by rw [hwz]; exact obj_set (i := 1) og _)
              have K2 := Lib.hid (show wz.heap[w.heap.size]? = some (Obj.cells #[Value.slice none 0 0, Value.slice none 0 0] 28) by rw [hwz]; exact obj_other (g' := G) (i := 1) ob (by omega) _)
              have K3 := Lib.hid ((hO9.span hsp (.inr (Nat.le_refl _))).wider (Nat.le_refl _) hsp.size)
              have K4 := Lib.hid (show Below w.heap.size w wz by rw [hwz]; exact hb9.setCell (p := ⟨G, 1, none⟩) (by show w.heap.size ≤ G; omega) _)
              rw [← hwz]
              have K5 := Lib.hid (show wy.heap.size ≤ wz.heap.size by have := hsp.size; have := hg9.size; have : wy.drew.heap.size = wy.heap.size := rfl; omega)
              clear og ob fG uG hO5 hOW hown9 hgrow9 hg9 hO9 hb9 hb6 hsp hne hnr hwz hlies9 hglt9
              go_wp2_with fail
              go_meet
              case rel => exact Lib.hid ⟨some ⟨g, 0, none⟩, cap, ps ++ [⟨D, dk, patL b⟩], by rw [List.length_append]; exact K1.out, K2.out, by rw [List.map_append]; exact K3.out, by rw [List.map_append, HPS.out, List.map_append]; rfl, K4.out⟩
            · go_simp
              refine Calls.mono (pattern_impl _ _ L ((p.take (a + L)).drop a) _ HLN.out (by omega) (HCUT.out.dr (Dr.refl wy).drew)) ?_
              rintro e w5 ⟨D, dk, rfl, _, _, ownD, hb5⟩
              rw [HBE.out] at ownD
              have og := obj_below og hb5 (obj_lt og)
              have ob := obj_below ob hb5 (obj_lt ob)
              have hO5 := (hOd.below hb5).add (r := ⟨D, dk, patL b⟩) ownD hb5.size (by have := hGy; omega)
              have hb6 := hbd.trans (hb5.mono hbd.size)
              have hs5 := hb5.size
              have fG : w5.cell? ⟨G, 1, none⟩ = some (Value.slice P ps.length pk) := (obj_cell og).trans rfl
              obtain ⟨dl, hdl⟩ : ∃ m, m = (patL b).length := ⟨_, rfl⟩
              have HDL := Lib.hid hdl
              rw [HBE.out, ← hdl]
              clear ownD hb5 hdl
              go_wp2_with fail
              refine hK.out _ _ (trivial) (fun hHeld => ?_)
              clear hK K
              try simp only [Act.put, List.setIfInBounds_toArray, List.set_cons_zero, List.set_cons_succ, List.getElem_toArray, List.getElem_cons_succ, List.getElem_cons_zero]
              refine wpAnyH_ready (rs := [1, 7]) (by kernel_rfl) (by simp) ?_
              refine AllReadyH.cons (o := _) rfl (fun K hK => ?_) (AllReadyH.cons (o := _) rfl (fun K hK => ?_) AllReadyH.nil)
              · go_simp
                refine hK.out _ _ (trivial) (fun hHeld => ?_)
                clear hK K
                try simp only [Act.put, List.setIfInBounds_toArray, List.set_cons_zero, List.set_cons_succ, List.getElem_toArray, List.getElem_cons_succ, List.getElem_cons_zero]
                refine wpAnyH_ready (rs := [7]) (by kernel_rfl) (by simp) ?_
                refine AllReadyH.cons (o := _) rfl (fun K hK => ?_) AllReadyH.nil
                have og := obj_alloc og (Obj.cells #[Value.slice D dl dk] 24)
                have ob := obj_alloc ob (Obj.cells #[Value.slice D dl dk] 24)
                have fG : (w5.alloc (Obj.cells #[Value.slice D dl dk] 24)).cell? ⟨G, 1, none⟩ = some (Value.slice P ps.length pk) := (obj_cell og).trans rfl
                go_simp
                refine hK.out _ _ (trivial) (fun hHeld => ?_)
                clear hK K
                try simp only [Act.put, List.setIfInBounds_toArray, List.set_cons_zero, List.set_cons_succ, List.getElem_toArray, List.getElem_cons_succ, List.getElem_cons_zero]
                refine wpAnyH_ready (rs := [8]) (by kernel_rfl) (by simp) ?_
                refine AllReadyH.cons (o := _) rfl (fun K hK => ?_) AllReadyH.nil
                have hOW := hO5.outN (n := ps.length) (by simp)
                refine step_append_lies _ (by rfl) _ _ _ (by rfl) (G + 1) 24 j0 (.slice none 0 0) 1 24 Tryz.underlying26 hj hy0 hy1 hy2 rfl (by decide) (Value.slice P ps.length pk) ps.length (ps.map Row.v) (by rfl) (World.ownsRow.alloc hOW _) ⟨w5.heap.size, 0, none⟩ 1 1 [Value.slice D dl dk] (by rfl) (by rfl) (cell_one_at (w := w5) _ _ rfl) (by intro u hu; simp at hu; subst hu; rfl) (by omega) (by unfold maxLen; omega) (by omega) (by simp; omega) (w5.heap.size + 1) (by simp) ?_
                intro g cap w9 hown9 hgrow9 hlies9 hglt9
                have hne : some G ≠ (Value.slice P ps.length pk).ownBlock := fun e => by have := (hOW.lt G e.symm).1; omega
                have hnr : some w.heap.size ≠ (Value.slice P ps.length pk).ownBlock := fun e => by have := (hOW.lt w.heap.size e.symm).1; omega
                have og := (hgrow9.block G (obj_lt og) hne).trans og
                have ob := (hgrow9.block w.heap.size (obj_lt ob) hnr).trans ob
                have fG : w9.cell? ⟨G, 1, none⟩ = some (Value.slice P ps.length pk) := (obj_cell og).trans rfl
                have uG : w9.frozen? ⟨G, 1, none⟩ = false := obj_frozen og
                obtain ⟨A9, c9, hv9, hO9, hg9⟩ := hO5.grow (u := Row.v ⟨D, dk, patL b⟩) (n := ps.length) (Nat.le_refl _) (by simp) (by rw [show Row.v ⟨D, dk, patL b⟩ = Value.slice D dl dk by rw [HDL.out]; rfl]; exact hown9) hgrow9
                injection hv9 with e1 e2 e3
                subst e1 e3
                have hb9 := hb6.grown hg9 hb6.size fun q hq => by have := (hOW.lt q hq).1; omega
                refine hK.out _ _ (trivial) (fun hHeld => ?_)
                clear hK K
                try simp only [Act.put, List.setIfInBounds_toArray, List.set_cons_zero, List.set_cons_succ, List.getElem_toArray, List.getElem_cons_succ, List.getElem_cons_zero]
                refine wpAnyH_take (i := 9) (oi := _) (v := ?_) rfl (by kernel_rfl) (by kernel_rfl) (by kernel_rfl) (fun _ _ _ h => h) (Or.inl ⟨by rfl, ?_⟩) (by assumption) ?_
                rotate_left
                · intro w hSw
                  try dsimp only at hSw
                  go_simp
                  all_goals with_reducible rfl
                try simp only [Act.put, List.setIfInBounds_toArray, List.set_cons_zero, List.set_cons_succ, List.getElem_toArray, List.getElem_cons_succ, List.getElem_cons_zero]
                refine wpAnyH_ready (rs := [10]) (by kernel_rfl) (by simp) ?_
                refine AllReadyH.cons (o := _) rfl (fun K hK => ?_) AllReadyH.nil
                go_simp
                refine hK.out _ _ (trivial) (fun hHeld => ?_)
                clear hK K
                try simp only [Act.put, List.setIfInBounds_toArray, List.set_cons_zero, List.set_cons_succ, List.getElem_toArray, List.getElem_cons_succ, List.getElem_cons_zero]
                refine wpAnyH_done (by kernel_rfl) ?_ _
                obtain ⟨wz, hwz⟩ : ∃ wz, wz = w9.setCell ⟨G, 1, none⟩ (Value.slice (some ⟨g, 0, none⟩) (ps.length + 1) cap) := ⟨_, rfl⟩
                have hsp : Span G (G + 1) w9 wz := by rw [hwz]; exact Span.set (p := ⟨G, 1, none⟩) (Nat.le_refl _) (Nat.lt_succ_self _) _
                have K1 := Lib.hid (show wz.heap[G]? = some (Obj.cells #[Value.slice none 0 0, Value.slice (some ⟨g, 0, none⟩) (ps.length + 1) cap] 28) by rw [hwz]; exact obj_set (i := 1) og _)
                have K2 := Lib.hid (show wz.heap[w.heap.size]? = some (Obj.cells #[Value.slice none 0 0, Value.slice none 0 0] 28) by rw [hwz]; exact obj_other (g' := G) (i := 1) ob (by omega) _)
                have K3 := Lib.hid ((hO9.span hsp (.inr (Nat.le_refl _))).wider (Nat.le_refl _) hsp.size)
                have K4 := Lib.hid (show Below w.heap.size w wz by rw [hwz]; exact hb9.setCell (p := ⟨G, 1, none⟩) (by show w.heap.size ≤ G; omega) _)
                rw [← hwz]
                have K5 := Lib.hid (show wy.heap.size ≤ wz.heap.size by have := hsp.size; have := hg9.size; have : wy.drew.heap.size = wy.heap.size := rfl; omega)
                clear og ob fG uG hO5 hOW hown9 hgrow9 hg9 hO9 hb9 hb6 hsp hne hnr hwz hlies9 hglt9
                go_wp2_with fail
                go_meet
                case rel => exact Lib.hid ⟨some ⟨g, 0, none⟩, cap, ps ++ [⟨D, dk, patL b⟩], by rw [List.length_append]; exact K1.out, K2.out, by rw [List.map_append]; exact K3.out, by rw [List.map_append, HPS.out, List.map_append]; rfl, K4.out⟩
              · have og := obj_alloc og (Obj.cells #[Value.slice D dl dk] 24)
                have ob := obj_alloc ob (Obj.cells #[Value.slice D dl dk] 24)
                have fG : (w5.alloc (Obj.cells #[Value.slice D dl dk] 24)).cell? ⟨G, 1, none⟩ = some (Value.slice P ps.length pk) := (obj_cell og).trans rfl
                go_simp
                refine hK.out _ _ (trivial) (fun hHeld => ?_)
                clear hK K
                try simp only [Act.put, List.setIfInBounds_toArray, List.set_cons_zero, List.set_cons_succ, List.getElem_toArray, List.getElem_cons_succ, List.getElem_cons_zero]
                refine wpAnyH_ready (rs := [1]) (by kernel_rfl) (by simp) ?_
                refine AllReadyH.cons (o := _) rfl (fun K hK => ?_) AllReadyH.nil
                go_simp
                refine hK.out _ _ (trivial) (fun hHeld => ?_)
                clear hK K
                try simp only [Act.put, List.setIfInBounds_toArray, List.set_cons_zero, List.set_cons_succ, List.getElem_toArray, List.getElem_cons_succ, List.getElem_cons_zero]
                refine wpAnyH_ready (rs := [8]) (by kernel_rfl) (by simp) ?_
                refine AllReadyH.cons (o := _) rfl (fun K hK => ?_) AllReadyH.nil
                have hOW := hO5.outN (n := ps.length) (by simp)
                refine step_append_lies _ (by rfl) _ _ _ (by rfl) (G + 1) 24 j0 (.slice none 0 0) 1 24 Tryz.underlying26 hj hy0 hy1 hy2 rfl (by decide) (Value.slice P ps.length pk) ps.length (ps.map Row.v) (by rfl) (World.ownsRow.alloc hOW _) ⟨w5.heap.size, 0, none⟩ 1 1 [Value.slice D dl dk] (by rfl) (by rfl) (cell_one_at (w := w5) _ _ rfl) (by intro u hu; simp at hu; subst hu; rfl) (by omega) (by unfold maxLen; omega) (by omega) (by simp; omega) (w5.heap.size + 1) (by simp) ?_
                intro g cap w9 hown9 hgrow9 hlies9 hglt9
                have hne : some G ≠ (Value.slice P ps.length pk).ownBlock := fun e => by have := (hOW.lt G e.symm).1; omega
                have hnr : some w.heap.size ≠ (Value.slice P ps.length pk).ownBlock := fun e => by have := (hOW.lt w.heap.size e.symm).1; omega
                have og := (hgrow9.block G (obj_lt og) hne).trans og
                have ob := (hgrow9.block w.heap.size (obj_lt ob) hnr).trans ob
                have fG : w9.cell? ⟨G, 1, none⟩ = some (Value.slice P ps.length pk) := (obj_cell og).trans rfl
                have uG : w9.frozen? ⟨G, 1, none⟩ = false := obj_frozen og
                obtain ⟨A9, c9, hv9, hO9, hg9⟩ := hO5.grow (u := Row.v ⟨D, dk, patL b⟩) (n := ps.length) (Nat.le_refl _) (by simp) (by rw [show Row.v ⟨D, dk, patL b⟩ = Value.slice D dl dk by rw [HDL.out]; rfl]; exact hown9) hgrow9
                injection hv9 with e1 e2 e3
                subst e1 e3
                have hb9 := hb6.grown hg9 hb6.size fun q hq => by have := (hOW.lt q hq).1; omega
                refine hK.out _ _ (trivial) (fun hHeld => ?_)
                clear hK K
                try simp only [Act.put, List.setIfInBounds_toArray, List.set_cons_zero, List.set_cons_succ, List.getElem_toArray, List.getElem_cons_succ, List.getElem_cons_zero]
                refine wpAnyH_take (i := 9) (oi := _) (v := ?_) rfl (by kernel_rfl) (by kernel_rfl) (by kernel_rfl) (fun _ _ _ h => h) (Or.inl ⟨by rfl, ?_⟩) (by assumption) ?_
                rotate_left
                · intro w hSw
                  try dsimp only at hSw
                  go_simp
                  all_goals with_reducible rfl
                try simp only [Act.put, List.setIfInBounds_toArray, List.set_cons_zero, List.set_cons_succ, List.getElem_toArray, List.getElem_cons_succ, List.getElem_cons_zero]
                refine wpAnyH_ready (rs := [10]) (by kernel_rfl) (by simp) ?_
                refine AllReadyH.cons (o := _) rfl (fun K hK => ?_) AllReadyH.nil
                go_simp
                refine hK.out _ _ (trivial) (fun hHeld => ?_)
                clear hK K
                try simp only [Act.put, List.setIfInBounds_toArray, List.set_cons_zero, List.set_cons_succ, List.getElem_toArray, List.getElem_cons_succ, List.getElem_cons_zero]
                refine wpAnyH_done (by kernel_rfl) ?_ _
                obtain ⟨wz, hwz⟩ : ∃ wz, wz = w9.setCell ⟨G, 1, none⟩ (Value.slice (some ⟨g, 0, none⟩) (ps.length + 1) cap) := ⟨_, rfl⟩
                have hsp : Span G (G + 1) w9 wz := by rw [hwz]; exact Span.set (p := ⟨G, 1, none⟩) (Nat.le_refl _) (Nat.lt_succ_self _) _
                have K1 := Lib.hid (show wz.heap[G]? = some (Obj.cells #[Value.slice none 0 0, Value.slice (some ⟨g, 0, none⟩) (ps.length + 1) cap] 28) by rw [hwz]; exact obj_set (i := 1) og _)
                have K2 := Lib.hid (show wz.heap[w.heap.size]? = some (Obj.cells #[Value.slice none 0 0, Value.slice none 0 0] 28) by rw [hwz]; exact obj_other (g' := G) (i := 1) ob (by omega) _)
                have K3 := Lib.hid ((hO9.span hsp (.inr (Nat.le_refl _))).wider (Nat.le_refl _) hsp.size)
                have K4 := Lib.hid (show Below w.heap.size w wz by rw [hwz]; exact hb9.setCell (p := ⟨G, 1, none⟩) (by show w.heap.size ≤ G; omega) _)
                rw [← hwz]
                have K5 := Lib.hid (show wy.heap.size ≤ wz.heap.size by have := hsp.size; have := hg9.size; have : wy.drew.heap.size = wy.heap.size := rfl; omega)
                clear og ob fG uG hO5 hOW hown9 hgrow9 hg9 hO9 hb9 hb6 hsp hne hnr hwz hlies9 hglt9
                go_wp2_with fail
                go_meet
                case rel => exact Lib.hid ⟨some ⟨g, 0, none⟩, cap, ps ++ [⟨D, dk, patL b⟩], by rw [List.length_append]; exact K1.out, K2.out, by rw [List.map_append]; exact K3.out, by rw [List.map_append, HPS.out, List.map_append]; rfl, K4.out⟩
          obtain ⟨wz, rfl⟩ : ∃ w', w' = wc := ⟨_, rfl⟩
          obtain ⟨P2, pk2, ps2, og2, ob2, hO2, hPS2, hb2⟩ := hcut.out
          clear hcut og3 ob3 hO3 hb3
          have HPS2 := Lib.hid hPS2
          go_wp2_with fail
          go_roundw
          case rel => exact ⟨ds ++ [b], f', s.drop L, H2, hc2, P2, pk2, ps2, by rw [HFL.out, ← HTL.out], by rw [List.length_append]; rfl, HST2, ob2, og2, by rw [List.map_append]; exact hO2, HPS2, hb2⟩
          case measure => simp [intOf]; omega
    case pos =>
      subst hs
      have hBK := HST.out.done
      have HE2 := Lib.hid (show splitR p = patL (ds.map headL) ∧ splitP p = ds.map patL by rw [HE.out.1, HE.out.2, hBK]; exact ⟨rfl, rfl⟩)
      have hda : decide ((a : Int) < (p.length : Int)) = false := decide_eq_false (by simp only [List.length_nil] at hlen1 hlen2; omega)
      have hai : ¬ (a : Int) < (p.length : Int) := by simp only [List.length_nil] at hlen1 hlen2; omega
      have hrow0 := hO.rows ⟨H, hc, ds.map headL⟩ (by simp)
      have HC := Lib.hid (pattern_impl H hc ds.length (ds.map headL) wr (by simp) (by omega) (Rd.of_own (c := hc) hrow0))
      clear hBK hrow0
      go_wp2_with fail
      (with_reducible refine HC.out.mono ?_)
      rintro e w5 ⟨RA, rc, rfl, _, _, ownR, hb5⟩
      obtain ⟨root, hroot⟩ : ∃ r, r = patL (ds.map headL) := ⟨_, rfl⟩
      rw [← hroot] at ownR HE2 ⊢
      have og5 := obj_below og hb5 (obj_lt og)
      have ob5 := obj_below ob hb5 (obj_lt ob)
      have hO5 := (hO.below hb5).add (r := ⟨RA, rc, root⟩) ownR hb5.size (by omega)
      have hO6 : Own w5 (G + 1) w5.heap.size (⟨RA, rc, root⟩ :: ps) [⟨P, pk, ps.map Row.v⟩] := (hO5.perm (show ((⟨H, hc, ds.map headL⟩ : Row) :: ps ++ [(⟨RA, rc, root⟩ : Row)]).Perm (⟨H, hc, ds.map headL⟩ :: ⟨RA, rc, root⟩ :: ps) from (List.perm_append_singleton _ ps).cons _)).sub (List.sublist_cons_self _ _)
      have hb6 := hb.trans (hb5.mono hsz)
      have f0 : w5.cell? ⟨G, 0, none⟩ = some (Value.slice none 0 0) := (obj_cell og5).trans rfl
      have u0 : w5.frozen? ⟨G, 0, none⟩ = false := obj_frozen og5
      obtain ⟨w6, hw6⟩ : ∃ w6, w6 = w5.setCell ⟨G, 0, none⟩ (Value.slice RA root.length rc) := ⟨_, rfl⟩
      have og6 : w6.heap[G]? = some (Obj.cells #[Value.slice RA root.length rc, Value.slice P ps.length pk] 28) := by rw [hw6]; exact obj_set (i := 0) og5 _
      have obz : w6.heap[w.heap.size]? = some (Obj.cells #[Value.slice none 0 0, Value.slice none 0 0] 28) := by rw [hw6]; exact obj_other (g' := G) (i := 0) ob5 (by omega) _
      have hsp : Span G (G + 1) w5 w6 := by rw [hw6]; exact Span.set (p := ⟨G, 0, none⟩) (Nat.le_refl _) (Nat.lt_succ_self _) _
      have hrow : Own w6 (w.heap.size + 1) w6.heap.size (⟨RA, rc, root⟩ :: ps) [⟨P, pk, ps.map Row.v⟩] := (hO6.span hsp (.inr (Nat.le_refl _))).wider (by omega) hsp.size
      have hbz : Below w.heap.size w w6 := by rw [hw6]; exact hb6.setCell (p := ⟨G, 0, none⟩) (by show w.heap.size ≤ G; omega) _
      have k0 : w6.cell? ⟨G, 0, none⟩ = some (Value.slice RA root.length rc) := (obj_cell og6).trans rfl
      have k1 : w6.cell? ⟨G, 1, none⟩ = some (Value.slice P ps.length pk) := (obj_cell og6).trans rfl
      obtain ⟨l0, l1, hOf, hbf⟩ := ret_cell (n := root.length) (m := ps.length) obz hrow hbz rfl rfl
      have hOF := Lib.hid hOf
      have hBF := Lib.hid hbf
      have g0 : w6.cell? ⟨w.heap.size, 0, none⟩ = some (Value.slice none 0 0) := (obj_cell obz).trans rfl
      have g1 : w6.cell? ⟨w.heap.size, 1, none⟩ = some (Value.slice none 0 0) := (obj_cell obz).trans rfl
      have g2 : w6.frozen? ⟨w.heap.size, 0, none⟩ = false := obj_frozen obz
      have g3 : w6.frozen? ⟨w.heap.size, 1, none⟩ = false := obj_frozen obz
      clear hOf hbf obz hrow hbz og og5 og6 ob ob5 hO hO5 hO6 hb hb5 hb6 hsp HC ownR hroot
      subst hw6
      go_wp2_with fail
      try simp only [Exit.inBlock, Exit.then]
      refine bodyPost_ret (v := .agg #[.slice RA root.length rc, .slice P ps.length pk]) (by simp [results, Tryz.results29, go_sem, l0, l1]) rfl ?_
      rw [HE2.out.1, HE2.out.2]
      exact ⟨_, _, _, _, ps, rfl, HPS.out, hOF.out, hBF.out⟩
end Go.Proofs.YtldknpjeegdbmaaGreat
