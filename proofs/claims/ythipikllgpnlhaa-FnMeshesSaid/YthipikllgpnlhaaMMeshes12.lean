/- Several texts in one, each with its own head: X3S. No program of ours. -/
import Derived.Test.YthipikllgpnlhaaMMeshes11
/- InverseMesh of the reference. -/
namespace Go.Proofs.Ythipikllgpnlhaa
set_option maxRecDepth 100000
open Go Go.RowKit

theorem in_lit2 {w : World} {bl : Nat} {x y : Int} (h : w.heap[bl]? = some (.cells #[.int .i64 x, .int .i64 y] 3 (0, 0))) : In w (some ⟨bl, 0, none⟩) 2 [x, y] :=
  ⟨by simp, Nat.le_refl _, fun _ => ⟨bl, 0, rfl, obj_lt h, fun j hj => by
    rw [Nat.zero_add, obj_cell h]
    match j, hj with
    | 0, _ => rfl
    | 1, _ => rfl⟩⟩
set_option maxHeartbeats 4000000 in
theorem inverseMesh_spec (A B : Option Addr) (c k : Nat) (xs : List Int) (rs : List Row) (w : World) (h : InM w A c xs B k rs) :
    Calls Try.prog 14 #[.agg #[.slice A xs.length c, .slice B rs.length k]] w (RetMb w (imG1 xs (rs.map Row.xs)) (imG2 xs (rs.map Row.xs)) (meshB xs (rs.map Row.xs))) := by
  obtain ⟨j0, hj, hy0, hy1, hy2⟩ := info_parts infoL
  have hlx := h.1.len
  have hly := h.2.len
  go_enter Try.func14, Try.ntmps14
  have hb0 : Below w.heap.size w ((w.alloc (Obj.cells #[Value.slice A xs.length c, Value.slice B rs.length k] 27)).alloc (Obj.cells #[Value.slice none 0 0, Value.slice none 0 0] 27)) := ((Below.refl _ _).alloc (Nat.le_refl _) _).alloc (by simp) _
  go_wp2_with fail
  have oa := obj_alloc (obj_new w (Obj.cells #[Value.slice A xs.length c, Value.slice B rs.length k] 27)) (Obj.cells #[Value.slice none 0 0, Value.slice none 0 0] 27)
  have ob := obj_new (w.alloc (Obj.cells #[Value.slice A xs.length c, Value.slice B rs.length k] 27)) (Obj.cells #[Value.slice none 0 0, Value.slice none 0 0] 27)
  have hzw : ((w.alloc (Obj.cells #[Value.slice A xs.length c, Value.slice B rs.length k] 27)).alloc (Obj.cells #[Value.slice none 0 0, Value.slice none 0 0] 27)).heap.size = w.heap.size + 1 + 1 := by simp
  simp only [World.size_alloc] at ob
  generalize ((w.alloc (Obj.cells #[Value.slice A xs.length c, Value.slice B rs.length k] 27)).alloc (Obj.cells #[Value.slice none 0 0, Value.slice none 0 0] 27)) = w0 at hb0 oa ob hzw ⊢
  by_cases hn : meshB xs (rs.map Row.xs) = true
  · have HN := Lib.hid hn
    have H1 := Lib.hid (show imG1 xs (rs.map Row.xs) = invL xs by unfold imG1; rw [if_pos hn])
    have H2 := Lib.hid (show imG2 xs (rs.map Row.xs) = imTo (rs.map Row.xs) rs.length by unfold imG2; rw [if_pos hn, List.length_map])
    have hP := (mesh_perm hn).1
    have hrl : rs.length ≤ 25 := by simpa using mesh_len hn
    have HT := Lib.hid (rows_two hn)
    have HD := Lib.hid (swL_nodup hn)
    (with_reducible refine (mesh_sb A B c k xs rs w0 true (h.next hb0) HN.out).mono ?_)
    rintro e wn ⟨rfl, hb1⟩
    have oa := obj_below oa hb1 (obj_lt oa)
    have ob := obj_below ob hb1 (obj_lt ob)
    have hb := hb0.trans (hb1.mono hb0.size)
    have hsz1 := hb1.size
    have f0 : wn.cell? ⟨w.heap.size, 0, none⟩ = some (Value.slice A xs.length c) := (obj_cell oa).trans rfl
    have f1 : wn.cell? ⟨w.heap.size, 1, none⟩ = some (Value.slice B rs.length k) := (obj_cell oa).trans rfl
    have HI := Lib.hid (l2Inverse_any A c xs wn (h.1.next hb) hP)
    clear hn hb1 hP
    go_wp2_with fail
    (with_reducible refine HI.out.mono ?_)
    rintro e w2 ⟨A2, c2, rfl, _, _, own2, hb2⟩
    have oa := obj_below oa hb2 (obj_lt oa)
    have ob := obj_below ob hb2 (obj_lt ob)
    have hb' := hb.trans (hb2.mono hb.size)
    have hsz2 := hb2.size
    have hsb := hb'.size
    have oa3 := obj_alloc oa (Obj.cells #[Value.slice A2 (invL xs).length c2, Value.slice none 0 0] 27)
    have ob3 := obj_alloc ob (Obj.cells #[Value.slice A2 (invL xs).length c2, Value.slice none 0 0] 27)
    have oc3 := obj_new w2 (Obj.cells #[Value.slice A2 (invL xs).length c2, Value.slice none 0 0] 27)
    have hA3 := own2.alloc (Obj.cells #[Value.slice A2 (invL xs).length c2, Value.slice none 0 0] 27)
    have lA : ∀ q, (Value.slice A2 (invL xs).length c2).ownBlock = some q → wn.heap.size ≤ q ∧ q < w2.heap.size := fun q hq => own2.lt q hq
    have hb3 := hb'.alloc hsb (Obj.cells #[Value.slice A2 (invL xs).length c2, Value.slice none 0 0] 27)
    have hz3 : (w2.alloc (Obj.cells #[Value.slice A2 (invL xs).length c2, Value.slice none 0 0] 27)).heap.size = w2.heap.size + 1 := by simp
    have g1 : (w2.alloc (Obj.cells #[Value.slice A2 (invL xs).length c2, Value.slice none 0 0] 27)).cell? ⟨w.heap.size, 1, none⟩ = some (Value.slice B rs.length k) := (obj_cell oa3).trans rfl
    have hlt2 : w.heap.size + 1 < w2.heap.size := by omega
    clear own2 hb2 hb oa ob f0 f1 HI
    go_wp2_with fail
    generalize (w2.alloc (Obj.cells #[Value.slice A2 (invL xs).length c2, Value.slice none 0 0] 27)) = w3 at oa3 ob3 oc3 hA3 hb3 hz3 g1 ⊢
    obtain ⟨g, hg⟩ : ∃ g, g = w2.heap.size := ⟨_, rfl⟩
    rw [← hg] at oc3 hz3 hlt2 lA hsz2 ⊢
    have HZ3 := Lib.hid hz3
    clear hg hz3 g1
    go_loopw [5] (fun i wr => ∃ (j : Nat) (D : Option Addr) (d : Nat) (ds : List Row), j ≤ rs.length ∧ i = .int .i64 (j : Int) ∧ wr.heap[g]? = some (Obj.cells #[Value.slice A2 (invL xs).length c2, Value.slice D ds.length d] 27) ∧
      wr.heap[w.heap.size]? = some (Obj.cells #[Value.slice A xs.length c, Value.slice B rs.length k] 27) ∧
      wr.heap[w.heap.size + 1]? = some (Obj.cells #[Value.slice none 0 0, Value.slice none 0 0] 27) ∧ wr.ownsRow wn.heap.size 3 1 (.slice A2 (invL xs).length c2) (invL xs).length ((invL xs).map (Value.int .i64)) ∧
      Own wr w3.heap.size wr.heap.size ds [⟨D, d, ds.map Row.v⟩] ∧ Hid (ds.map Row.xs = imTo (rs.map Row.xs) j) ∧ Below w.heap.size w wr ∧ w3.heap.size ≤ wr.heap.size) (fun i _ => rs.length - (intOf i).toNat)
    case atStart => exact ⟨0, none, 0, [], Nat.zero_le _, rfl, oc3, oa3, ob3, hA3, Own.nil_list _ _ _, Lib.hid rfl, hb3, Nat.le_refl _⟩
    case round =>
      clear oc3 oa3 ob3 hA3 hb3
      obtain ⟨j, D, d, ds, hjl, rfl, og, oa, ob, hA, hO, HX, hbw, hsw⟩ := hrel
      have hdl : ds.length ≤ j := by have h1 := congrArg List.length HX.out; have h2 := imTo_len (rs.map Row.xs) j (by simpa using hjl); rw [List.length_map] at h1; omega
      have HD8 := Lib.hid (show ∀ r ∈ ds, r.xs.length ≤ 1048576 from fun r hr => by have := imTo_two (rs.map Row.xs) j r.xs (by rw [← HX.out]; exact List.mem_map.2 ⟨r, hr, rfl⟩); omega)
      have f1 : wr.cell? ⟨g, 1, none⟩ = some (Value.slice D ds.length d) := (obj_cell og).trans rfl
      have f0 : wr.cell? ⟨g, 0, none⟩ = some (Value.slice A2 (invL xs).length c2) := (obj_cell og).trans rfl
      have a0 : wr.cell? ⟨w.heap.size, 0, none⟩ = some (Value.slice A xs.length c) := (obj_cell oa).trans rfl
      have a1 : wr.cell? ⟨w.heap.size, 1, none⟩ = some (Value.slice B rs.length k) := (obj_cell oa).trans rfl
      have hcount : ds.length ≤ 25 := by omega
      have HDL := Lib.hid hdl
      clear hdl
      by_cases hlt : j < rs.length
      · have hL := h.2.next hbw
        obtain ⟨b, off, rfl, _, hc⟩ := hL.read.at (by omega)
        have cc := hc j hlt
        obtain ⟨r, hr⟩ : ∃ r, r = rs[j] := ⟨_, rfl⟩
        have hmem : r ∈ rs := by rw [hr]; exact List.getElem_mem hlt
        have h2 := HT.out r hmem
        have hrow := (hL.row hmem).rd
        rw [← hr] at cc
        obtain ⟨bx, by_, hab⟩ : ∃ a b, r.xs = [a, b] := by
          match hq : r.xs, h2 with
          | [a, b], _ => exact ⟨a, b, rfl⟩
        have HS := Lib.hid (show imTo (rs.map Row.xs) (j + 1) = putL (ds.map Row.xs) [by_, bx] by
          rw [imTo_succ _ j (by simpa using hlt), HX.out]
          simp only [List.getElem_map, ← hr, hab]
          rfl)
        obtain ⟨rA, rc, rx⟩ := r
        simp only at hab
        subst hab
        obtain ⟨rb, ro, hA', _, hcc⟩ := hrow (by simp)
        simp only at hA'
        subst hA'
        have e0 : wr.cell? ⟨rb, ro, none⟩ = some (.int .i64 bx) := hcc 0 (by simp)
        have e1 : wr.cell? ⟨rb, ro + 1, none⟩ = some (.int .i64 by_) := hcc 1 (by simp)
        have cc : wr.cell? ⟨b, off + j, none⟩ = some (Value.slice (some ⟨rb, ro, none⟩) 2 rc) := cc
        have s3 : g < w3.heap.size := by have := HZ3.out; omega
        have hbr := (Below.refl wr.heap.size wr).alloc (Nat.le_refl _) (.cells #[.int .i64 by_, .int .i64 bx] 3)
        have hOr := (hO.below hbr).wider (Nat.le_refl _) hbr.size
        have hin := in_lit2 (w := wr.alloc (.cells #[.int .i64 by_, .int .i64 bx] 3)) (obj_new wr (.cells #[.int .i64 by_, .int .i64 bx] 3))
        have oar := obj_alloc oa (.cells #[.int .i64 by_, .int .i64 bx] 3)
        have obr := obj_alloc ob (.cells #[.int .i64 by_, .int .i64 bx] 3)
        have ogr := obj_alloc og (.cells #[.int .i64 by_, .int .i64 bx] 3)
        have hAr := hA.alloc (.cells #[.int .i64 by_, .int .i64 bx] 3)
        have hbr2 := hbw.alloc (by omega) (.cells #[.int .i64 by_, .int .i64 bx] 3)
        have hlim := hO.olim (n := ds.length) (by simp)
        have hlo : w3.heap.size ≤ (wr.alloc (.cells #[.int .i64 by_, .int .i64 bx] 3)).heap.size := by simp; omega
        have CT : ∀ W : World, W = (wr.alloc (.cells #[.int .i64 by_, .int .i64 bx] 3)).drew → Calls Try.prog 84 #[.slice D ds.length d, .slice (some ⟨wr.heap.size, 0, none⟩) 2 2] W (RetP (wr.alloc (.cells #[.int .i64 by_, .int .i64 bx] 3)).drew w3.heap.size D (putL (ds.map Row.xs) [by_, bx])) := fun W hW => by
          subst hW
          exact l3Put_any D (some ⟨wr.heap.size, 0, none⟩) d 2 w3.heap.size ds [by_, bx] _ (hOr.dr (Dr.refl _).drew) hlo (hin.dr (Dr.refl _).drew) (by omega) HD8.out
        have CTH := Lib.hid CT
        have hbw0 : b < w.heap.size := by
          obtain ⟨b', off', he, hb', _⟩ := h.2.read.at (by omega)
          injection he with he
          injection he with he1 _ _
          omega
        have hrw0 : rb < w.heap.size := by
          obtain ⟨b', off', he, hb', _⟩ := (h.2.row hmem).rd (by simp)
          injection he with he
          injection he with he1 _ _
          omega
        have HS0 := Lib.hid (show wr.drew.cell? ⟨w.heap.size, 1, none⟩ = some (Value.slice (some ⟨b, off, none⟩) rs.length k) ∧ wr.drew.cell? ⟨b, off + j, none⟩ = some (Value.slice (some ⟨rb, ro, none⟩) 2 rc) ∧ wr.drew.cell? ⟨rb, ro, none⟩ = some (.int .i64 bx) ∧ wr.drew.cell? ⟨rb, ro + 1, none⟩ = some (.int .i64 by_) from ⟨a1, cc, e0, e1⟩)
        have hbz := hbw.size
        have KS := Lib.hid (fun (v : World) (x : Value) (hv : v.cell? ⟨w.heap.size, 1, none⟩ = some (Value.slice (some ⟨b, off, none⟩) rs.length k) ∧ v.cell? ⟨b, off + j, none⟩ = some (Value.slice (some ⟨rb, ro, none⟩) 2 rc) ∧ v.cell? ⟨rb, ro, none⟩ = some (.int .i64 bx) ∧ v.cell? ⟨rb, ro + 1, none⟩ = some (.int .i64 by_)) =>
          (show (v.setCell ⟨g, 1, none⟩ x).cell? ⟨w.heap.size, 1, none⟩ = some (Value.slice (some ⟨b, off, none⟩) rs.length k) ∧ (v.setCell ⟨g, 1, none⟩ x).cell? ⟨b, off + j, none⟩ = some (Value.slice (some ⟨rb, ro, none⟩) 2 rc) ∧ (v.setCell ⟨g, 1, none⟩ x).cell? ⟨rb, ro, none⟩ = some (.int .i64 bx) ∧ (v.setCell ⟨g, 1, none⟩ x).cell? ⟨rb, ro + 1, none⟩ = some (.int .i64 by_) from
            ⟨(World.cell?_setCell_other _ _ _ _ (fun e => by injection e with e; omega)).trans hv.1, (World.cell?_setCell_other _ _ _ _ (fun e => by injection e with e; omega)).trans hv.2.1, (World.cell?_setCell_other _ _ _ _ (fun e => by injection e with e; omega)).trans hv.2.2.1, (World.cell?_setCell_other _ _ _ _ (fun e => by injection e with e; omega)).trans hv.2.2.2⟩))
        have f1d : wr.drew.cell? ⟨g, 1, none⟩ = some (Value.slice D ds.length d) := f1
        have f1r : (wr.alloc (.cells #[.int .i64 by_, .int .i64 bx] 3)).cell? ⟨g, 1, none⟩ = some (Value.slice D ds.length d) := (obj_cell ogr).trans rfl
        have HSA := Lib.hid (show (wr.alloc (.cells #[.int .i64 by_, .int .i64 bx] 3)).cell? ⟨w.heap.size, 1, none⟩ = some (Value.slice (some ⟨b, off, none⟩) rs.length k) ∧ (wr.alloc (.cells #[.int .i64 by_, .int .i64 bx] 3)).cell? ⟨b, off + j, none⟩ = some (Value.slice (some ⟨rb, ro, none⟩) 2 rc) ∧ (wr.alloc (.cells #[.int .i64 by_, .int .i64 bx] 3)).cell? ⟨rb, ro, none⟩ = some (.int .i64 bx) ∧ (wr.alloc (.cells #[.int .i64 by_, .int .i64 bx] 3)).cell? ⟨rb, ro + 1, none⟩ = some (.int .i64 by_) from
          ⟨(obj_cell oar).trans rfl, (World.cell?_alloc_lt _ _ _ (by show b < wr.heap.size; omega)).trans cc, (World.cell?_alloc_lt _ _ _ (by show rb < wr.heap.size; omega)).trans e0, (World.cell?_alloc_lt _ _ _ (by show rb < wr.heap.size; omega)).trans e1⟩)
        have HLIM := Lib.hid hlim
        clear hbr hc hr hmem h2 hrow hcc hL hOr hin hlo CT hlim
        go_wp2_with fail
        clear f0 f1 a0 a1 cc e0 e1
        refine wp_region_held_drew (S := (fun v => v.cell? ⟨w.heap.size, 1, none⟩ = some (Value.slice (some ⟨b, off, none⟩) rs.length k) ∧ v.cell? ⟨b, off + j, none⟩ = some (Value.slice (some ⟨rb, ro, none⟩) 2 rc) ∧ v.cell? ⟨rb, ro, none⟩ = some (.int .i64 bx) ∧ v.cell? ⟨rb, ro + 1, none⟩ = some (.int .i64 by_))) (by kernel_rfl) HS0.out (fun hHeld => ?_)
        refine wpAnyH_take (i := 0) (oi := _) (v := ?_) rfl (by kernel_rfl) (by kernel_rfl) (by kernel_rfl) (fun _ _ _ h => h) (Or.inl ⟨by rfl, ?_⟩) (by assumption) ?_
        rotate_left
        · intro w hSw
          try dsimp only at hSw
          go_simp
          all_goals with_reducible rfl
        try simp only [Act.put, List.setIfInBounds_toArray, List.set_cons_zero, List.set_cons_succ, List.getElem_toArray, List.getElem_cons_zero]
        refine wpAnyH_take (i := 2) (oi := _) (v := ?_) rfl (by kernel_rfl) (by kernel_rfl) (by kernel_rfl) (fun _ _ _ h => h) (Or.inl ⟨by rfl, ?_⟩) (by assumption) ?_
        rotate_left
        · intro w hSw
          try dsimp only at hSw
          go_simp
          all_goals with_reducible rfl
        try simp only [Act.put, List.setIfInBounds_toArray, List.set_cons_zero, List.set_cons_succ, List.getElem_toArray, List.getElem_cons_succ, List.getElem_cons_zero]
        refine wpAnyH_take (i := 4) (oi := _) (v := ?_) rfl (by kernel_rfl) (by kernel_rfl) (by kernel_rfl) (fun _ _ _ h => h) (Or.inl ⟨by rfl, ?_⟩) (by assumption) ?_
        rotate_left
        · intro w hSw
          try dsimp only at hSw
          go_simp
          all_goals with_reducible rfl
        try simp only [Act.put, List.setIfInBounds_toArray, List.set_cons_zero, List.set_cons_succ, List.getElem_toArray, List.getElem_cons_succ, List.getElem_cons_zero]
        refine wpAnyH_take (i := 9) (oi := _) (v := ?_) rfl (by kernel_rfl) (by kernel_rfl) (by kernel_rfl) (fun _ _ _ h => h) (Or.inl ⟨by rfl, ?_⟩) (by assumption) ?_
        rotate_left
        · intro w hSw
          try dsimp only at hSw
          go_simp
          all_goals with_reducible rfl
        try simp only [Act.put, List.setIfInBounds_toArray, List.set_cons_zero, List.set_cons_succ, List.getElem_toArray, List.getElem_cons_succ, List.getElem_cons_zero]
        refine wpAnyH_take (i := 11) (oi := _) (v := ?_) rfl (by kernel_rfl) (by kernel_rfl) (by kernel_rfl) (fun _ _ _ h => h) (Or.inl ⟨by rfl, ?_⟩) (by assumption) ?_
        rotate_left
        · intro w hSw
          try dsimp only at hSw
          go_simp
          all_goals with_reducible rfl
        try simp only [Act.put, List.setIfInBounds_toArray, List.set_cons_zero, List.set_cons_succ, List.getElem_toArray, List.getElem_cons_succ, List.getElem_cons_zero]
        refine wpAnyH_take (i := 3) (oi := _) (v := ?_) rfl (by kernel_rfl) (by kernel_rfl) (by kernel_rfl) (fun _ _ _ h => h) (Or.inl ⟨by rfl, ?_⟩) (by assumption) ?_
        rotate_left
        · intro w hSw
          try dsimp only at hSw
          go_simp
          all_goals with_reducible rfl
        try simp only [Act.put, List.setIfInBounds_toArray, List.set_cons_zero, List.set_cons_succ, List.getElem_toArray, List.getElem_cons_succ, List.getElem_cons_zero]
        refine wpAnyH_take (i := 5) (oi := _) (v := ?_) rfl (by kernel_rfl) (by kernel_rfl) (by kernel_rfl) (fun _ _ _ h => h) (Or.inl ⟨by rfl, ?_⟩) (by assumption) ?_
        rotate_left
        · intro w hSw
          try dsimp only at hSw
          go_simp
          all_goals with_reducible rfl
        try simp only [Act.put, List.setIfInBounds_toArray, List.set_cons_zero, List.set_cons_succ, List.getElem_toArray, List.getElem_cons_succ, List.getElem_cons_zero]
        refine wpAnyH_take (i := 6) (oi := _) (v := ?_) rfl (by kernel_rfl) (by kernel_rfl) (by kernel_rfl) (fun _ _ _ h => h) (Or.inl ⟨by rfl, ?_⟩) (by assumption) ?_
        rotate_left
        · intro w hSw
          try dsimp only at hSw
          go_simp
          all_goals with_reducible rfl
        try simp only [Act.put, List.setIfInBounds_toArray, List.set_cons_zero, List.set_cons_succ, List.getElem_toArray, List.getElem_cons_succ, List.getElem_cons_zero]
        refine wpAnyH_take (i := 7) (oi := _) (v := ?_) rfl (by kernel_rfl) (by kernel_rfl) (by kernel_rfl) (fun _ _ _ h => h) (Or.inl ⟨by rfl, ?_⟩) (by assumption) ?_
        rotate_left
        · intro w hSw
          try dsimp only at hSw
          go_simp
          all_goals with_reducible rfl
        try simp only [Act.put, List.setIfInBounds_toArray, List.set_cons_zero, List.set_cons_succ, List.getElem_toArray, List.getElem_cons_succ, List.getElem_cons_zero]
        refine wpAnyH_take (i := 8) (oi := _) (v := ?_) rfl (by kernel_rfl) (by kernel_rfl) (by kernel_rfl) (fun _ _ _ h => h) (Or.inl ⟨by rfl, ?_⟩) (by assumption) ?_
        rotate_left
        · intro w hSw
          try dsimp only at hSw
          go_simp
          all_goals with_reducible rfl
        try simp only [Act.put, List.setIfInBounds_toArray, List.set_cons_zero, List.set_cons_succ, List.getElem_toArray, List.getElem_cons_succ, List.getElem_cons_zero]
        refine wpAnyH_take (i := 10) (oi := _) (v := ?_) rfl (by kernel_rfl) (by kernel_rfl) (by kernel_rfl) (fun _ _ _ h => h) (Or.inl ⟨by rfl, ?_⟩) (by assumption) ?_
        rotate_left
        · intro w hSw
          try dsimp only at hSw
          go_simp
          all_goals with_reducible rfl
        try simp only [Act.put, List.setIfInBounds_toArray, List.set_cons_zero, List.set_cons_succ, List.getElem_toArray, List.getElem_cons_succ, List.getElem_cons_zero]
        refine wpAnyH_take (i := 12) (oi := _) (v := ?_) rfl (by kernel_rfl) (by kernel_rfl) (by kernel_rfl) (fun _ _ _ h => h) (Or.inl ⟨by rfl, ?_⟩) (by assumption) ?_
        rotate_left
        · intro w hSw
          try dsimp only at hSw
          go_simp
          all_goals with_reducible rfl
        try simp only [Act.put, List.setIfInBounds_toArray, List.set_cons_zero, List.set_cons_succ, List.getElem_toArray, List.getElem_cons_succ, List.getElem_cons_zero]
        refine wpAnyH_take (i := 13) (oi := _) (v := ?_) rfl (by kernel_rfl) (by kernel_rfl) (by kernel_rfl) (fun _ _ _ h => h) (Or.inl ⟨by rfl, ?_⟩) (by assumption) ?_
        rotate_left
        · intro w hSw
          try dsimp only at hSw
          go_simp
          all_goals with_reducible rfl
        try simp only [Act.put, List.setIfInBounds_toArray, List.set_cons_zero, List.set_cons_succ, List.getElem_toArray, List.getElem_cons_succ, List.getElem_cons_zero]
        refine wpAnyH_take (i := 14) (oi := _) (v := ?_) rfl (by kernel_rfl) (by kernel_rfl) (by kernel_rfl) (fun _ _ _ h => h) (Or.inl ⟨by rfl, ?_⟩) (by assumption) ?_
        rotate_left
        · intro w hSw
          try dsimp only at hSw
          go_simp
          all_goals with_reducible rfl
        try simp only [Act.put, List.setIfInBounds_toArray, List.set_cons_zero, List.set_cons_succ, List.getElem_toArray, List.getElem_cons_succ, List.getElem_cons_zero]
        refine wpAnyH_take (i := 15) (oi := _) (v := ?_) rfl (by kernel_rfl) (by kernel_rfl) (by kernel_rfl) (fun _ _ _ h => h) (Or.inl ⟨by rfl, ?_⟩) (by assumption) ?_
        rotate_left
        · intro w hSw
          try dsimp only at hSw
          go_simp
          all_goals with_reducible rfl
        try simp only [Act.put, List.setIfInBounds_toArray, List.set_cons_zero, List.set_cons_succ, List.getElem_toArray, List.getElem_cons_succ, List.getElem_cons_zero]
        refine wpAnyH_ready (rs := [1, 16]) (by kernel_rfl) (by simp) ?_
        refine AllReadyH.cons (o := _) rfl (fun K hK => ?_) ?_
        · go_simp
          refine hK.out _ _ (HS0.out) (fun hHeld => ?_)
          clear hK K
          try simp only [Act.put, List.setIfInBounds_toArray, List.set_cons_zero, List.set_cons_succ, List.getElem_toArray, List.getElem_cons_succ, List.getElem_cons_zero]
          refine wpAnyH_ready (rs := [16]) (by kernel_rfl) (by simp) ?_
          refine AllReadyH.cons (o := _) rfl (fun K hK => ?_) AllReadyH.nil
          go_simp
          refine hK.out _ _ (HSA.out) (fun hHeld => ?_)
          clear hK K
          try simp only [Act.put, List.setIfInBounds_toArray, List.set_cons_zero, List.set_cons_succ, List.getElem_toArray, List.getElem_cons_succ, List.getElem_cons_zero]
          refine wpAnyH_ready (rs := [17]) (by kernel_rfl) (by simp) ?_
          refine AllReadyH.cons (o := _) rfl (fun K hK => ?_) AllReadyH.nil
          go_simp
          refine Calls.mono (CTH.out _ (by first | rfl | fail)) ?_
          rintro e w9 ⟨A5, c5, ps, rfl, hX9, hO6, hgr⟩
          have hg3 := grown_drew hgr
          have og1 := (hg3.block _ (obj_lt ogr) (by intro he; have := HLIM.out g (by rw [← he.symm]; exact ownBlock_len _ _ _ _ _); omega)).trans ogr
          have oa1 := (hg3.block _ (obj_lt oar) (by intro he; have := HLIM.out w.heap.size (by rw [← he.symm]; exact ownBlock_len _ _ _ _ _); omega)).trans oar
          have ob1 := (hg3.block _ (obj_lt obr) (by intro he; have := HLIM.out (w.heap.size + 1) (by rw [← he.symm]; exact ownBlock_len _ _ _ _ _); omega)).trans obr
          have f3 : w9.cell? ⟨g, 1, none⟩ = some (Value.slice D ds.length d) := (obj_cell og1).trans rfl
          have f4 : w9.frozen? ⟨g, 1, none⟩ = false := obj_frozen og1
          have hS9 := (And.intro ((obj_cell oa1).trans rfl : w9.cell? ⟨w.heap.size, 1, none⟩ = some (Value.slice (some ⟨b, off, none⟩) rs.length k)) (And.intro (hg3.cell HSA.out.2.1 (by intro he; have := HLIM.out b (by rw [← he.symm]; exact ownBlock_len _ _ _ _ _); omega)) (And.intro (hg3.cell HSA.out.2.2.1 (by intro he; have := HLIM.out rb (by rw [← he.symm]; exact ownBlock_len _ _ _ _ _); omega)) (hg3.cell HSA.out.2.2.2 (by intro he; have := HLIM.out rb (by rw [← he.symm]; exact ownBlock_len _ _ _ _ _); omega)))))
          go_wp2_with fail
          refine hK.out _ _ (hS9) (fun hHeld => ?_)
          clear hK K
          try simp only [Act.put, List.setIfInBounds_toArray, List.set_cons_zero, List.set_cons_succ, List.getElem_toArray, List.getElem_cons_succ, List.getElem_cons_zero]
          refine wpAnyH_take (i := 18) (oi := _) (v := ?_) rfl (by kernel_rfl) (by kernel_rfl) (by kernel_rfl) (fun _ _ _ h => h) (Or.inl ⟨by rfl, ?_⟩) (by assumption) ?_
          rotate_left
          · intro w hSw
            try dsimp only at hSw
            go_simp
            all_goals with_reducible rfl
          try simp only [Act.put, List.setIfInBounds_toArray, List.set_cons_zero, List.set_cons_succ, List.getElem_toArray, List.getElem_cons_succ, List.getElem_cons_zero]
          refine wpAnyH_ready (rs := [19]) (by kernel_rfl) (by simp) ?_
          refine AllReadyH.cons (o := _) rfl (fun K hK => ?_) AllReadyH.nil
          go_simp
          refine hK.out _ _ (KS.out _ _ hS9) (fun hHeld => ?_)
          clear hK K
          try simp only [Act.put, List.setIfInBounds_toArray, List.set_cons_zero, List.set_cons_succ, List.getElem_toArray, List.getElem_cons_succ, List.getElem_cons_zero]
          refine wpAnyH_done (by kernel_rfl) ?_ _
          have hlim : ∀ q, (Value.slice D 0 0).ownBlock = some q → w3.heap.size ≤ q ∧ q < wr.heap.size := fun q hq => HLIM.out q (by rw [← hq]; exact ownBlock_len _ _ _ _ _)
          have hA1 := hAr.kept hg3 (own_off (lim := g) (fun q hq => (lA q hq).2) (fun q hq => by have := hlim q hq; omega))
          have hbw3 := hbr2.grown hg3 (by simp; omega) (fun q hq => by have := hlim q hq; omega)
          have hsp : Span g (g + 1) w9 (w9.setCell ⟨g, 1, none⟩ (Value.slice A5 ps.length c5)) := Span.set (p := ⟨g, 1, none⟩) (Nat.le_refl _) (Nat.lt_succ_self _) _
          have hA2 := own_span hA1 hsp (fun q hq => .inl (lA q hq).2)
          have hO7 := (hO6.span hsp (.inr (by omega))).wider (Nat.le_refl _) hsp.size
          have oa2 := obj_other (g' := g) (i := 1) oa1 (by omega) (Value.slice A5 ps.length c5)
          have ob2 := obj_other (g' := g) (i := 1) ob1 (by omega) (Value.slice A5 ps.length c5)
          have og2 := obj_set (i := 1) og1 (Value.slice A5 ps.length c5)
          have hb5 := hbw3.setCell (p := ⟨g, 1, none⟩) (by simp; omega) (Value.slice A5 ps.length c5)
          have hs5 : w3.heap.size ≤ (w9.setCell ⟨g, 1, none⟩ (Value.slice A5 ps.length c5)).heap.size := by have h1 := hg3.size; have h2 := hsp.size; simp at h1; omega
          have K := Lib.hid (And.intro oa2 (And.intro ob2 (And.intro og2 (And.intro hA2 (And.intro hO7 (And.intro hb5 (And.intro hs5 hX9)))))))
          clear f1d f1r oa2 ob2 og2 hA2 hO7 hb5 hs5 hsp hA1 hbw3 hgr hg3 hO6 oa1 ob1 og1 f3 f4 hS9 oar obr ogr hAr hbr2 hlim oa ob og hA hO hbw hX9 HS0 HSA
          go_wp2_with fail
          go_roundw
          case rel => exact ⟨j + 1, A5, c5, ps, by omega, by go_num, K.out.2.2.1, K.out.1, K.out.2.1, K.out.2.2.2.1, K.out.2.2.2.2.1, Lib.hid (by rw [HS.out, K.out.2.2.2.2.2.2.2]), K.out.2.2.2.2.2.1, K.out.2.2.2.2.2.2.1⟩
          case measure => (simp [intOf]) <;> omega
        · refine AllReadyH.cons (o := _) rfl (fun K hK => ?_) AllReadyH.nil
          go_simp
          refine hK.out _ _ (HSA.out) (fun hHeld => ?_)
          clear hK K
          try simp only [Act.put, List.setIfInBounds_toArray, List.set_cons_zero, List.set_cons_succ, List.getElem_toArray, List.getElem_cons_succ, List.getElem_cons_zero]
          refine wpAnyH_ready (rs := [1]) (by kernel_rfl) (by simp) ?_
          refine AllReadyH.cons (o := _) rfl (fun K hK => ?_) AllReadyH.nil
          go_simp
          refine hK.out _ _ (HSA.out) (fun hHeld => ?_)
          clear hK K
          try simp only [Act.put, List.setIfInBounds_toArray, List.set_cons_zero, List.set_cons_succ, List.getElem_toArray, List.getElem_cons_succ, List.getElem_cons_zero]
          refine wpAnyH_ready (rs := [17]) (by kernel_rfl) (by simp) ?_
          refine AllReadyH.cons (o := _) rfl (fun K hK => ?_) AllReadyH.nil
          go_simp
          refine Calls.mono (CTH.out _ (by first | rfl | fail)) ?_
          rintro e w9 ⟨A5, c5, ps, rfl, hX9, hO6, hgr⟩
          have hg3 := grown_drew hgr
          have og1 := (hg3.block _ (obj_lt ogr) (by intro he; have := HLIM.out g (by rw [← he.symm]; exact ownBlock_len _ _ _ _ _); omega)).trans ogr
          have oa1 := (hg3.block _ (obj_lt oar) (by intro he; have := HLIM.out w.heap.size (by rw [← he.symm]; exact ownBlock_len _ _ _ _ _); omega)).trans oar
          have ob1 := (hg3.block _ (obj_lt obr) (by intro he; have := HLIM.out (w.heap.size + 1) (by rw [← he.symm]; exact ownBlock_len _ _ _ _ _); omega)).trans obr
          have f3 : w9.cell? ⟨g, 1, none⟩ = some (Value.slice D ds.length d) := (obj_cell og1).trans rfl
          have f4 : w9.frozen? ⟨g, 1, none⟩ = false := obj_frozen og1
          have hS9 := (And.intro ((obj_cell oa1).trans rfl : w9.cell? ⟨w.heap.size, 1, none⟩ = some (Value.slice (some ⟨b, off, none⟩) rs.length k)) (And.intro (hg3.cell HSA.out.2.1 (by intro he; have := HLIM.out b (by rw [← he.symm]; exact ownBlock_len _ _ _ _ _); omega)) (And.intro (hg3.cell HSA.out.2.2.1 (by intro he; have := HLIM.out rb (by rw [← he.symm]; exact ownBlock_len _ _ _ _ _); omega)) (hg3.cell HSA.out.2.2.2 (by intro he; have := HLIM.out rb (by rw [← he.symm]; exact ownBlock_len _ _ _ _ _); omega)))))
          go_wp2_with fail
          refine hK.out _ _ (hS9) (fun hHeld => ?_)
          clear hK K
          try simp only [Act.put, List.setIfInBounds_toArray, List.set_cons_zero, List.set_cons_succ, List.getElem_toArray, List.getElem_cons_succ, List.getElem_cons_zero]
          refine wpAnyH_take (i := 18) (oi := _) (v := ?_) rfl (by kernel_rfl) (by kernel_rfl) (by kernel_rfl) (fun _ _ _ h => h) (Or.inl ⟨by rfl, ?_⟩) (by assumption) ?_
          rotate_left
          · intro w hSw
            try dsimp only at hSw
            go_simp
            all_goals with_reducible rfl
          try simp only [Act.put, List.setIfInBounds_toArray, List.set_cons_zero, List.set_cons_succ, List.getElem_toArray, List.getElem_cons_succ, List.getElem_cons_zero]
          refine wpAnyH_ready (rs := [19]) (by kernel_rfl) (by simp) ?_
          refine AllReadyH.cons (o := _) rfl (fun K hK => ?_) AllReadyH.nil
          go_simp
          refine hK.out _ _ (KS.out _ _ hS9) (fun hHeld => ?_)
          clear hK K
          try simp only [Act.put, List.setIfInBounds_toArray, List.set_cons_zero, List.set_cons_succ, List.getElem_toArray, List.getElem_cons_succ, List.getElem_cons_zero]
          refine wpAnyH_done (by kernel_rfl) ?_ _
          have hlim : ∀ q, (Value.slice D 0 0).ownBlock = some q → w3.heap.size ≤ q ∧ q < wr.heap.size := fun q hq => HLIM.out q (by rw [← hq]; exact ownBlock_len _ _ _ _ _)
          have hA1 := hAr.kept hg3 (own_off (lim := g) (fun q hq => (lA q hq).2) (fun q hq => by have := hlim q hq; omega))
          have hbw3 := hbr2.grown hg3 (by simp; omega) (fun q hq => by have := hlim q hq; omega)
          have hsp : Span g (g + 1) w9 (w9.setCell ⟨g, 1, none⟩ (Value.slice A5 ps.length c5)) := Span.set (p := ⟨g, 1, none⟩) (Nat.le_refl _) (Nat.lt_succ_self _) _
          have hA2 := own_span hA1 hsp (fun q hq => .inl (lA q hq).2)
          have hO7 := (hO6.span hsp (.inr (by omega))).wider (Nat.le_refl _) hsp.size
          have oa2 := obj_other (g' := g) (i := 1) oa1 (by omega) (Value.slice A5 ps.length c5)
          have ob2 := obj_other (g' := g) (i := 1) ob1 (by omega) (Value.slice A5 ps.length c5)
          have og2 := obj_set (i := 1) og1 (Value.slice A5 ps.length c5)
          have hb5 := hbw3.setCell (p := ⟨g, 1, none⟩) (by simp; omega) (Value.slice A5 ps.length c5)
          have hs5 : w3.heap.size ≤ (w9.setCell ⟨g, 1, none⟩ (Value.slice A5 ps.length c5)).heap.size := by have h1 := hg3.size; have h2 := hsp.size; simp at h1; omega
          have K := Lib.hid (And.intro oa2 (And.intro ob2 (And.intro og2 (And.intro hA2 (And.intro hO7 (And.intro hb5 (And.intro hs5 hX9)))))))
          clear f1d f1r oa2 ob2 og2 hA2 hO7 hb5 hs5 hsp hA1 hbw3 hgr hg3 hO6 oa1 ob1 og1 f3 f4 hS9 oar obr ogr hAr hbr2 hlim oa ob og hA hO hbw hX9 HS0 HSA
          go_wp2_with fail
          go_roundw
          case rel => exact ⟨j + 1, A5, c5, ps, by omega, by go_num, K.out.2.2.1, K.out.1, K.out.2.1, K.out.2.2.2.1, K.out.2.2.2.2.1, Lib.hid (by rw [HS.out, K.out.2.2.2.2.2.2.2]), K.out.2.2.2.2.2.1, K.out.2.2.2.2.2.2.1⟩
          case measure => (simp [intOf]) <;> omega
      · obtain rfl : j = rs.length := by omega
        have s3 := HZ3.out
        have hlim : ∀ q, (Value.slice D 0 0).ownBlock = some q → w3.heap.size ≤ q := fun q hq => (hO.olim (n := ds.length) (by simp) q (by rw [← hq]; exact ownBlock_len _ _ _ _ _)).1
        have g0 : wr.cell? ⟨w.heap.size + 1, 0, none⟩ = some (Value.slice none 0 0) := (obj_cell ob).trans rfl
        have g1 : wr.cell? ⟨w.heap.size + 1, 1, none⟩ = some (Value.slice none 0 0) := (obj_cell ob).trans rfl
        have g2 : wr.frozen? ⟨w.heap.size + 1, 0, none⟩ = false := obj_frozen ob
        have g3 : wr.frozen? ⟨w.heap.size + 1, 1, none⟩ = false := obj_frozen ob
        have o2 := obj_set (i := 1) (obj_set (i := 0) ob (Value.slice A2 (invL xs).length c2)) (Value.slice D ds.length d)
        have hsp : Span (w.heap.size + 1) (w.heap.size + 1 + 1) wr ((wr.setCell ⟨w.heap.size + 1, 0, none⟩ (Value.slice A2 (invL xs).length c2)).setCell ⟨w.heap.size + 1, 1, none⟩ (Value.slice D ds.length d)) :=
          (Span.set (p := ⟨w.heap.size + 1, 0, none⟩) (Nat.le_refl _) (Nat.lt_succ_self _) _).trans (Span.set (p := ⟨w.heap.size + 1, 1, none⟩) (Nat.le_refl _) (Nat.lt_succ_self _) _)
        have hr0 : Own wr wn.heap.size g [⟨A2, c2, invL xs⟩] [] := (Own.one hA (Nat.le_refl _)).lim g (fun r hr q hq => by obtain rfl := List.mem_singleton.1 hr; exact (lA q hq).2)
        have own : Own wr wn.heap.size wr.heap.size (⟨A2, c2, invL xs⟩ :: ds) [⟨D, d, ds.map Row.v⟩] := by
          have := hr0.app (hO.wider (show g ≤ w3.heap.size by omega) (Nat.le_refl _)) (by omega) (by omega)
          simpa using this
        have own := own.span hsp (.inr (by omega))
        have hb4 := (hbw.setCell (p := ⟨w.heap.size + 1, 0, none⟩) (by simp) (Value.slice A2 (invL xs).length c2)).setCell (p := ⟨w.heap.size + 1, 1, none⟩) (by simp) (Value.slice D ds.length d)
        have l0 := (obj_cell (i := 0) o2).trans rfl
        have l1 := (obj_cell (i := 1) o2).trans rfl
        have hq2 := hsp.size
        clear hsp
        go_wp2_with fail
        refine bodyPost_ret (v := .tuple #[.agg #[.slice A2 (invL xs).length c2, .slice D ds.length d], .bool true]) (by simp [results, Try.results14, go_sem, l0, l1]) rfl ?_
        rw [H1.out, H2.out, HN.out]
        exact ⟨A2, D, c2, d, ds, rfl, HX.out, own.wider (by omega) (by omega), hb4⟩
  · have hnf : meshB xs (rs.map Row.xs) = false := by simpa using hn
    have H1 := Lib.hid (show imG1 xs (rs.map Row.xs) = [] by unfold imG1; rw [hnf]; rfl)
    have H2 := Lib.hid (show imG2 xs (rs.map Row.xs) = [] by unfold imG2; rw [hnf]; rfl)
    have HN := Lib.hid hnf
    (with_reducible refine (mesh_sb A B c k xs rs w0 false (h.next hb0) hnf).mono ?_)
    rintro e w1 ⟨rfl, hb1⟩
    have oa := obj_below oa hb1 (obj_lt oa)
    have ob := obj_below ob hb1 (obj_lt ob)
    have hb := hb0.trans (hb1.mono hb0.size)
    have f0 : w1.cell? ⟨w.heap.size, 0, none⟩ = some (Value.slice A xs.length c) := (obj_cell oa).trans rfl
    have g0 : w1.cell? ⟨w.heap.size + 1, 0, none⟩ = some (Value.slice none 0 0) := (obj_cell ob).trans rfl
    have g1 : w1.cell? ⟨w.heap.size + 1, 1, none⟩ = some (Value.slice none 0 0) := (obj_cell ob).trans rfl
    have g2 : w1.frozen? ⟨w.heap.size + 1, 0, none⟩ = false := obj_frozen ob
    have g3 : w1.frozen? ⟨w.heap.size + 1, 1, none⟩ = false := obj_frozen ob
    have o2 := obj_set (i := 1) (obj_set (i := 0) ob (Value.slice none 0 0)) (Value.slice none 0 0)
    have hb4 := (hb.setCell (p := ⟨w.heap.size + 1, 0, none⟩) (by simp) (Value.slice none 0 0)).setCell (p := ⟨w.heap.size + 1, 1, none⟩) (by simp) (Value.slice none 0 0)
    have l0 := (obj_cell (i := 0) o2).trans rfl
    have l1 := (obj_cell (i := 1) o2).trans rfl
    clear hn hnf
    go_wp2_with fail
    refine bodyPost_ret (v := .tuple #[.agg #[.slice none 0 0, .slice none 0 0], .bool false]) (by simp [results, Try.results14, go_sem, l0, l1]) rfl ?_
    rw [H1.out, H2.out, HN.out]
    exact ⟨_, _, _, _, [], rfl, rfl, own_nilmesh _ _ _, hb4⟩
end Go.Proofs.Ythipikllgpnlhaa
