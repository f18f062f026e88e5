/- InverseMesh, program and reference. -/
import Derived.Test.YthkggnmfdlggbaaK3
import Derived.Test.YthkggnmfdlggbaaY4
import Derived.Test.YthkggnmfdlggbaaCM
namespace Go.Proofs.Ythkggnmfdlggbaa
set_option maxRecDepth 100000
open Go Go.RowKit

def swp (s : List Int) : List Int := [s[1]?.getD 0, s[0]?.getD 0]
theorem swp_len (s : List Int) : (swp s).length = 2 := rfl
def swL (X : List (List Int)) : List (List Int) := X.map swp
theorem swL_len (X : List (List Int)) : (swL X).length = X.length := by simp [swL]
theorem swL_two {X : List (List Int)} : ∀ s ∈ swL X, s.length = 2 := fun s hs => by
  obtain ⟨a, _, rfl⟩ := List.mem_map.1 hs
  rfl
/-- The first j boxes, swapped and put in order one after the other. -/
def imTo (X : List (List Int)) (j : Nat) : List (List Int) := ordL (swL (X.take j))
theorem imTo_succ (X : List (List Int)) (j : Nat) (h : j < X.length) : imTo X (j + 1) = putL (imTo X j) (swp X[j]) := by
  unfold imTo swL ordL
  rw [List.take_succ_eq_append_getElem h, List.map_append, List.foldl_append]; rfl
theorem imTo_len (X : List (List Int)) (j : Nat) (h : j ≤ X.length) : (imTo X j).length ≤ j := by
  have h1 := ordL_len (swL (X.take j))
  rw [swL_len, List.length_take] at h1
  unfold imTo
  omega
theorem imTo_two (X : List (List Int)) (j : Nat) : ∀ s ∈ imTo X j, s.length = 2 := fun s hs => by
  unfold imTo at hs
  exact swL_two s ((ordL_mem _ s).1 hs)
theorem swp_inj {x y : List Int} (hx : x.length = 2) (hy : y.length = 2) (h : swp x = swp y) : x = y := by
  match x, y, hx, hy with
  | [a, b], [c, d], _, _ =>
    simp only [swp, List.getElem?_cons_succ, List.getElem?_cons_zero, Option.getD_some, List.cons.injEq, and_true] at h
    rw [h.1, h.2]
theorem swL_nodup {xs : List Int} {X : List (List Int)} (h : meshB xs X = true) : (swL X).Pairwise (· ≠ ·) := by
  unfold swL
  rw [List.pairwise_map]
  refine List.Pairwise.imp_of_mem ?_ (mesh_srt h)
  intro a b ha hb hab he
  have e := swp_inj (mesh_two h a ha) (mesh_two h b hb) he
  subst e
  rw [before_irrefl] at hab
  cases hab
/-- Sorted, without repeats: put in order one after the other. -/
theorem sorted_ord {S X : List (List Int)} (hs : S.Pairwise fun x y => before y x = false) (hp : S.Perm X) (hn : X.Pairwise (· ≠ ·)) : S = ordL X := by
  refine srt_ext ?_ (ordL_srt X) fun q => by rw [ordL_mem]; exact hp.mem_iff
  have hn' : S.Pairwise (· ≠ ·) := (hp.symm.pairwise_iff (fun {a b} h => Ne.symm h)).1 hn
  unfold Srt
  refine (hs.and hn').imp fun {a b} h => ?_
  cases hb : before a b with
  | true => rfl
  | false => exact absurd (before_total hb h.1) h.2
theorem before_two {x y : List Int} (hx : x.length = 2) (hy : y.length = 2) : decide (cmpL x y < 0) = before x y := by
  unfold before
  rw [if_pos (hx.trans hy.symm)]
def imG1 (xs : List Int) (X : List (List Int)) : List Int := if meshB xs X = true then invL xs else []
def imG2 (xs : List Int) (X : List (List Int)) : List (List Int) := if meshB xs X = true then imTo X X.length else []
theorem imG_le (xs : List Int) (X : List (List Int)) : (imG1 xs X).length + ((imG2 xs X).length + sizeX (imG2 xs X)) ≤ 1048576 := by
  unfold imG1 imG2
  by_cases h : meshB xs X = true
  · rw [if_pos h, if_pos h]
    have h1 := mesh_len h
    have h2 := (mesh_perm h).2
    have h3 := imTo_len X X.length (Nat.le_refl _)
    rw [sizeX_two fun s hs => imTo_two X X.length s hs]
    have h4 : (invL xs).length = xs.length := by unfold invL; exact invTo_length _ _
    omega
  · rw [if_neg h, if_neg h]
    simp [sizeX]
theorem call_cmpS (args : Array Value) (w : World) : (callFunc 55 args).run Try.prog w = .ok (.enter 55 args) w := by kernel_rfl
theorem grow_nil (w : World) : w = Sort.grow (w.drewN 0) #[] := by
  show w = ({ w with heap := w.heap ++ #[] } : World)
  simp
set_option maxHeartbeats 2000000 in
theorem inverseMesh_impl (A B : Option Addr) (c k : Nat) (xs : List Int) (rs : List Row) (w : World) (h : InM w A c xs B k rs) :
    Calls Try.prog 20 #[.agg #[.slice A xs.length c, .slice B rs.length k]] w (RetMb w (imG1 xs (rs.map Row.xs)) (imG2 xs (rs.map Row.xs)) (meshB xs (rs.map Row.xs))) := by
  obtain ⟨j0, hj, hy0, hy1, hy2⟩ := info_parts infoL
  have hlx := h.1.len
  have hly := h.2.len
  go_enter Try.func20, Try.ntmps20
  have hb0 : Below w.heap.size w ((w.alloc (Obj.cells #[Value.slice A xs.length c, Value.slice B rs.length k] 37)).alloc (Obj.cells #[Value.slice none 0 0, Value.slice none 0 0] 37)) := ((Below.refl _ _).alloc (Nat.le_refl _) _).alloc (by simp) _
  go_wp2_with fail
  have oa := obj_alloc (obj_new w (Obj.cells #[Value.slice A xs.length c, Value.slice B rs.length k] 37)) (Obj.cells #[Value.slice none 0 0, Value.slice none 0 0] 37)
  have ob := obj_new (w.alloc (Obj.cells #[Value.slice A xs.length c, Value.slice B rs.length k] 37)) (Obj.cells #[Value.slice none 0 0, Value.slice none 0 0] 37)
  have hzw : ((w.alloc (Obj.cells #[Value.slice A xs.length c, Value.slice B rs.length k] 37)).alloc (Obj.cells #[Value.slice none 0 0, Value.slice none 0 0] 37)).heap.size = w.heap.size + 1 + 1 := by simp
  simp only [World.size_alloc] at ob
  generalize ((w.alloc (Obj.cells #[Value.slice A xs.length c, Value.slice B rs.length k] 37)).alloc (Obj.cells #[Value.slice none 0 0, Value.slice none 0 0] 37)) = w0 at hb0 oa ob hzw ⊢
  by_cases hn : meshB xs (rs.map Row.xs) = true
  · have HN := Lib.hid hn
    have H1 := Lib.hid (show imG1 xs (rs.map Row.xs) = invL xs by unfold imG1; rw [if_pos hn])
    have H2 := Lib.hid (show imG2 xs (rs.map Row.xs) = ordL (swL (rs.map Row.xs)) by unfold imG2 imTo; rw [if_pos hn, List.take_length])
    have hP := (mesh_perm hn).1
    have hrl : rs.length ≤ 25 := by simpa using mesh_len hn
    have HT := Lib.hid (rows_two hn)
    have HD := Lib.hid (swL_nodup hn)
    (with_reducible refine (mesh_ib A B c k xs rs w0 true (h.next hb0) HN.out).mono ?_)
    rintro e wn ⟨rfl, hb1⟩
    have oa := obj_below oa hb1 (obj_lt oa)
    have ob := obj_below ob hb1 (obj_lt ob)
    have hb := hb0.trans (hb1.mono hb0.size)
    have hsz1 := hb1.size
    have f0 : wn.cell? ⟨w.heap.size, 0, none⟩ = some (Value.slice A xs.length c) := (obj_cell oa).trans rfl
    have f1 : wn.cell? ⟨w.heap.size, 1, none⟩ = some (Value.slice B rs.length k) := (obj_cell oa).trans rfl
    have HI := Lib.hid (inverse_impl A c xs wn (h.1.next hb) hP)
    clear hn hb1 hP
    go_wp2_with fail
    (with_reducible refine HI.out.mono ?_)
    rintro e w2 ⟨A2, c2, rfl, _, _, own2, hb2⟩
    have oa := obj_below oa hb2 (obj_lt oa)
    have ob := obj_below ob hb2 (obj_lt ob)
    have hb' := hb.trans (hb2.mono hb.size)
    have hsz2 := hb2.size
    have hsb := hb'.size
    have oa3 := obj_alloc oa (Obj.cells #[Value.slice A2 (invL xs).length c2, Value.slice none 0 0] 37)
    have ob3 := obj_alloc ob (Obj.cells #[Value.slice A2 (invL xs).length c2, Value.slice none 0 0] 37)
    have oc3 := obj_new w2 (Obj.cells #[Value.slice A2 (invL xs).length c2, Value.slice none 0 0] 37)
    have hA3 := own2.alloc (Obj.cells #[Value.slice A2 (invL xs).length c2, Value.slice none 0 0] 37)
    have lA : ∀ q, (Value.slice A2 (invL xs).length c2).ownBlock = some q → wn.heap.size ≤ q ∧ q < w2.heap.size := fun q hq => own2.lt q hq
    have hb3 := hb'.alloc hsb (Obj.cells #[Value.slice A2 (invL xs).length c2, Value.slice none 0 0] 37)
    have hz3 : (w2.alloc (Obj.cells #[Value.slice A2 (invL xs).length c2, Value.slice none 0 0] 37)).heap.size = w2.heap.size + 1 := by simp
    have g1 : (w2.alloc (Obj.cells #[Value.slice A2 (invL xs).length c2, Value.slice none 0 0] 37)).cell? ⟨w.heap.size, 1, none⟩ = some (Value.slice B rs.length k) := (obj_cell oa3).trans rfl
    have hlt2 : w.heap.size + 1 < w2.heap.size := by omega
    clear own2 hb2 hb oa ob f0 f1 HI
    go_wp2_with fail
    generalize (w2.alloc (Obj.cells #[Value.slice A2 (invL xs).length c2, Value.slice none 0 0] 37)) = w3 at oa3 ob3 oc3 hA3 hb3 hz3 g1 ⊢
    obtain ⟨g, hg⟩ : ∃ g, g = w2.heap.size := ⟨_, rfl⟩
    rw [← hg] at oc3 hz3 hlt2 lA hsz2 ⊢
    have HZ3 := Lib.hid hz3
    clear hg hz3 g1
    go_loopw [18] (fun i wr => ∃ (j : Nat) (D : Option Addr) (d : Nat) (ds : List Row), j ≤ rs.length ∧ i = .int .i64 (j : Int) ∧ wr.heap[g]? = some (Obj.cells #[Value.slice A2 (invL xs).length c2, Value.slice D ds.length d] 37) ∧
      wr.heap[w.heap.size]? = some (Obj.cells #[Value.slice A xs.length c, Value.slice B rs.length k] 37) ∧
      wr.heap[w.heap.size + 1]? = some (Obj.cells #[Value.slice none 0 0, Value.slice none 0 0] 37) ∧ wr.ownsRow wn.heap.size 3 1 (.slice A2 (invL xs).length c2) (invL xs).length ((invL xs).map (Value.int .i64)) ∧
      Own wr w3.heap.size wr.heap.size ds [⟨D, d, ds.map Row.v⟩] ∧ Hid (ds.map Row.xs = swL ((rs.map Row.xs).take j)) ∧ Below w.heap.size w wr ∧ w3.heap.size ≤ wr.heap.size) (fun i _ => rs.length - (intOf i).toNat)
    case atStart => exact ⟨0, none, 0, [], Nat.zero_le _, rfl, oc3, oa3, ob3, hA3, Own.nil_list _ _ _, Lib.hid rfl, hb3, Nat.le_refl _⟩
    case round =>
      clear oc3 oa3 ob3 hA3 hb3
      obtain ⟨j, D, d, ds, hjl, rfl, og, oa, ob, hA, hO, HX, hbw, hsw⟩ := hrel
      have hdl : ds.length = j := by have := congrArg List.length HX.out; simp [swL] at this; omega
      have f1 : wr.cell? ⟨g, 1, none⟩ = some (Value.slice D ds.length d) := (obj_cell og).trans rfl
      have f0 : wr.cell? ⟨g, 0, none⟩ = some (Value.slice A2 (invL xs).length c2) := (obj_cell og).trans rfl
      have a0 : wr.cell? ⟨w.heap.size, 0, none⟩ = some (Value.slice A xs.length c) := (obj_cell oa).trans rfl
      have a1 : wr.cell? ⟨w.heap.size, 1, none⟩ = some (Value.slice B rs.length k) := (obj_cell oa).trans rfl
      have hcount : ds.length ≤ 25 := by omega
      have HDL := Lib.hid hdl
      clear hdl
      by_cases hlt : j < rs.length
      · have hL := h.2.next hbw
        obtain ⟨b, off, rfl, _, hc⟩ := hL.read.at (by omega)
        have cc := hc j hlt
        obtain ⟨r, hr⟩ : ∃ r, r = rs[j] := ⟨_, rfl⟩
        have hmem : r ∈ rs := by rw [hr]; exact List.getElem_mem hlt
        have h2 := HT.out r hmem
        have hrow := (hL.row hmem).rd
        rw [← hr] at cc
        obtain ⟨bx, by_, hab⟩ : ∃ a b, r.xs = [a, b] := by
          match hq : r.xs, h2 with
          | [a, b], _ => exact ⟨a, b, rfl⟩
        have HS := Lib.hid (show swL ((rs.map Row.xs).take (j + 1)) = swL ((rs.map Row.xs).take j) ++ [[by_, bx]] by
          unfold swL
          rw [List.take_succ_eq_append_getElem (by simpa using hlt), List.map_append]
          simp only [List.getElem_map, ← hr, hab]
          rfl)
        obtain ⟨rA, rc, rx⟩ := r
        simp only at hab
        subst hab
        obtain ⟨rb, ro, hA', _, hcc⟩ := hrow (by simp)
        simp only at hA'
        subst hA'
        have e0 : wr.cell? ⟨rb, ro, none⟩ = some (.int .i64 bx) := hcc 0 (by simp)
        have e1 : wr.cell? ⟨rb, ro + 1, none⟩ = some (.int .i64 by_) := hcc 1 (by simp)
        have cc : wr.cell? ⟨b, off + j, none⟩ = some (Value.slice (some ⟨rb, ro, none⟩) 2 rc) := cc
        have s3 : g < w3.heap.size := by have := HZ3.out; omega
        have hrow2 : (wr.alloc (.cells #[.int .i64 by_, .int .i64 bx] 3)).ownsRow wr.heap.size 3 1 (Row.v ⟨some ⟨wr.heap.size, 0, none⟩, 2, [by_, bx]⟩) 2 ([by_, bx].map (Value.int .i64)) := World.ownsRow_lit wr #[.int .i64 by_, .int .i64 bx] 2 (Nat.le_refl _) (by unfold maxLen; omega) rfl
        have hbr := (Below.refl wr.heap.size wr).alloc (Nat.le_refl _) (.cells #[.int .i64 by_, .int .i64 bx] 3)
        have hO2 := (hO.below hbr).add (r := ⟨some ⟨wr.heap.size, 0, none⟩, 2, [by_, bx]⟩) hrow2 (by simp) hsw
        have ho2 := hO2.outN (n := ds.length) (by simp)
        have oar := obj_alloc oa (.cells #[.int .i64 by_, .int .i64 bx] 3)
        have obr := obj_alloc ob (.cells #[.int .i64 by_, .int .i64 bx] 3)
        have ogr := obj_alloc og (.cells #[.int .i64 by_, .int .i64 bx] 3)
        have hAr := hA.alloc (.cells #[.int .i64 by_, .int .i64 bx] 3)
        have hbr2 := hbw.alloc (by omega) (.cells #[.int .i64 by_, .int .i64 bx] 3)
        have hlim := hO2.olim (n := ds.length) (by simp)
        clear hbr hrow2 hc hr hmem h2 hrow hcc hL
        have f1d : wr.drew.cell? ⟨g, 1, none⟩ = some (Value.slice D ds.length d) := f1
        have e0d : wr.drew.cell? ⟨rb, ro, none⟩ = some (.int .i64 bx) := e0
        have e1d : wr.drew.cell? ⟨rb, ro + 1, none⟩ = some (.int .i64 by_) := e1
        have f1r : (wr.alloc (Obj.cells #[.int .i64 by_, .int .i64 bx] 3)).cell? ⟨g, 1, none⟩ = some (Value.slice D ds.length d) := (obj_cell ogr).trans rfl
        have f1r2 : ((wr.alloc (Obj.cells #[.int .i64 by_, .int .i64 bx] 3)).alloc (Obj.cells #[Value.slice (some ⟨wr.heap.size, 0, none⟩) 2 2] 22)).cell? ⟨g, 1, none⟩ = some (Value.slice D ds.length d) := (obj_cell (obj_alloc ogr _)).trans rfl
        go_wp2_with fail
        go_region_law
          ((refine step_append_lies _ (by rfl) _ _ _ (by rfl) w3.heap.size 22 j0 (.slice none 0 0) 1 24 Try.underlying33 hj hy0 hy1 hy2 rfl (by decide) (Value.slice D ds.length d) ds.length (ds.map Row.v) (by rfl) ((World.ownsRow.alloc ho2 _).drew) ⟨wr.heap.size + 1, 0, none⟩ 1 1 [Value.slice (some ⟨wr.heap.size, 0, none⟩) 2 2] (by rfl) (by rfl) (cell_one_at (w := wr.alloc (.cells #[.int .i64 by_, .int .i64 bx] 3)) (H := wr.heap.size + 1) _ _ (by simp)) (by intro u hu; simp at hu; subst hu; rfl) (by omega) (by unfold maxLen; omega) (by omega) (by simp; omega) (wr.heap.size + 2) (by simp) ?_; intro gg cap w9 hown9 hgrow9 hat hlt9
            obtain ⟨A5, c5, hv5, hO6, hg3⟩ := hO2.grow (Nat.le_refl _) (by simp) hown9 (grown_drew hgrow9)
            injection hv5 with e51 _ e52
            subst e51 e52
            have oa1 := (hg3.block _ (obj_lt oar) (by intro he; have := hlim _ he.symm; omega)).trans oar
            have ob1 := (hg3.block _ (obj_lt obr) (by intro he; have := hlim _ he.symm; omega)).trans obr
            have og1 := (hg3.block _ (obj_lt ogr) (by intro he; have := hlim _ he.symm; omega)).trans ogr
            have f3 : w9.cell? ⟨g, 1, none⟩ = some (Value.slice D ds.length d) := (obj_cell og1).trans rfl
            have f4 : w9.frozen? ⟨g, 1, none⟩ = false := obj_frozen og1))
        all_goals
          have hA1 := hAr.kept hg3 (own_off (lim := g) (fun q hq => (lA q hq).2) (fun q hq => by have := hlim q hq; omega))
          have hbw3 := hbr2.grown hg3 (by simp; omega) (fun q hq => by have := hlim q hq; omega)
          have hsp : Span g (g + 1) w9 (w9.setCell ⟨g, 1, none⟩ (Value.slice (some ⟨gg, 0, none⟩) (ds.length + 1) cap)) := Span.set (p := ⟨g, 1, none⟩) (Nat.le_refl _) (Nat.lt_succ_self _) _
          have hA2 := own_span hA1 hsp (fun q hq => .inl (lA q hq).2)
          have hO7 := (hO6.span hsp (.inr (by omega))).wider (Nat.le_refl _) hsp.size
          have oa2 := obj_other (g' := g) (i := 1) oa1 (by omega) (Value.slice (some ⟨gg, 0, none⟩) (ds.length + 1) cap)
          have ob2 := obj_other (g' := g) (i := 1) ob1 (by omega) (Value.slice (some ⟨gg, 0, none⟩) (ds.length + 1) cap)
          have og2 := obj_set (i := 1) og1 (Value.slice (some ⟨gg, 0, none⟩) (ds.length + 1) cap)
          have hb5 := hbw3.setCell (p := ⟨g, 1, none⟩) (by simp; omega) (Value.slice (some ⟨gg, 0, none⟩) (ds.length + 1) cap)
          have hs5 : w3.heap.size ≤ (w9.setCell ⟨g, 1, none⟩ (Value.slice (some ⟨gg, 0, none⟩) (ds.length + 1) cap)).heap.size := by have h1 := hg3.size; have h2 := hsp.size; simp at h1; omega
          have K := Lib.hid (And.intro oa2 (And.intro ob2 (And.intro og2 (And.intro hA2 (And.intro hO7 (And.intro hb5 hs5))))))
          clear oa2 ob2 og2 hA2 hO7 hb5 hs5 hsp hA1 hbw3 hown9 hgrow9 hg3 hO6 oa1 ob1 og1 f3 f4 f1 f0 a0 a1 f1r f1d f1r2 e0d e1d e0 e1 cc hO2 ho2 oar obr ogr hAr hbr2 hlim oa ob og hA hO hbw
          go_wp2_with fail
          go_roundw
          case rel => exact ⟨j + 1, some ⟨gg, 0, none⟩, cap, ds ++ [⟨some ⟨wr.heap.size, 0, none⟩, 2, [by_, bx]⟩], by omega, by go_num, by rw [List.length_append]; exact K.out.2.2.1, K.out.1, K.out.2.1, K.out.2.2.2.1, by simpa [Row.v] using K.out.2.2.2.2.1, Lib.hid (by rw [HS.out, List.map_append, HX.out]; rfl), K.out.2.2.2.2.2.1, K.out.2.2.2.2.2.2⟩
          case measure => (simp [intOf]) <;> omega
      · obtain rfl : j = rs.length := by omega
        have HX2 := Lib.hid (show ds.map Row.xs = swL (rs.map Row.xs) by rw [HX.out]; rw [List.take_of_length_le (by simp)])
        have h2d : ∀ r ∈ ds, r.xs.length = 2 := fun r hr => swL_two r.xs (by rw [← HX2.out]; exact List.mem_map.2 ⟨r, hr, rfl⟩)
        have s3 := HZ3.out
        have hlim : ∀ q, (Value.slice D 0 0).ownBlock = some q → w3.heap.size ≤ q := fun q hq => (hO.olim (n := ds.length) (by simp) q (by rw [← hq]; exact ownBlock_len _ _ _ _ _)).1
        have hS := Lib.hid (sort_any D d w3.heap.size ds wr 55 cmpL hO (by omega) (fun args w => call_cmpS args w) (fun x hx y hy => before_two (h2d x hx) (h2d y hy)) (fun W x y hx hy h1 h2 => (compareS_any x.A y.A x.c y.c x.xs.length y.xs.length x.xs y.xs W rfl rfl (by have := h2d x hx; omega) (by have := h2d y hy; omega) h1 h2).mono fun e w' he => ⟨he.1, 0, #[], by rw [← he.2]; exact grow_nil W⟩))
        clear h2d
        go_wp2_with fail
        (with_reducible refine hS.out.mono ?_)
        rintro e wq ⟨rfl, ss, hperm, hsorted, hO1, hgq⟩
        have hsl : ss.length = ds.length := hperm.length_eq
        have HE := Lib.hid (show ss.map Row.xs = ordL (swL (rs.map Row.xs)) from sorted_ord hsorted (by rw [← HX2.out]; exact hperm.map _) HD.out)
        have og := (hgq.block g (obj_lt og) (by intro he; have := hlim _ he.symm; omega)).trans og
        have ob := (hgq.block (w.heap.size + 1) (obj_lt ob) (by intro he; have := hlim _ he.symm; omega)).trans ob
        have hA2 := hA.kept hgq (own_off (lim := g) (fun q hq => (lA q hq).2) (fun q hq => by have := hlim q hq; omega))
        have hbq := hbw.grown hgq hbw.size (fun q hq => by have := hlim q hq; omega)
        have hsq := hgq.size
        have f1 : wq.cell? ⟨g, 1, none⟩ = some (Value.slice D ds.length d) := (obj_cell og).trans rfl
        have f0 : wq.cell? ⟨g, 0, none⟩ = some (Value.slice A2 (invL xs).length c2) := (obj_cell og).trans rfl
        have g0 : wq.cell? ⟨w.heap.size + 1, 0, none⟩ = some (Value.slice none 0 0) := (obj_cell ob).trans rfl
        have g1 : wq.cell? ⟨w.heap.size + 1, 1, none⟩ = some (Value.slice none 0 0) := (obj_cell ob).trans rfl
        have g2 : wq.frozen? ⟨w.heap.size + 1, 0, none⟩ = false := obj_frozen ob
        have g3 : wq.frozen? ⟨w.heap.size + 1, 1, none⟩ = false := obj_frozen ob
        have o2 := obj_set (i := 1) (obj_set (i := 0) ob (Value.slice A2 (invL xs).length c2)) (Value.slice D ds.length d)
        have hsp : Span (w.heap.size + 1) (w.heap.size + 1 + 1) wq ((wq.setCell ⟨w.heap.size + 1, 0, none⟩ (Value.slice A2 (invL xs).length c2)).setCell ⟨w.heap.size + 1, 1, none⟩ (Value.slice D ds.length d)) :=
          (Span.set (p := ⟨w.heap.size + 1, 0, none⟩) (Nat.le_refl _) (Nat.lt_succ_self _) _).trans (Span.set (p := ⟨w.heap.size + 1, 1, none⟩) (Nat.le_refl _) (Nat.lt_succ_self _) _)
        have hr0 : Own wq wn.heap.size g [⟨A2, c2, invL xs⟩] [] := (Own.one hA2 (Nat.le_refl _)).lim g (fun r hr q hq => by obtain rfl := List.mem_singleton.1 hr; exact (lA q hq).2)
        have own : Own wq wn.heap.size wq.heap.size (⟨A2, c2, invL xs⟩ :: ss) [⟨D, d, ss.map Row.v⟩] := by
          have := hr0.app (hO1.wider (show g ≤ w3.heap.size by omega) (Nat.le_refl _)) (by omega) (by omega)
          simpa using this
        have own := own.span hsp (.inr (by omega))
        have hb4 := (hbq.setCell (p := ⟨w.heap.size + 1, 0, none⟩) (by simp) (Value.slice A2 (invL xs).length c2)).setCell (p := ⟨w.heap.size + 1, 1, none⟩) (by simp) (Value.slice D ds.length d)
        have l0 := (obj_cell (i := 0) o2).trans rfl
        have l1 := (obj_cell (i := 1) o2).trans rfl
        have hq2 := hsp.size
        have HSL := Lib.hid hsl
        clear hsp hsl hperm hsorted
        go_wp2_with fail
        refine bodyPost_ret (v := .tuple #[.agg #[.slice A2 (invL xs).length c2, .slice D ds.length d], .bool true]) (by simp [results, Try.results20, go_sem, l0, l1]) rfl ?_
        rw [H1.out, H2.out, HN.out]
        exact ⟨A2, D, c2, d, ss, by rw [HSL.out], HE.out, own.wider (by omega) (by omega), hb4⟩
  · have hnf : meshB xs (rs.map Row.xs) = false := by simpa using hn
    have H1 := Lib.hid (show imG1 xs (rs.map Row.xs) = [] by unfold imG1; rw [hnf]; rfl)
    have H2 := Lib.hid (show imG2 xs (rs.map Row.xs) = [] by unfold imG2; rw [hnf]; rfl)
    have HN := Lib.hid hnf
    (with_reducible refine (mesh_ib A B c k xs rs w0 false (h.next hb0) hnf).mono ?_)
    rintro e w1 ⟨rfl, hb1⟩
    have oa := obj_below oa hb1 (obj_lt oa)
    have ob := obj_below ob hb1 (obj_lt ob)
    have hb := hb0.trans (hb1.mono hb0.size)
    have f0 : w1.cell? ⟨w.heap.size, 0, none⟩ = some (Value.slice A xs.length c) := (obj_cell oa).trans rfl
    have g0 : w1.cell? ⟨w.heap.size + 1, 0, none⟩ = some (Value.slice none 0 0) := (obj_cell ob).trans rfl
    have g1 : w1.cell? ⟨w.heap.size + 1, 1, none⟩ = some (Value.slice none 0 0) := (obj_cell ob).trans rfl
    have g2 : w1.frozen? ⟨w.heap.size + 1, 0, none⟩ = false := obj_frozen ob
    have g3 : w1.frozen? ⟨w.heap.size + 1, 1, none⟩ = false := obj_frozen ob
    have o2 := obj_set (i := 1) (obj_set (i := 0) ob (Value.slice none 0 0)) (Value.slice none 0 0)
    have hb4 := (hb.setCell (p := ⟨w.heap.size + 1, 0, none⟩) (by simp) (Value.slice none 0 0)).setCell (p := ⟨w.heap.size + 1, 1, none⟩) (by simp) (Value.slice none 0 0)
    have l0 := (obj_cell (i := 0) o2).trans rfl
    have l1 := (obj_cell (i := 1) o2).trans rfl
    clear hn hnf
    go_wp2_with fail
    refine bodyPost_ret (v := .tuple #[.agg #[.slice none 0 0, .slice none 0 0], .bool false]) (by simp [results, Try.results20, go_sem, l0, l1]) rfl ?_
    rw [H1.out, H2.out, HN.out]
    exact ⟨_, _, _, _, [], rfl, rfl, own_nilmesh _ _ _, hb4⟩
end Go.Proofs.Ythkggnmfdlggbaa
