/- Several texts in one, each with its own head: WTrees, Open. No program of ours. -/
import Derived.Deep.RegionHeld3
import Derived.Test.YtldknpjeegdbmaaGreatRows
import Derived.ProofKit
import Derived.OpenShut
import Derived.Deep.Matrix
import Derived.Test.YtldknpjeegdbmaaGreatMTrees13
/- The walk of FnTrees. Written by gen/genwt.py. -/
namespace Go.Proofs.YtldknpjeegdbmaaGreat
set_option maxRecDepth 100000
open Go Go.RowKit

theorem tree_facts {p : List Int} (h : spOk p = true) : permB (spR p) = true ∧ spR p ≠ [] ∧ ifB (spR p) (spP p) = true ∧ ifG (spR p) (spP p) = p ∧ (simpB (spR p) = true ∨ p.length = 1) ∧ (simpB p = true → 4 ≤ p.length → spR p = p) ∧ permB p = true ∧ p ≠ [] := by
  obtain ⟨hp, h0⟩ := spOk_true h
  obtain ⟨e1, e2, _⟩ := sp_good hp h0
  rw [e1, e2]
  have hs := split_is hp h0
  obtain ⟨h1, h2, h3, h4, h5⟩ := split_part hp hs
  have hi : ifB (splitR p) (splitP p) = true := by
    unfold ifB
    simp only [Bool.and_eq_true, decide_eq_true_eq, List.all_eq_true, Bool.not_eq_true', List.isEmpty_eq_false_iff]
    refine ⟨⟨⟨⟨h3, h2⟩, ?_⟩, fun q hq => (h1 q hq).2.1⟩, ?_⟩
    · unfold allPermB
      rw [Bool.not_eq_true', List.any_eq_false]
      intro q hq
      rw [(h1 q hq).1]
      decide
    · unfold smTo
      rw [List.take_length, h4]
      exact (permB_true hp).1
  refine ⟨h3, h5, hi, ?_, ?_, fun hs1 h4' => split_self hp hs hs1 h4', hp, h0⟩
  · unfold ifG
    rw [if_pos hi]
    exact split_infl hp hs
  · rcases split_simple hp hs with h | h
    · exact .inr h
    · exact .inl h
theorem in_lit4 {w : World} {bl : Nat} {x y z u : Int} (h : w.heap[bl]? = some (.cells #[.int .i64 x, .int .i64 y, .int .i64 z, .int .i64 u] 3 (0, 0))) : In w (some ⟨bl, 0, none⟩) 4 [x, y, z, u] :=
  ⟨by simp, Nat.le_refl _, fun _ => ⟨bl, 0, rfl, obj_lt h, fun j hj => by
    rw [Nat.zero_add, obj_cell h]
    match j, hj with
    | 0, _ => rfl
    | 1, _ => rfl
    | 2, _ => rfl
    | 3, _ => rfl⟩⟩
theorem has4_sq {b : Bool} (S : Option Addr) (sk : Nat) (s : List Int) (bl : Nat) (x y z u : Int) (w : World) (hs : In w S sk s) (h : w.heap[bl]? = some (.cells #[.int .i64 x, .int .i64 y, .int .i64 z, .int .i64 u] 3 (0, 0))) (hb : hpG s [x, y, z, u] = b) :
    Calls Tryz.prog 22 #[.slice S s.length sk, .slice (some ⟨bl, 0, none⟩) 4 4] w (Rb w (.bool b)) := by
  have h := hasPattern_spec S (some ⟨bl, 0, none⟩) sk 4 s [x, y, z, u] w b hs (in_lit4 h) hb
  exact h
theorem equalInf_yes (A B A' B' : Option Addr) (c k c' k' : Nat) (r : List Int) (rs rs' : List Row) (w : World) (h : InI w A c r B k rs) (h' : InI w A' c' r B' k' rs') (he : rs.map Row.xs = rs'.map Row.xs) :
    Calls Tryz.prog 10 #[.agg #[.slice A r.length c, .slice B rs.length k], .agg #[.slice A' r.length c', .slice B' rs'.length k']] w (Rb w (.bool true)) := by
  have := equalInf_spec A B A' B' c k c' k' r r rs rs' w h h'
  rwa [decide_eq_true he, decide_eq_true rfl] at this
theorem sep_bools {s : List Int} {b1 b2 : Bool} (hs : permB s = true) (h1 : hpG s [2, 4, 1, 3] = b1) (h2 : hpG s [3, 1, 4, 2] = b2) : sepB s = (!b1 && !b2) := by
  have e1 : permB [2, 4, 1, 3] = true := by decide
  have e2 : permB [3, 1, 4, 2] = true := by decide
  rw [sep_has hs, ← h1, ← h2]
  unfold hpG
  rw [hs, e1, e2]
  rfl
theorem sep_iq {b : Bool} (A : Option Addr) (c : Nat) (p : List Int) (w : World) (h : In w A c p) (hb : sepB p = b) :
    Calls Tryz.prog 19 #[.slice A p.length c] w (Rb w (.bool b)) := by subst hb; exact isSeparable_impl A c p w h
theorem simple_sq {b : Bool} (A : Option Addr) (c : Nat) (p : List Int) (w : World) (h : In w A c p) (hp : permB p = true) (h0 : p ≠ []) (hb : simpB p = b) :
    Calls Tryz.prog 25 #[.slice A p.length c] w (Rb w (.bool b)) := by subst hb; exact isSimple_spec A c p w h hp h0
theorem rtX_fit {p : List Int} {rs : List Row} (hX : rs.map Row.xs = rtX p) : rs.length + sizeR rs ≤ 1048576 := rtX_size hX

set_option maxHeartbeats 16000000 in
set_option maxRecDepth 100000 in
theorem walk_FnTrees (w : World) (A : Option Addr) (c : Nat) (bs : List Int) (hm : bs.length ≤ 9223372036854775807) (hr : Rd (Value.int .u8) w w.heap.size A bs) :
    Calls Tryz.prog 3 #[.slice A bs.length c] w (Rb w (.bool true)) := by
  obtain ⟨i0, hi, hz0, hz1, hz2⟩ := info_parts infoI
  rcases Nat.lt_or_ge 1048576 bs.length with hbig | hlen
  · have HC := Lib.hid (big_no A c bs w hbig hm)
    go_enter Tryz.func3, Tryz.ntmps3
    go_wp2_with fail
    (with_reducible refine HC.out.mono ?_)
    rintro e w1 ⟨rfl, rfl⟩
    go_wp2_with fail
    go_ret
    exact ⟨rfl, Below.refl _ _⟩
  have h0 : InY w A c bs := ⟨hlen, hr⟩
  have HC := Lib.hid (big_ok A c bs w hlen)
  clear hr hm
  go_enter Tryz.func3, Tryz.ntmps3
  go_wp2_with fail
  (with_reducible refine HC.out.mono ?_)
  rintro e w0 ⟨rfl, rfl⟩
  clear HC
  have HB := Below.refl w.heap.size w
  have HC := Lib.hid (drawSplitPerm A c bs w h0)
  go_wp2_with fail
  (with_reducible refine HC.out.mono ?_)
  rintro e x1 ⟨D, dk, p, rfl, hp9, own, hb⟩
  clear HC
  replace h0 := h0.next hb
  replace HB := HB.trans (hb.mono HB.size)
  have id := In.of_own own (by omega)
  clear own
  clear hb
  obtain ⟨R, hR⟩ : ∃ r, r = spR p := ⟨_, rfl⟩
  obtain ⟨ok, hok⟩ : ∃ b, b = spOk p := ⟨_, rfl⟩
  have hRl : R.length ≤ 8 := by rw [hR]; exact spR_len p
  have HSI := Lib.hid (fun w h => splitPerm_impl D dk p w h)
  have HSS := Lib.hid (fun w h => splitPerm_spec D dk p w h)
  rw [← hR, ← hok] at HSI HSS
  have HR := Lib.hid hR
  have HOK := Lib.hid hok
  clear hR hok
  have HC := Lib.hid (HSI.out x1 id)
  go_wp2_with fail
  (with_reducible refine HC.out.mono ?_)
  rintro e x2 ⟨RA, rc, PA, pc, rs, rfl, hX, hO, hb⟩
  clear HC
  replace h0 := h0.next hb
  replace id := id.next hb
  replace HB := HB.trans (hb.mono HB.size)
  have ix : InI x2 RA rc R PA pc rs := inI_of_own (hO.rows _ (List.mem_cons_self)) (hO.sub (List.sublist_cons_self _ _)) (Nat.le_refl _) hRl (spP_size hX)
  have Hx := Lib.hid hX
  clear hX hO hb
  have hbA := (Below.refl x2.heap.size x2).alloc (Nat.le_refl _) (Obj.cells #[Value.slice RA R.length rc, Value.slice PA rs.length pc] 28)
  have o4 := obj_new x2 (Obj.cells #[Value.slice RA R.length rc, Value.slice PA rs.length pc] 28)
  replace h0 := h0.next hbA
  replace id := id.next hbA
  replace ix := ix.next hbA
  replace HB := HB.trans (hbA.mono HB.size)
  clear hbA
  have HC := Lib.hid (HSS.out (x2.alloc (Obj.cells #[Value.slice RA R.length rc, Value.slice PA rs.length pc] 28)) id)
  go_wp2_with fail
  (with_reducible refine HC.out.mono ?_)
  rintro e x3 ⟨RB, rd, PB, pd, ss, rfl, hX, hO, hb⟩
  clear HC
  replace o4 := obj_below o4 hb (obj_lt o4)
  replace h0 := h0.next hb
  replace id := id.next hb
  replace ix := ix.next hb
  replace HB := HB.trans (hb.mono HB.size)
  have iw : InI x3 RB rd R PB pd ss := inI_of_own (hO.rows _ (List.mem_cons_self)) (hO.sub (List.sublist_cons_self _ _)) (Nat.le_refl _) hRl (spP_size hX)
  have Hw := Lib.hid hX
  clear hX hO hb
  have hbA := (Below.refl x3.heap.size x3).alloc (Nat.le_refl _) (Obj.cells #[Value.slice RB R.length rd, Value.slice PB ss.length pd] 28)
  replace o4 := obj_alloc o4 (Obj.cells #[Value.slice RB R.length rd, Value.slice PB ss.length pd] 28)
  have o6 := obj_new x3 (Obj.cells #[Value.slice RB R.length rd, Value.slice PB ss.length pd] 28)
  replace h0 := h0.next hbA
  replace id := id.next hbA
  replace ix := ix.next hbA
  replace iw := iw.next hbA
  replace HB := HB.trans (hbA.mono HB.size)
  clear hbA
  clear HSI HSS
  have HC := Lib.hid (drawEqualInflation A c bs (x3.alloc (Obj.cells #[Value.slice RB R.length rd, Value.slice PB ss.length pd] 28)) h0)
  go_wp2_with fail
  (with_reducible refine HC.out.mono ?_)
  rintro e x4 ⟨CA, ca, cr, CB, cb, cs, DA, da, dr, DB, db, ds, rfl, ia, ib, hb⟩
  clear HC
  replace o4 := obj_below o4 hb (obj_lt o4)
  replace o6 := obj_below o6 hb (obj_lt o6)
  replace h0 := h0.next hb
  replace id := id.next hb
  replace ix := ix.next hb
  replace iw := iw.next hb
  replace HB := HB.trans (hb.mono HB.size)
  clear hb
  have hbA := (Below.refl x4.heap.size x4).alloc (Nat.le_refl _) (Obj.cells #[Value.slice CA cr.length ca, Value.slice CB cs.length cb] 28)
  replace o4 := obj_alloc o4 (Obj.cells #[Value.slice CA cr.length ca, Value.slice CB cs.length cb] 28)
  replace o6 := obj_alloc o6 (Obj.cells #[Value.slice CA cr.length ca, Value.slice CB cs.length cb] 28)
  have o8 := obj_new x4 (Obj.cells #[Value.slice CA cr.length ca, Value.slice CB cs.length cb] 28)
  replace h0 := h0.next hbA
  replace id := id.next hbA
  replace ix := ix.next hbA
  replace iw := iw.next hbA
  replace ia := ia.next hbA
  replace ib := ib.next hbA
  replace HB := HB.trans (hbA.mono HB.size)
  clear hbA
  have hbA := (Below.refl (x4.alloc (Obj.cells #[Value.slice CA cr.length ca, Value.slice CB cs.length cb] 28)).heap.size (x4.alloc (Obj.cells #[Value.slice CA cr.length ca, Value.slice CB cs.length cb] 28))).alloc (Nat.le_refl _) (Obj.cells #[Value.slice DA dr.length da, Value.slice DB ds.length db] 28)
  replace o4 := obj_alloc o4 (Obj.cells #[Value.slice DA dr.length da, Value.slice DB ds.length db] 28)
  replace o6 := obj_alloc o6 (Obj.cells #[Value.slice DA dr.length da, Value.slice DB ds.length db] 28)
  replace o8 := obj_alloc o8 (Obj.cells #[Value.slice DA dr.length da, Value.slice DB ds.length db] 28)
  have o9 := obj_new (x4.alloc (Obj.cells #[Value.slice CA cr.length ca, Value.slice CB cs.length cb] 28)) (Obj.cells #[Value.slice DA dr.length da, Value.slice DB ds.length db] 28)
  replace h0 := h0.next hbA
  replace id := id.next hbA
  replace ix := ix.next hbA
  replace iw := iw.next hbA
  replace ia := ia.next hbA
  replace ib := ib.next hbA
  replace HB := HB.trans (hbA.mono HB.size)
  clear hbA
  rw [World.size_alloc] at o9
  have HC := Lib.hid (drawIsSeparable A c bs ((x4.alloc (Obj.cells #[Value.slice CA cr.length ca, Value.slice CB cs.length cb] 28)).alloc (Obj.cells #[Value.slice DA dr.length da, Value.slice DB ds.length db] 28)) h0)
  go_wp2_with fail
  (with_reducible refine HC.out.mono ?_)
  rintro e x5 ⟨S, sk, s, rfl, hs9, own, hb⟩
  clear HC
  replace o4 := obj_below o4 hb (obj_lt o4)
  replace o6 := obj_below o6 hb (obj_lt o6)
  replace o8 := obj_below o8 hb (obj_lt o8)
  replace o9 := obj_below o9 hb (obj_lt o9)
  replace h0 := h0.next hb
  replace id := id.next hb
  replace ix := ix.next hb
  replace iw := iw.next hb
  replace ia := ia.next hb
  replace ib := ib.next hb
  replace HB := HB.trans (hb.mono HB.size)
  have is := In.of_own own (by omega)
  clear own
  clear hb
  clear h0
  go_upto_region 8 with (fail)
  generalize hy0 : x5 = y0 at o4 o6 o8 o9 id ix iw ia ib is HB ⊢
  clear hy0
  obtain ⟨ev, hev⟩ : ∃ b, b = (decide (cr = dr) && decide (cs.map Row.xs = ds.map Row.xs)) := ⟨_, rfl⟩
  have HEI := Lib.hid (fun w h h' => equalInf_impl CA CB DA DB ca cb da db cr dr cs ds w h h')
  have HES := Lib.hid (fun w h h' => equalInf_spec CA CB DA DB ca cb da db cr dr cs ds w h h')
  rw [← hev] at HEI HES
  clear hev
  obtain ⟨tv, htv⟩ : ∃ b, b = ttV p := ⟨_, rfl⟩
  have HTI := Lib.hid (fun w h => treeText_impl D dk p w h)
  have HTS := Lib.hid (fun w h => treeText_spec D dk p w h)
  rw [← htv] at HTI HTS
  have HTV := Lib.hid htv
  clear htv
  obtain ⟨dv, hdv⟩ : ∃ b, b = tdV p := ⟨_, rfl⟩
  have HDI := Lib.hid (fun w h => treeDepth_impl D dk p w h)
  have HDS := Lib.hid (fun w h => treeDepth_spec D dk p w h)
  rw [← hdv] at HDI HDS
  clear hdv
  obtain ⟨sv, hsv⟩ : ∃ b, b = sepB s := ⟨_, rfl⟩
  have HPI := Lib.hid (fun w h => isSeparable_impl S sk s w h)
  have HPS := Lib.hid (fun w h => isSeparable_spec S sk s w h)
  rw [← hsv] at HPI HPS
  have HSV := Lib.hid hsv
  clear hsv
  have c0 : (ok != ok) = false := by simp
  have c1 : (ev != ev) = false := by simp
  have c2 : (tv.toList != tv.toList) = false := by simp
  have c3 : (dv != dv) = false := by simp
  have c4 : (sv != sv) = false := by simp
  go_cut [80] from 13 to 80 (fun s wz => s = .bool false ∧ Below y0.heap.size y0 wz)
  case first =>
    have hbd := below_dr (Below.refl y0.heap.size y0) (Dr.refl y0).drew
    have o4 := obj_below o4 hbd (obj_lt o4)
    have o6 := obj_below o6 hbd (obj_lt o6)
    have o8 := obj_below o8 hbd (obj_lt o8)
    have o9 := obj_below o9 hbd (obj_lt o9)
    have id := id.next hbd
    have ix := ix.next hbd
    have iw := iw.next hbd
    have ia := ia.next hbd
    have ib := ib.next hbd
    have is := is.next hbd
    have hS0 : y0.drew.cell? ⟨x2.heap.size, 0, none⟩ = some (Value.slice RA R.length rc) ∧ y0.drew.cell? ⟨x2.heap.size, 1, none⟩ = some (Value.slice PA rs.length pc) ∧ y0.drew.cell? ⟨x3.heap.size, 0, none⟩ = some (Value.slice RB R.length rd) ∧ y0.drew.cell? ⟨x3.heap.size, 1, none⟩ = some (Value.slice PB ss.length pd) ∧ y0.drew.cell? ⟨x4.heap.size, 0, none⟩ = some (Value.slice CA cr.length ca) ∧ y0.drew.cell? ⟨x4.heap.size, 1, none⟩ = some (Value.slice CB cs.length cb) ∧ y0.drew.cell? ⟨x4.heap.size + 1, 0, none⟩ = some (Value.slice DA dr.length da) ∧ y0.drew.cell? ⟨x4.heap.size + 1, 1, none⟩ = some (Value.slice DB ds.length db) := ⟨(obj_cell o4).trans rfl, (obj_cell o4).trans rfl, (obj_cell o6).trans rfl, (obj_cell o6).trans rfl, (obj_cell o8).trans rfl, (obj_cell o8).trans rfl, (obj_cell o9).trans rfl, (obj_cell o9).trans rfl⟩
    go_wp2_with fail
    refine wp_region_held_drew (S := (fun v => v.cell? ⟨x2.heap.size, 0, none⟩ = some (Value.slice RA R.length rc) ∧ v.cell? ⟨x2.heap.size, 1, none⟩ = some (Value.slice PA rs.length pc) ∧ v.cell? ⟨x3.heap.size, 0, none⟩ = some (Value.slice RB R.length rd) ∧ v.cell? ⟨x3.heap.size, 1, none⟩ = some (Value.slice PB ss.length pd) ∧ v.cell? ⟨x4.heap.size, 0, none⟩ = some (Value.slice CA cr.length ca) ∧ v.cell? ⟨x4.heap.size, 1, none⟩ = some (Value.slice CB cs.length cb) ∧ v.cell? ⟨x4.heap.size + 1, 0, none⟩ = some (Value.slice DA dr.length da) ∧ v.cell? ⟨x4.heap.size + 1, 1, none⟩ = some (Value.slice DB ds.length db))) (by kernel_rfl) hS0 (fun hHeld => ?_)
    refine wpAnyH_take (i := 0) (oi := _) (v := ?_) rfl (by kernel_rfl) (by kernel_rfl) (by kernel_rfl) (fun _ _ _ h => h) (Or.inl ⟨by rfl, ?_⟩) (by assumption) ?_
    rotate_left
    · intro w hSw
      try dsimp only at hSw
      go_simp
      all_goals with_reducible rfl
    try simp only [Act.put, List.setIfInBounds_toArray, List.set_cons_zero, List.set_cons_succ, List.getElem_toArray, List.getElem_cons_zero]
    refine wpAnyH_take (i := 1) (oi := _) (v := ?_) rfl (by kernel_rfl) (by kernel_rfl) (by kernel_rfl) (fun _ _ _ h => h) (Or.inl ⟨by rfl, ?_⟩) (by assumption) ?_
    rotate_left
    · intro w hSw
      try dsimp only at hSw
      go_simp
      all_goals with_reducible rfl
    try simp only [Act.put, List.setIfInBounds_toArray, List.set_cons_zero, List.set_cons_succ, List.getElem_toArray, List.getElem_cons_succ, List.getElem_cons_zero]
    refine wpAnyH_take (i := 2) (oi := _) (v := ?_) rfl (by kernel_rfl) (by kernel_rfl) (by kernel_rfl) (fun _ _ _ h => h) (Or.inl ⟨by rfl, ?_⟩) (by assumption) ?_
    rotate_left
    · intro w hSw
      try dsimp only at hSw
      go_simp
      all_goals with_reducible rfl
    try simp only [Act.put, List.setIfInBounds_toArray, List.set_cons_zero, List.set_cons_succ, List.getElem_toArray, List.getElem_cons_succ, List.getElem_cons_zero]
    refine wpAnyH_take (i := 3) (oi := _) (v := ?_) rfl (by kernel_rfl) (by kernel_rfl) (by kernel_rfl) (fun _ _ _ h => h) (Or.inl ⟨by rfl, ?_⟩) (by assumption) ?_
    rotate_left
    · intro w hSw
      try dsimp only at hSw
      go_simp
      all_goals with_reducible rfl
    try simp only [Act.put, List.setIfInBounds_toArray, List.set_cons_zero, List.set_cons_succ, List.getElem_toArray, List.getElem_cons_succ, List.getElem_cons_zero]
    refine wpAnyH_take (i := 4) (oi := _) (v := ?_) rfl (by kernel_rfl) (by kernel_rfl) (by kernel_rfl) (fun _ _ _ h => h) (Or.inl ⟨by rfl, ?_⟩) (by assumption) ?_
    rotate_left
    · intro w hSw
      try dsimp only at hSw
      go_simp
      all_goals with_reducible rfl
    try simp only [Act.put, List.setIfInBounds_toArray, List.set_cons_zero, List.set_cons_succ, List.getElem_toArray, List.getElem_cons_succ, List.getElem_cons_zero]
    refine wpAnyH_take (i := 5) (oi := _) (v := ?_) rfl (by kernel_rfl) (by kernel_rfl) (by kernel_rfl) (fun _ _ _ h => h) (Or.inl ⟨by rfl, ?_⟩) (by assumption) ?_
    rotate_left
    · intro w hSw
      try dsimp only at hSw
      go_simp
      all_goals with_reducible rfl
    try simp only [Act.put, List.setIfInBounds_toArray, List.set_cons_zero, List.set_cons_succ, List.getElem_toArray, List.getElem_cons_succ, List.getElem_cons_zero]
    refine wpAnyH_ready (rs := [6]) (by kernel_rfl) (by simp) ?_
    refine AllReadyH.cons (o := _) rfl (fun K hK => ?_) AllReadyH.nil
    go_simp
    refine Calls.mono (equalInf_yes RA PA RB PB rc pc rd pd R rs ss _ ix iw (by rw [Hx.out, Hw.out])) ?_
    rintro e v1 ⟨rfl, hb⟩
    have o4 := obj_below o4 hb (obj_lt o4)
    have o6 := obj_below o6 hb (obj_lt o6)
    have o8 := obj_below o8 hb (obj_lt o8)
    have o9 := obj_below o9 hb (obj_lt o9)
    have id := id.next hb
    have ix := ix.next hb
    have iw := iw.next hb
    have ia := ia.next hb
    have ib := ib.next hb
    have is := is.next hb
    have hbd := hbd.trans (hb.mono hbd.size)
    have hS1 : v1.cell? ⟨x2.heap.size, 0, none⟩ = some (Value.slice RA R.length rc) ∧ v1.cell? ⟨x2.heap.size, 1, none⟩ = some (Value.slice PA rs.length pc) ∧ v1.cell? ⟨x3.heap.size, 0, none⟩ = some (Value.slice RB R.length rd) ∧ v1.cell? ⟨x3.heap.size, 1, none⟩ = some (Value.slice PB ss.length pd) ∧ v1.cell? ⟨x4.heap.size, 0, none⟩ = some (Value.slice CA cr.length ca) ∧ v1.cell? ⟨x4.heap.size, 1, none⟩ = some (Value.slice CB cs.length cb) ∧ v1.cell? ⟨x4.heap.size + 1, 0, none⟩ = some (Value.slice DA dr.length da) ∧ v1.cell? ⟨x4.heap.size + 1, 1, none⟩ = some (Value.slice DB ds.length db) := ⟨(obj_cell o4).trans rfl, (obj_cell o4).trans rfl, (obj_cell o6).trans rfl, (obj_cell o6).trans rfl, (obj_cell o8).trans rfl, (obj_cell o8).trans rfl, (obj_cell o9).trans rfl, (obj_cell o9).trans rfl⟩
    clear hb
    go_wp2_with fail
    refine hK.out _ _ (hS1) (fun hHeld => ?_)
    clear hK K
    try simp only [Act.put, List.setIfInBounds_toArray, List.set_cons_zero, List.set_cons_succ, List.getElem_toArray, List.getElem_cons_succ, List.getElem_cons_zero]
    refine wpAnyH_take (i := 7) (oi := _) (v := ?_) rfl (by kernel_rfl) (by kernel_rfl) (by kernel_rfl) (fun _ _ _ h => h) (Or.inl ⟨by rfl, ?_⟩) (by assumption) ?_
    rotate_left
    · intro w hSw
      try dsimp only at hSw
      go_simp
      all_goals with_reducible rfl
    try simp only [Act.put, List.setIfInBounds_toArray, List.set_cons_zero, List.set_cons_succ, List.getElem_toArray, List.getElem_cons_succ, List.getElem_cons_zero]
    refine wpAnyH_take (i := 8) (oi := _) (v := ?_) rfl (by kernel_rfl) (by kernel_rfl) (by kernel_rfl) (fun _ _ _ h => h) (Or.inl ⟨by rfl, ?_⟩) (by assumption) ?_
    rotate_left
    · intro w hSw
      try dsimp only at hSw
      go_simp
      all_goals with_reducible rfl
    try simp only [Act.put, List.setIfInBounds_toArray, List.set_cons_zero, List.set_cons_succ, List.getElem_toArray, List.getElem_cons_succ, List.getElem_cons_zero]
    refine wpAnyH_take (i := 9) (oi := _) (v := ?_) rfl (by kernel_rfl) (by kernel_rfl) (by kernel_rfl) (fun _ _ _ h => h) (Or.inl ⟨by rfl, ?_⟩) (by assumption) ?_
    rotate_left
    · intro w hSw
      try dsimp only at hSw
      go_simp
      all_goals with_reducible rfl
    try simp only [Act.put, List.setIfInBounds_toArray, List.set_cons_zero, List.set_cons_succ, List.getElem_toArray, List.getElem_cons_succ, List.getElem_cons_zero]
    refine wpAnyH_take (i := 10) (oi := _) (v := ?_) rfl (by kernel_rfl) (by kernel_rfl) (by kernel_rfl) (fun _ _ _ h => h) (Or.inl ⟨by rfl, ?_⟩) (by assumption) ?_
    rotate_left
    · intro w hSw
      try dsimp only at hSw
      go_simp
      all_goals with_reducible rfl
    try simp only [Act.put, List.setIfInBounds_toArray, List.set_cons_zero, List.set_cons_succ, List.getElem_toArray, List.getElem_cons_succ, List.getElem_cons_zero]
    refine wpAnyH_take (i := 11) (oi := _) (v := ?_) rfl (by kernel_rfl) (by kernel_rfl) (by kernel_rfl) (fun _ _ _ h => h) (Or.inl ⟨by rfl, ?_⟩) (by assumption) ?_
    rotate_left
    · intro w hSw
      try dsimp only at hSw
      go_simp
      all_goals with_reducible rfl
    try simp only [Act.put, List.setIfInBounds_toArray, List.set_cons_zero, List.set_cons_succ, List.getElem_toArray, List.getElem_cons_succ, List.getElem_cons_zero]
    refine wpAnyH_take (i := 13) (oi := _) (v := ?_) rfl (by kernel_rfl) (by kernel_rfl) (by kernel_rfl) (fun _ _ _ h => h) (Or.inl ⟨by rfl, ?_⟩) (by assumption) ?_
    rotate_left
    · intro w hSw
      try dsimp only at hSw
      go_simp
      all_goals with_reducible rfl
    try simp only [Act.put, List.setIfInBounds_toArray, List.set_cons_zero, List.set_cons_succ, List.getElem_toArray, List.getElem_cons_succ, List.getElem_cons_zero]
    refine wpAnyH_take (i := 14) (oi := _) (v := ?_) rfl (by kernel_rfl) (by kernel_rfl) (by kernel_rfl) (fun _ _ _ h => h) (Or.inl ⟨by rfl, ?_⟩) (by assumption) ?_
    rotate_left
    · intro w hSw
      try dsimp only at hSw
      go_simp
      all_goals with_reducible rfl
    try simp only [Act.put, List.setIfInBounds_toArray, List.set_cons_zero, List.set_cons_succ, List.getElem_toArray, List.getElem_cons_succ, List.getElem_cons_zero]
    refine wpAnyH_ready (rs := [12]) (by kernel_rfl) (by simp) ?_
    refine AllReadyH.cons (o := _) rfl (fun K hK => ?_) AllReadyH.nil
    go_simp
    refine Calls.mono (HEI.out _ ia ib) ?_
    rintro e v2 ⟨rfl, hb⟩
    have o4 := obj_below o4 hb (obj_lt o4)
    have o6 := obj_below o6 hb (obj_lt o6)
    have o8 := obj_below o8 hb (obj_lt o8)
    have o9 := obj_below o9 hb (obj_lt o9)
    have id := id.next hb
    have ix := ix.next hb
    have iw := iw.next hb
    have ia := ia.next hb
    have ib := ib.next hb
    have is := is.next hb
    have hbd := hbd.trans (hb.mono hbd.size)
    have hS2 : v2.cell? ⟨x2.heap.size, 0, none⟩ = some (Value.slice RA R.length rc) ∧ v2.cell? ⟨x2.heap.size, 1, none⟩ = some (Value.slice PA rs.length pc) ∧ v2.cell? ⟨x3.heap.size, 0, none⟩ = some (Value.slice RB R.length rd) ∧ v2.cell? ⟨x3.heap.size, 1, none⟩ = some (Value.slice PB ss.length pd) ∧ v2.cell? ⟨x4.heap.size, 0, none⟩ = some (Value.slice CA cr.length ca) ∧ v2.cell? ⟨x4.heap.size, 1, none⟩ = some (Value.slice CB cs.length cb) ∧ v2.cell? ⟨x4.heap.size + 1, 0, none⟩ = some (Value.slice DA dr.length da) ∧ v2.cell? ⟨x4.heap.size + 1, 1, none⟩ = some (Value.slice DB ds.length db) := ⟨(obj_cell o4).trans rfl, (obj_cell o4).trans rfl, (obj_cell o6).trans rfl, (obj_cell o6).trans rfl, (obj_cell o8).trans rfl, (obj_cell o8).trans rfl, (obj_cell o9).trans rfl, (obj_cell o9).trans rfl⟩
    clear hb
    go_wp2_with fail
    refine hK.out _ _ (hS2) (fun hHeld => ?_)
    clear hK K
    try simp only [Act.put, List.setIfInBounds_toArray, List.set_cons_zero, List.set_cons_succ, List.getElem_toArray, List.getElem_cons_succ, List.getElem_cons_zero]
    refine wpAnyH_ready (rs := [15]) (by kernel_rfl) (by simp) ?_
    refine AllReadyH.cons (o := _) rfl (fun K hK => ?_) AllReadyH.nil
    go_simp
    refine Calls.mono (HES.out _ ia ib) ?_
    rintro e v3 ⟨rfl, hb⟩
    have o4 := obj_below o4 hb (obj_lt o4)
    have o6 := obj_below o6 hb (obj_lt o6)
    have o8 := obj_below o8 hb (obj_lt o8)
    have o9 := obj_below o9 hb (obj_lt o9)
    have id := id.next hb
    have ix := ix.next hb
    have iw := iw.next hb
    have ia := ia.next hb
    have ib := ib.next hb
    have is := is.next hb
    have hbd := hbd.trans (hb.mono hbd.size)
    have hS3 : v3.cell? ⟨x2.heap.size, 0, none⟩ = some (Value.slice RA R.length rc) ∧ v3.cell? ⟨x2.heap.size, 1, none⟩ = some (Value.slice PA rs.length pc) ∧ v3.cell? ⟨x3.heap.size, 0, none⟩ = some (Value.slice RB R.length rd) ∧ v3.cell? ⟨x3.heap.size, 1, none⟩ = some (Value.slice PB ss.length pd) ∧ v3.cell? ⟨x4.heap.size, 0, none⟩ = some (Value.slice CA cr.length ca) ∧ v3.cell? ⟨x4.heap.size, 1, none⟩ = some (Value.slice CB cs.length cb) ∧ v3.cell? ⟨x4.heap.size + 1, 0, none⟩ = some (Value.slice DA dr.length da) ∧ v3.cell? ⟨x4.heap.size + 1, 1, none⟩ = some (Value.slice DB ds.length db) := ⟨(obj_cell o4).trans rfl, (obj_cell o4).trans rfl, (obj_cell o6).trans rfl, (obj_cell o6).trans rfl, (obj_cell o8).trans rfl, (obj_cell o8).trans rfl, (obj_cell o9).trans rfl, (obj_cell o9).trans rfl⟩
    clear hb
    go_wp2_with fail
    refine hK.out _ _ (hS3) (fun hHeld => ?_)
    clear hK K
    try simp only [Act.put, List.setIfInBounds_toArray, List.set_cons_zero, List.set_cons_succ, List.getElem_toArray, List.getElem_cons_succ, List.getElem_cons_zero]
    refine wpAnyH_take (i := 16) (oi := _) (v := ?_) rfl (by kernel_rfl) (by kernel_rfl) (by kernel_rfl) (fun _ _ _ h => h) (Or.inl ⟨by rfl, ?_⟩) (by assumption) ?_
    rotate_left
    · intro w hSw
      try dsimp only at hSw
      go_simp
      all_goals with_reducible rfl
    try simp only [Act.put, List.setIfInBounds_toArray, List.set_cons_zero, List.set_cons_succ, List.getElem_toArray, List.getElem_cons_succ, List.getElem_cons_zero]
    refine wpAnyH_take (i := 17) (oi := _) (v := ?_) rfl (by kernel_rfl) (by kernel_rfl) (by kernel_rfl) (fun _ _ _ h => h) (Or.inl ⟨by rfl, ?_⟩) (by assumption) ?_
    rotate_left
    · intro w hSw
      try dsimp only at hSw
      go_simp
      all_goals with_reducible rfl
    try simp only [Act.put, List.setIfInBounds_toArray, List.set_cons_zero, List.set_cons_succ, List.getElem_toArray, List.getElem_cons_succ, List.getElem_cons_zero]
    refine wpAnyH_take (i := 18) (oi := _) (v := ?_) rfl (by kernel_rfl) (by kernel_rfl) (by kernel_rfl) (fun _ _ _ h => h) (Or.inl ⟨by rfl, ?_⟩) (by assumption) ?_
    rotate_left
    · intro w hSw
      try dsimp only at hSw
      go_simp
      all_goals with_reducible rfl
    try simp only [Act.put, List.setIfInBounds_toArray, List.set_cons_zero, List.set_cons_succ, List.getElem_toArray, List.getElem_cons_succ, List.getElem_cons_zero]
    refine wpAnyH_take (i := 19) (oi := _) (v := ?_) rfl (by kernel_rfl) (by kernel_rfl) (by kernel_rfl) (fun _ _ _ h => h) (Or.inl ⟨by rfl, ?_⟩) (by assumption) ?_
    rotate_left
    · intro w hSw
      try dsimp only at hSw
      go_simp
      all_goals with_reducible rfl
    try simp only [Act.put, List.setIfInBounds_toArray, List.set_cons_zero, List.set_cons_succ, List.getElem_toArray, List.getElem_cons_succ, List.getElem_cons_zero]
    refine wpAnyH_take (i := 21) (oi := _) (v := ?_) rfl (by kernel_rfl) (by kernel_rfl) (by kernel_rfl) (fun _ _ _ h => h) (Or.inl ⟨by rfl, ?_⟩) (by assumption) ?_
    rotate_left
    · intro w hSw
      try dsimp only at hSw
      go_simp
      all_goals with_reducible rfl
    try simp only [Act.put, List.setIfInBounds_toArray, List.set_cons_zero, List.set_cons_succ, List.getElem_toArray, List.getElem_cons_succ, List.getElem_cons_zero]
    refine wpAnyH_ready (rs := [20]) (by kernel_rfl) (by simp) ?_
    refine AllReadyH.cons (o := _) rfl (fun K hK => ?_) AllReadyH.nil
    go_simp
    refine Calls.mono (HTI.out _ id) ?_
    rintro e v4 ⟨rfl, hb⟩
    have o4 := obj_below o4 hb (obj_lt o4)
    have o6 := obj_below o6 hb (obj_lt o6)
    have o8 := obj_below o8 hb (obj_lt o8)
    have o9 := obj_below o9 hb (obj_lt o9)
    have id := id.next hb
    have ix := ix.next hb
    have iw := iw.next hb
    have ia := ia.next hb
    have ib := ib.next hb
    have is := is.next hb
    have hbd := hbd.trans (hb.mono hbd.size)
    have hS4 : v4.cell? ⟨x2.heap.size, 0, none⟩ = some (Value.slice RA R.length rc) ∧ v4.cell? ⟨x2.heap.size, 1, none⟩ = some (Value.slice PA rs.length pc) ∧ v4.cell? ⟨x3.heap.size, 0, none⟩ = some (Value.slice RB R.length rd) ∧ v4.cell? ⟨x3.heap.size, 1, none⟩ = some (Value.slice PB ss.length pd) ∧ v4.cell? ⟨x4.heap.size, 0, none⟩ = some (Value.slice CA cr.length ca) ∧ v4.cell? ⟨x4.heap.size, 1, none⟩ = some (Value.slice CB cs.length cb) ∧ v4.cell? ⟨x4.heap.size + 1, 0, none⟩ = some (Value.slice DA dr.length da) ∧ v4.cell? ⟨x4.heap.size + 1, 1, none⟩ = some (Value.slice DB ds.length db) := ⟨(obj_cell o4).trans rfl, (obj_cell o4).trans rfl, (obj_cell o6).trans rfl, (obj_cell o6).trans rfl, (obj_cell o8).trans rfl, (obj_cell o8).trans rfl, (obj_cell o9).trans rfl, (obj_cell o9).trans rfl⟩
    clear hb
    go_wp2_with fail
    refine hK.out _ _ (hS4) (fun hHeld => ?_)
    clear hK K
    try simp only [Act.put, List.setIfInBounds_toArray, List.set_cons_zero, List.set_cons_succ, List.getElem_toArray, List.getElem_cons_succ, List.getElem_cons_zero]
    refine wpAnyH_ready (rs := [22]) (by kernel_rfl) (by simp) ?_
    refine AllReadyH.cons (o := _) rfl (fun K hK => ?_) AllReadyH.nil
    go_simp
    refine Calls.mono (HTS.out _ id) ?_
    rintro e v5 ⟨rfl, hb⟩
    have o4 := obj_below o4 hb (obj_lt o4)
    have o6 := obj_below o6 hb (obj_lt o6)
    have o8 := obj_below o8 hb (obj_lt o8)
    have o9 := obj_below o9 hb (obj_lt o9)
    have id := id.next hb
    have ix := ix.next hb
    have iw := iw.next hb
    have ia := ia.next hb
    have ib := ib.next hb
    have is := is.next hb
    have hbd := hbd.trans (hb.mono hbd.size)
    have hS5 : v5.cell? ⟨x2.heap.size, 0, none⟩ = some (Value.slice RA R.length rc) ∧ v5.cell? ⟨x2.heap.size, 1, none⟩ = some (Value.slice PA rs.length pc) ∧ v5.cell? ⟨x3.heap.size, 0, none⟩ = some (Value.slice RB R.length rd) ∧ v5.cell? ⟨x3.heap.size, 1, none⟩ = some (Value.slice PB ss.length pd) ∧ v5.cell? ⟨x4.heap.size, 0, none⟩ = some (Value.slice CA cr.length ca) ∧ v5.cell? ⟨x4.heap.size, 1, none⟩ = some (Value.slice CB cs.length cb) ∧ v5.cell? ⟨x4.heap.size + 1, 0, none⟩ = some (Value.slice DA dr.length da) ∧ v5.cell? ⟨x4.heap.size + 1, 1, none⟩ = some (Value.slice DB ds.length db) := ⟨(obj_cell o4).trans rfl, (obj_cell o4).trans rfl, (obj_cell o6).trans rfl, (obj_cell o6).trans rfl, (obj_cell o8).trans rfl, (obj_cell o8).trans rfl, (obj_cell o9).trans rfl, (obj_cell o9).trans rfl⟩
    clear hb
    go_wp2_with fail
    refine hK.out _ _ (hS5) (fun hHeld => ?_)
    clear hK K
    try simp only [Act.put, List.setIfInBounds_toArray, List.set_cons_zero, List.set_cons_succ, List.getElem_toArray, List.getElem_cons_succ, List.getElem_cons_zero]
    refine wpAnyH_take (i := 23) (oi := _) (v := ?_) rfl (by kernel_rfl) (by kernel_rfl) (by kernel_rfl) (fun _ _ _ h => h) (Or.inl ⟨by rfl, ?_⟩) (by assumption) ?_
    rotate_left
    · intro w hSw
      try dsimp only at hSw
      go_simp
      all_goals with_reducible rfl
    try simp only [Act.put, List.setIfInBounds_toArray, List.set_cons_zero, List.set_cons_succ, List.getElem_toArray, List.getElem_cons_succ, List.getElem_cons_zero]
    refine wpAnyH_take (i := 24) (oi := _) (v := ?_) rfl (by kernel_rfl) (by kernel_rfl) (by kernel_rfl) (fun _ _ _ h => h) (Or.inl ⟨by rfl, ?_⟩) (by assumption) ?_
    rotate_left
    · intro w hSw
      try dsimp only at hSw
      go_simp
      all_goals with_reducible rfl
    try simp only [Act.put, List.setIfInBounds_toArray, List.set_cons_zero, List.set_cons_succ, List.getElem_toArray, List.getElem_cons_succ, List.getElem_cons_zero]
    refine wpAnyH_take (i := 25) (oi := _) (v := ?_) rfl (by kernel_rfl) (by kernel_rfl) (by kernel_rfl) (fun _ _ _ h => h) (Or.inl ⟨by rfl, ?_⟩) (by assumption) ?_
    rotate_left
    · intro w hSw
      try dsimp only at hSw
      go_simp
      all_goals with_reducible rfl
    try simp only [Act.put, List.setIfInBounds_toArray, List.set_cons_zero, List.set_cons_succ, List.getElem_toArray, List.getElem_cons_succ, List.getElem_cons_zero]
    refine wpAnyH_take (i := 26) (oi := _) (v := ?_) rfl (by kernel_rfl) (by kernel_rfl) (by kernel_rfl) (fun _ _ _ h => h) (Or.inl ⟨by rfl, ?_⟩) (by assumption) ?_
    rotate_left
    · intro w hSw
      try dsimp only at hSw
      go_simp
      all_goals with_reducible rfl
    try simp only [Act.put, List.setIfInBounds_toArray, List.set_cons_zero, List.set_cons_succ, List.getElem_toArray, List.getElem_cons_succ, List.getElem_cons_zero]
    refine wpAnyH_take (i := 28) (oi := _) (v := ?_) rfl (by kernel_rfl) (by kernel_rfl) (by kernel_rfl) (fun _ _ _ h => h) (Or.inl ⟨by rfl, ?_⟩) (by assumption) ?_
    rotate_left
    · intro w hSw
      try dsimp only at hSw
      go_simp
      all_goals with_reducible rfl
    try simp only [Act.put, List.setIfInBounds_toArray, List.set_cons_zero, List.set_cons_succ, List.getElem_toArray, List.getElem_cons_succ, List.getElem_cons_zero]
    refine wpAnyH_ready (rs := [27]) (by kernel_rfl) (by simp) ?_
    refine AllReadyH.cons (o := _) rfl (fun K hK => ?_) AllReadyH.nil
    go_simp
    refine Calls.mono (HDI.out _ id) ?_
    rintro e v6 ⟨rfl, hb⟩
    have o4 := obj_below o4 hb (obj_lt o4)
    have o6 := obj_below o6 hb (obj_lt o6)
    have o8 := obj_below o8 hb (obj_lt o8)
    have o9 := obj_below o9 hb (obj_lt o9)
    have id := id.next hb
    have ix := ix.next hb
    have iw := iw.next hb
    have ia := ia.next hb
    have ib := ib.next hb
    have is := is.next hb
    have hbd := hbd.trans (hb.mono hbd.size)
    have hS6 : v6.cell? ⟨x2.heap.size, 0, none⟩ = some (Value.slice RA R.length rc) ∧ v6.cell? ⟨x2.heap.size, 1, none⟩ = some (Value.slice PA rs.length pc) ∧ v6.cell? ⟨x3.heap.size, 0, none⟩ = some (Value.slice RB R.length rd) ∧ v6.cell? ⟨x3.heap.size, 1, none⟩ = some (Value.slice PB ss.length pd) ∧ v6.cell? ⟨x4.heap.size, 0, none⟩ = some (Value.slice CA cr.length ca) ∧ v6.cell? ⟨x4.heap.size, 1, none⟩ = some (Value.slice CB cs.length cb) ∧ v6.cell? ⟨x4.heap.size + 1, 0, none⟩ = some (Value.slice DA dr.length da) ∧ v6.cell? ⟨x4.heap.size + 1, 1, none⟩ = some (Value.slice DB ds.length db) := ⟨(obj_cell o4).trans rfl, (obj_cell o4).trans rfl, (obj_cell o6).trans rfl, (obj_cell o6).trans rfl, (obj_cell o8).trans rfl, (obj_cell o8).trans rfl, (obj_cell o9).trans rfl, (obj_cell o9).trans rfl⟩
    clear hb
    go_wp2_with fail
    refine hK.out _ _ (hS6) (fun hHeld => ?_)
    clear hK K
    try simp only [Act.put, List.setIfInBounds_toArray, List.set_cons_zero, List.set_cons_succ, List.getElem_toArray, List.getElem_cons_succ, List.getElem_cons_zero]
    refine wpAnyH_ready (rs := [29]) (by kernel_rfl) (by simp) ?_
    refine AllReadyH.cons (o := _) rfl (fun K hK => ?_) AllReadyH.nil
    go_simp
    refine Calls.mono (HDS.out _ id) ?_
    rintro e v7 ⟨rfl, hb⟩
    have o4 := obj_below o4 hb (obj_lt o4)
    have o6 := obj_below o6 hb (obj_lt o6)
    have o8 := obj_below o8 hb (obj_lt o8)
    have o9 := obj_below o9 hb (obj_lt o9)
    have id := id.next hb
    have ix := ix.next hb
    have iw := iw.next hb
    have ia := ia.next hb
    have ib := ib.next hb
    have is := is.next hb
    have hbd := hbd.trans (hb.mono hbd.size)
    have hS7 : v7.cell? ⟨x2.heap.size, 0, none⟩ = some (Value.slice RA R.length rc) ∧ v7.cell? ⟨x2.heap.size, 1, none⟩ = some (Value.slice PA rs.length pc) ∧ v7.cell? ⟨x3.heap.size, 0, none⟩ = some (Value.slice RB R.length rd) ∧ v7.cell? ⟨x3.heap.size, 1, none⟩ = some (Value.slice PB ss.length pd) ∧ v7.cell? ⟨x4.heap.size, 0, none⟩ = some (Value.slice CA cr.length ca) ∧ v7.cell? ⟨x4.heap.size, 1, none⟩ = some (Value.slice CB cs.length cb) ∧ v7.cell? ⟨x4.heap.size + 1, 0, none⟩ = some (Value.slice DA dr.length da) ∧ v7.cell? ⟨x4.heap.size + 1, 1, none⟩ = some (Value.slice DB ds.length db) := ⟨(obj_cell o4).trans rfl, (obj_cell o4).trans rfl, (obj_cell o6).trans rfl, (obj_cell o6).trans rfl, (obj_cell o8).trans rfl, (obj_cell o8).trans rfl, (obj_cell o9).trans rfl, (obj_cell o9).trans rfl⟩
    clear hb
    go_wp2_with fail
    refine hK.out _ _ (hS7) (fun hHeld => ?_)
    clear hK K
    try simp only [Act.put, List.setIfInBounds_toArray, List.set_cons_zero, List.set_cons_succ, List.getElem_toArray, List.getElem_cons_succ, List.getElem_cons_zero]
    refine wpAnyH_take (i := 30) (oi := _) (v := ?_) rfl (by kernel_rfl) (by kernel_rfl) (by kernel_rfl) (fun _ _ _ h => h) (Or.inl ⟨by rfl, ?_⟩) (by assumption) ?_
    rotate_left
    · intro w hSw
      try dsimp only at hSw
      go_simp
      all_goals with_reducible rfl
    try simp only [Act.put, List.setIfInBounds_toArray, List.set_cons_zero, List.set_cons_succ, List.getElem_toArray, List.getElem_cons_succ, List.getElem_cons_zero]
    refine wpAnyH_take (i := 31) (oi := _) (v := ?_) rfl (by kernel_rfl) (by kernel_rfl) (by kernel_rfl) (fun _ _ _ h => h) (Or.inl ⟨by rfl, ?_⟩) (by assumption) ?_
    rotate_left
    · intro w hSw
      try dsimp only at hSw
      go_simp
      all_goals with_reducible rfl
    try simp only [Act.put, List.setIfInBounds_toArray, List.set_cons_zero, List.set_cons_succ, List.getElem_toArray, List.getElem_cons_succ, List.getElem_cons_zero]
    refine wpAnyH_take (i := 32) (oi := _) (v := ?_) rfl (by kernel_rfl) (by kernel_rfl) (by kernel_rfl) (fun _ _ _ h => h) (Or.inl ⟨by rfl, ?_⟩) (by assumption) ?_
    rotate_left
    · intro w hSw
      try dsimp only at hSw
      go_simp
      all_goals with_reducible rfl
    try simp only [Act.put, List.setIfInBounds_toArray, List.set_cons_zero, List.set_cons_succ, List.getElem_toArray, List.getElem_cons_succ, List.getElem_cons_zero]
    refine wpAnyH_take (i := 33) (oi := _) (v := ?_) rfl (by kernel_rfl) (by kernel_rfl) (by kernel_rfl) (fun _ _ _ h => h) (Or.inl ⟨by rfl, ?_⟩) (by assumption) ?_
    rotate_left
    · intro w hSw
      try dsimp only at hSw
      go_simp
      all_goals with_reducible rfl
    try simp only [Act.put, List.setIfInBounds_toArray, List.set_cons_zero, List.set_cons_succ, List.getElem_toArray, List.getElem_cons_succ, List.getElem_cons_zero]
    refine wpAnyH_take (i := 35) (oi := _) (v := ?_) rfl (by kernel_rfl) (by kernel_rfl) (by kernel_rfl) (fun _ _ _ h => h) (Or.inl ⟨by rfl, ?_⟩) (by assumption) ?_
    rotate_left
    · intro w hSw
      try dsimp only at hSw
      go_simp
      all_goals with_reducible rfl
    try simp only [Act.put, List.setIfInBounds_toArray, List.set_cons_zero, List.set_cons_succ, List.getElem_toArray, List.getElem_cons_succ, List.getElem_cons_zero]
    refine wpAnyH_ready (rs := [34]) (by kernel_rfl) (by simp) ?_
    refine AllReadyH.cons (o := _) rfl (fun K hK => ?_) AllReadyH.nil
    go_simp
    refine Calls.mono (rootsIn_impl D dk p _ id) ?_
    rintro e v8 ⟨U, uk, us, rfl, hXu, hOu, hb⟩
    have o4 := obj_below o4 hb (obj_lt o4)
    have o6 := obj_below o6 hb (obj_lt o6)
    have o8 := obj_below o8 hb (obj_lt o8)
    have o9 := obj_below o9 hb (obj_lt o9)
    have id := id.next hb
    have ix := ix.next hb
    have iw := iw.next hb
    have ia := ia.next hb
    have ib := ib.next hb
    have is := is.next hb
    have hbd := hbd.trans (hb.mono hbd.size)
    have iu := hOu.read.toL (rtX_fit hXu) (Nat.le_refl _)
    have Hu := Lib.hid hXu
    clear hXu hOu
    have hS8 : v8.cell? ⟨x2.heap.size, 0, none⟩ = some (Value.slice RA R.length rc) ∧ v8.cell? ⟨x2.heap.size, 1, none⟩ = some (Value.slice PA rs.length pc) ∧ v8.cell? ⟨x3.heap.size, 0, none⟩ = some (Value.slice RB R.length rd) ∧ v8.cell? ⟨x3.heap.size, 1, none⟩ = some (Value.slice PB ss.length pd) ∧ v8.cell? ⟨x4.heap.size, 0, none⟩ = some (Value.slice CA cr.length ca) ∧ v8.cell? ⟨x4.heap.size, 1, none⟩ = some (Value.slice CB cs.length cb) ∧ v8.cell? ⟨x4.heap.size + 1, 0, none⟩ = some (Value.slice DA dr.length da) ∧ v8.cell? ⟨x4.heap.size + 1, 1, none⟩ = some (Value.slice DB ds.length db) := ⟨(obj_cell o4).trans rfl, (obj_cell o4).trans rfl, (obj_cell o6).trans rfl, (obj_cell o6).trans rfl, (obj_cell o8).trans rfl, (obj_cell o8).trans rfl, (obj_cell o9).trans rfl, (obj_cell o9).trans rfl⟩
    clear hb
    go_wp2_with fail
    refine hK.out _ _ (hS8) (fun hHeld => ?_)
    clear hK K
    try simp only [Act.put, List.setIfInBounds_toArray, List.set_cons_zero, List.set_cons_succ, List.getElem_toArray, List.getElem_cons_succ, List.getElem_cons_zero]
    refine wpAnyH_ready (rs := [36]) (by kernel_rfl) (by simp) ?_
    refine AllReadyH.cons (o := _) rfl (fun K hK => ?_) AllReadyH.nil
    go_simp
    refine Calls.mono (rootsIn_spec D dk p _ id) ?_
    rintro e v9 ⟨V, vk, vs, rfl, hXv, hOv, hb⟩
    have o4 := obj_below o4 hb (obj_lt o4)
    have o6 := obj_below o6 hb (obj_lt o6)
    have o8 := obj_below o8 hb (obj_lt o8)
    have o9 := obj_below o9 hb (obj_lt o9)
    have id := id.next hb
    have ix := ix.next hb
    have iw := iw.next hb
    have ia := ia.next hb
    have ib := ib.next hb
    have is := is.next hb
    have iu := iu.next hb
    have hbd := hbd.trans (hb.mono hbd.size)
    have iv := hOv.read.toL (rtX_fit hXv) (Nat.le_refl _)
    have Hv := Lib.hid hXv
    clear hXv hOv
    have hS9 : v9.cell? ⟨x2.heap.size, 0, none⟩ = some (Value.slice RA R.length rc) ∧ v9.cell? ⟨x2.heap.size, 1, none⟩ = some (Value.slice PA rs.length pc) ∧ v9.cell? ⟨x3.heap.size, 0, none⟩ = some (Value.slice RB R.length rd) ∧ v9.cell? ⟨x3.heap.size, 1, none⟩ = some (Value.slice PB ss.length pd) ∧ v9.cell? ⟨x4.heap.size, 0, none⟩ = some (Value.slice CA cr.length ca) ∧ v9.cell? ⟨x4.heap.size, 1, none⟩ = some (Value.slice CB cs.length cb) ∧ v9.cell? ⟨x4.heap.size + 1, 0, none⟩ = some (Value.slice DA dr.length da) ∧ v9.cell? ⟨x4.heap.size + 1, 1, none⟩ = some (Value.slice DB ds.length db) := ⟨(obj_cell o4).trans rfl, (obj_cell o4).trans rfl, (obj_cell o6).trans rfl, (obj_cell o6).trans rfl, (obj_cell o8).trans rfl, (obj_cell o8).trans rfl, (obj_cell o9).trans rfl, (obj_cell o9).trans rfl⟩
    clear hb
    go_wp2_with fail
    refine hK.out _ _ (hS9) (fun hHeld => ?_)
    clear hK K
    try simp only [Act.put, List.setIfInBounds_toArray, List.set_cons_zero, List.set_cons_succ, List.getElem_toArray, List.getElem_cons_succ, List.getElem_cons_zero]
    refine wpAnyH_ready (rs := [37]) (by kernel_rfl) (by simp) ?_
    refine AllReadyH.cons (o := _) rfl (fun K hK => ?_) AllReadyH.nil
    go_simp
    refine Calls.mono (sameLists_eq U V uk vk us vs _ iu iv (by rw [Hu.out, Hv.out])) ?_
    rintro e v10 ⟨rfl, hb⟩
    have o4 := obj_below o4 hb (obj_lt o4)
    have o6 := obj_below o6 hb (obj_lt o6)
    have o8 := obj_below o8 hb (obj_lt o8)
    have o9 := obj_below o9 hb (obj_lt o9)
    have id := id.next hb
    have ix := ix.next hb
    have iw := iw.next hb
    have ia := ia.next hb
    have ib := ib.next hb
    have is := is.next hb
    have iu := iu.next hb
    have iv := iv.next hb
    have hbd := hbd.trans (hb.mono hbd.size)
    have hS10 : v10.cell? ⟨x2.heap.size, 0, none⟩ = some (Value.slice RA R.length rc) ∧ v10.cell? ⟨x2.heap.size, 1, none⟩ = some (Value.slice PA rs.length pc) ∧ v10.cell? ⟨x3.heap.size, 0, none⟩ = some (Value.slice RB R.length rd) ∧ v10.cell? ⟨x3.heap.size, 1, none⟩ = some (Value.slice PB ss.length pd) ∧ v10.cell? ⟨x4.heap.size, 0, none⟩ = some (Value.slice CA cr.length ca) ∧ v10.cell? ⟨x4.heap.size, 1, none⟩ = some (Value.slice CB cs.length cb) ∧ v10.cell? ⟨x4.heap.size + 1, 0, none⟩ = some (Value.slice DA dr.length da) ∧ v10.cell? ⟨x4.heap.size + 1, 1, none⟩ = some (Value.slice DB ds.length db) := ⟨(obj_cell o4).trans rfl, (obj_cell o4).trans rfl, (obj_cell o6).trans rfl, (obj_cell o6).trans rfl, (obj_cell o8).trans rfl, (obj_cell o8).trans rfl, (obj_cell o9).trans rfl, (obj_cell o9).trans rfl⟩
    clear hb
    go_wp2_with fail
    refine hK.out _ _ (hS10) (fun hHeld => ?_)
    clear hK K
    try simp only [Act.put, List.setIfInBounds_toArray, List.set_cons_zero, List.set_cons_succ, List.getElem_toArray, List.getElem_cons_succ, List.getElem_cons_zero]
    refine wpAnyH_take (i := 38) (oi := _) (v := ?_) rfl (by kernel_rfl) (by kernel_rfl) (by kernel_rfl) (fun _ _ _ h => h) (Or.inl ⟨by rfl, ?_⟩) (by assumption) ?_
    rotate_left
    · intro w hSw
      try dsimp only at hSw
      go_simp
      all_goals with_reducible rfl
    try simp only [Act.put, List.setIfInBounds_toArray, List.set_cons_zero, List.set_cons_succ, List.getElem_toArray, List.getElem_cons_succ, List.getElem_cons_zero]
    refine wpAnyH_take (i := 39) (oi := _) (v := ?_) rfl (by kernel_rfl) (by kernel_rfl) (by kernel_rfl) (fun _ _ _ h => h) (Or.inl ⟨by rfl, ?_⟩) (by assumption) ?_
    rotate_left
    · intro w hSw
      try dsimp only at hSw
      go_simp
      all_goals with_reducible rfl
    try simp only [Act.put, List.setIfInBounds_toArray, List.set_cons_zero, List.set_cons_succ, List.getElem_toArray, List.getElem_cons_succ, List.getElem_cons_zero]
    refine wpAnyH_take (i := 40) (oi := _) (v := ?_) rfl (by kernel_rfl) (by kernel_rfl) (by kernel_rfl) (fun _ _ _ h => h) (Or.inl ⟨by rfl, ?_⟩) (by assumption) ?_
    rotate_left
    · intro w hSw
      try dsimp only at hSw
      go_simp
      all_goals with_reducible rfl
    try simp only [Act.put, List.setIfInBounds_toArray, List.set_cons_zero, List.set_cons_succ, List.getElem_toArray, List.getElem_cons_succ, List.getElem_cons_zero]
    refine wpAnyH_take (i := 41) (oi := _) (v := ?_) rfl (by kernel_rfl) (by kernel_rfl) (by kernel_rfl) (fun _ _ _ h => h) (Or.inl ⟨by rfl, ?_⟩) (by assumption) ?_
    rotate_left
    · intro w hSw
      try dsimp only at hSw
      go_simp
      all_goals with_reducible rfl
    try simp only [Act.put, List.setIfInBounds_toArray, List.set_cons_zero, List.set_cons_succ, List.getElem_toArray, List.getElem_cons_succ, List.getElem_cons_zero]
    refine wpAnyH_take (i := 43) (oi := _) (v := ?_) rfl (by kernel_rfl) (by kernel_rfl) (by kernel_rfl) (fun _ _ _ h => h) (Or.inl ⟨by rfl, ?_⟩) (by assumption) ?_
    rotate_left
    · intro w hSw
      try dsimp only at hSw
      go_simp
      all_goals with_reducible rfl
    try simp only [Act.put, List.setIfInBounds_toArray, List.set_cons_zero, List.set_cons_succ, List.getElem_toArray, List.getElem_cons_succ, List.getElem_cons_zero]
    refine wpAnyH_ready (rs := [42]) (by kernel_rfl) (by simp) ?_
    refine AllReadyH.cons (o := _) rfl (fun K hK => ?_) AllReadyH.nil
    go_simp
    refine Calls.mono (HPI.out _ is) ?_
    rintro e v11 ⟨rfl, hb⟩
    have o4 := obj_below o4 hb (obj_lt o4)
    have o6 := obj_below o6 hb (obj_lt o6)
    have o8 := obj_below o8 hb (obj_lt o8)
    have o9 := obj_below o9 hb (obj_lt o9)
    have id := id.next hb
    have ix := ix.next hb
    have iw := iw.next hb
    have ia := ia.next hb
    have ib := ib.next hb
    have is := is.next hb
    have iu := iu.next hb
    have iv := iv.next hb
    have hbd := hbd.trans (hb.mono hbd.size)
    have hS11 : v11.cell? ⟨x2.heap.size, 0, none⟩ = some (Value.slice RA R.length rc) ∧ v11.cell? ⟨x2.heap.size, 1, none⟩ = some (Value.slice PA rs.length pc) ∧ v11.cell? ⟨x3.heap.size, 0, none⟩ = some (Value.slice RB R.length rd) ∧ v11.cell? ⟨x3.heap.size, 1, none⟩ = some (Value.slice PB ss.length pd) ∧ v11.cell? ⟨x4.heap.size, 0, none⟩ = some (Value.slice CA cr.length ca) ∧ v11.cell? ⟨x4.heap.size, 1, none⟩ = some (Value.slice CB cs.length cb) ∧ v11.cell? ⟨x4.heap.size + 1, 0, none⟩ = some (Value.slice DA dr.length da) ∧ v11.cell? ⟨x4.heap.size + 1, 1, none⟩ = some (Value.slice DB ds.length db) := ⟨(obj_cell o4).trans rfl, (obj_cell o4).trans rfl, (obj_cell o6).trans rfl, (obj_cell o6).trans rfl, (obj_cell o8).trans rfl, (obj_cell o8).trans rfl, (obj_cell o9).trans rfl, (obj_cell o9).trans rfl⟩
    clear hb
    go_wp2_with fail
    refine hK.out _ _ (hS11) (fun hHeld => ?_)
    clear hK K
    try simp only [Act.put, List.setIfInBounds_toArray, List.set_cons_zero, List.set_cons_succ, List.getElem_toArray, List.getElem_cons_succ, List.getElem_cons_zero]
    refine wpAnyH_ready (rs := [44]) (by kernel_rfl) (by simp) ?_
    refine AllReadyH.cons (o := _) rfl (fun K hK => ?_) AllReadyH.nil
    go_simp
    refine Calls.mono (HPS.out _ is) ?_
    rintro e v12 ⟨rfl, hb⟩
    have o4 := obj_below o4 hb (obj_lt o4)
    have o6 := obj_below o6 hb (obj_lt o6)
    have o8 := obj_below o8 hb (obj_lt o8)
    have o9 := obj_below o9 hb (obj_lt o9)
    have id := id.next hb
    have ix := ix.next hb
    have iw := iw.next hb
    have ia := ia.next hb
    have ib := ib.next hb
    have is := is.next hb
    have iu := iu.next hb
    have iv := iv.next hb
    have hbd := hbd.trans (hb.mono hbd.size)
    have hS12 : v12.cell? ⟨x2.heap.size, 0, none⟩ = some (Value.slice RA R.length rc) ∧ v12.cell? ⟨x2.heap.size, 1, none⟩ = some (Value.slice PA rs.length pc) ∧ v12.cell? ⟨x3.heap.size, 0, none⟩ = some (Value.slice RB R.length rd) ∧ v12.cell? ⟨x3.heap.size, 1, none⟩ = some (Value.slice PB ss.length pd) ∧ v12.cell? ⟨x4.heap.size, 0, none⟩ = some (Value.slice CA cr.length ca) ∧ v12.cell? ⟨x4.heap.size, 1, none⟩ = some (Value.slice CB cs.length cb) ∧ v12.cell? ⟨x4.heap.size + 1, 0, none⟩ = some (Value.slice DA dr.length da) ∧ v12.cell? ⟨x4.heap.size + 1, 1, none⟩ = some (Value.slice DB ds.length db) := ⟨(obj_cell o4).trans rfl, (obj_cell o4).trans rfl, (obj_cell o6).trans rfl, (obj_cell o6).trans rfl, (obj_cell o8).trans rfl, (obj_cell o8).trans rfl, (obj_cell o9).trans rfl, (obj_cell o9).trans rfl⟩
    clear hb
    go_wp2_with fail
    refine hK.out _ _ (hS12) (fun hHeld => ?_)
    clear hK K
    try simp only [Act.put, List.setIfInBounds_toArray, List.set_cons_zero, List.set_cons_succ, List.getElem_toArray, List.getElem_cons_succ, List.getElem_cons_zero]
    refine wpAnyH_take (i := 45) (oi := _) (v := ?_) rfl (by kernel_rfl) (by kernel_rfl) (by kernel_rfl) (fun _ _ _ h => h) (Or.inl ⟨by rfl, ?_⟩) (by assumption) ?_
    rotate_left
    · intro w hSw
      try dsimp only at hSw
      go_simp
      all_goals with_reducible rfl
    try simp only [Act.put, List.setIfInBounds_toArray, List.set_cons_zero, List.set_cons_succ, List.getElem_toArray, List.getElem_cons_succ, List.getElem_cons_zero]
    refine wpAnyH_take (i := 46) (oi := _) (v := ?_) rfl (by kernel_rfl) (by kernel_rfl) (by kernel_rfl) (fun _ _ _ h => h) (Or.inl ⟨by rfl, ?_⟩) (by assumption) ?_
    rotate_left
    · intro w hSw
      try dsimp only at hSw
      go_simp
      all_goals with_reducible rfl
    try simp only [Act.put, List.setIfInBounds_toArray, List.set_cons_zero, List.set_cons_succ, List.getElem_toArray, List.getElem_cons_succ, List.getElem_cons_zero]
    refine wpAnyH_done (by kernel_rfl) ?_ _
    go_wp2_with fail
    go_meet
    case rel => exact ⟨rfl, hbd⟩
  obtain ⟨rfl, hbz⟩ := hcut
  obtain ⟨y1, rfl⟩ : ∃ w', w' = wc := ⟨_, rfl⟩
  replace o4 := obj_below o4 hbz (obj_lt o4)
  replace o6 := obj_below o6 hbz (obj_lt o6)
  replace o8 := obj_below o8 hbz (obj_lt o8)
  replace o9 := obj_below o9 hbz (obj_lt o9)
  replace id := id.next hbz
  replace ix := ix.next hbz
  replace iw := iw.next hbz
  replace ia := ia.next hbz
  replace ib := ib.next hbz
  replace is := is.next hbz
  replace HB := HB.trans (hbz.mono HB.size)
  clear hbz
  clear HEI HES HTS HDI HDS HPS c0 c1 c2 c3 c4 HPI
  clear o6
  clear o8
  clear o9
  clear ia ib iw
  go_upto_region 10 with (fail)
  go_cut [97] from 81 to 97 (fun s wz => s = .bool false ∧ Below y1.heap.size y1 wz)
  case first =>
    rcases hps : permB s with _ | _
    · have HC := Lib.hid (isPerm_sb S sk s y1 false is hps)
      clear hps
      go_wp2_with fail
      (with_reducible refine HC.out.mono ?_)
      rintro e z1 ⟨rfl, hd⟩
      have hb := below_dr (Below.refl y1.heap.size y1) hd
      go_wp2_with fail
      go_meet
      case rel => exact ⟨rfl, hb⟩
    · have HC := Lib.hid (isPerm_sb S sk s y1 true is hps)
      obtain ⟨b1, hb1⟩ : ∃ b, hpG s [2, 4, 1, 3] = b := ⟨_, rfl⟩
      obtain ⟨b2, hb2⟩ : ∃ b, hpG s [3, 1, 4, 2] = b := ⟨_, rfl⟩
      have HSB := Lib.hid (sep_bools hps hb1 hb2)
      have HP1 := Lib.hid hb1
      have HP2 := Lib.hid hb2
      clear hps hb1 hb2
      go_wp2_with fail
      (with_reducible refine HC.out.mono ?_)
      rintro e z1 ⟨rfl, hd⟩
      have hbl := below_dr (Below.refl y1.heap.size y1) hd
      replace is := is.next hbl
      have HD := Lib.hid (sep_iq S sk s z1 is HSB.out)
      clear hd HC
      go_wp2_with fail
      (with_reducible refine HD.out.mono ?_)
      rintro e z2 ⟨rfl, hb⟩
      replace is := is.next hb
      replace hbl := hbl.trans (hb.mono hbl.size)
      clear hb HD
      have hba := (Below.refl z2.heap.size z2).alloc (Nat.le_refl _) (Obj.cells #[Value.int .i64 2, Value.int .i64 4, Value.int .i64 1, Value.int .i64 3] 3)
      replace is := is.next hba
      replace hbl := hbl.trans (hba.mono hbl.size)
      have HE := Lib.hid (has4_sq S sk s _ 2 4 1 3 _ is (obj_new z2 (Obj.cells #[Value.int .i64 2, Value.int .i64 4, Value.int .i64 1, Value.int .i64 3] 3)) HP1.out)
      clear hba
      go_wp2_with fail
      (with_reducible refine HE.out.mono ?_)
      rintro e z3 ⟨rfl, hb⟩
      replace is := is.next hb
      replace hbl := hbl.trans (hb.mono hbl.size)
      clear hb HE
      rcases b1 with _ | _
      · have hba := (Below.refl z3.heap.size z3).alloc (Nat.le_refl _) (Obj.cells #[Value.int .i64 3, Value.int .i64 1, Value.int .i64 4, Value.int .i64 2] 3)
        replace is := is.next hba
        replace hbl := hbl.trans (hba.mono hbl.size)
        have HE := Lib.hid (has4_sq S sk s _ 3 1 4 2 _ is (obj_new z3 (Obj.cells #[Value.int .i64 3, Value.int .i64 1, Value.int .i64 4, Value.int .i64 2] 3)) HP2.out)
        clear hba
        go_wp2_with fail
        (with_reducible refine HE.out.mono ?_)
        rintro e z4 ⟨rfl, hb⟩
        replace hbl := hbl.trans (hb.mono hbl.size)
        clear hb HE
        rcases b2 with _ | _
        · go_wp2_with fail
          go_meet
          case rel => exact ⟨rfl, hbl⟩
        · go_wp2_with fail
          go_meet
          case rel => exact ⟨rfl, hbl⟩
      · go_wp2_with fail
        go_meet
        case rel => exact ⟨by cases b2 <;> rfl, hbl⟩
  obtain ⟨rfl, hbz⟩ := hcut
  obtain ⟨y2, rfl⟩ : ∃ w', w' = wc := ⟨_, rfl⟩
  replace o4 := obj_below o4 hbz (obj_lt o4)
  replace id := id.next hbz
  replace ix := ix.next hbz
  replace is := is.next hbz
  replace HB := HB.trans (hbz.mono HB.size)
  clear hbz
  clear is
  clear HSV
  rcases ok with _ | _
  · have HTE := Lib.hid (show tv = ⟨#[]⟩ by rw [HTV.out, ttV_no HOK.out.symm]; rfl)
    have HC := Lib.hid (HTI.out y2 id)
    rw [HTE.out] at HC
    go_wp2_with fail
    (with_reducible refine HC.out.mono ?_)
    rintro e y3 ⟨rfl, hb⟩
    go_wp2_with fail
    go_ret
    exact ⟨rfl, HB.trans (hb.mono HB.size)⟩
  · have HTF := Lib.hid (tree_facts HOK.out.symm)
    rw [← HR.out] at HTF
    clear HTI HTV
    have f0 : y2.cell? ⟨x2.heap.size, 0, none⟩ = some (Value.slice RA R.length rc) := (obj_cell o4).trans rfl
    have f1 : y2.cell? ⟨x2.heap.size, 1, none⟩ = some (Value.slice PA rs.length pc) := (obj_cell o4).trans rfl
    have HC : Hid (Calls Tryz.prog 23 #[.slice RA R.length rc, .slice PA rs.length pc] y2 (Ret2 (Value.int .i64) 3 y2 p true)) := Lib.hid (by
      have h := inflateBy_spec RA PA rc pc R rs y2 ix.1 ix.2
      rwa [Hx.out, HTF.out.2.2.1, HTF.out.2.2.2.1] at h)
    go_wp2_with fail
    (with_reducible refine HC.out.mono ?_)
    rintro e y3 ⟨Y, yk, rfl, _, _, ownY, hb⟩
    replace o4 := obj_below o4 hb (obj_lt o4)
    replace id := id.next hb
    replace ix := ix.next hb
    replace HB := HB.trans (hb.mono HB.size)
    have iy := In.of_own ownY (by omega)
    clear hb HC ownY f0 f1
    have HD := Lib.hid (sameInts_eq Y D yk dk p.length p.length p p y3 rfl rfl rfl (by omega) iy.rd id.rd)
    go_wp2_with fail
    (with_reducible refine HD.out.mono ?_)
    rintro e y4 ⟨rfl, hd⟩
    have hb := below_dr (Below.refl y3.heap.size y3) hd
    replace o4 := obj_below o4 hb (obj_lt o4)
    replace id := id.next hb
    replace ix := ix.next hb
    replace HB := HB.trans (hb.mono HB.size)
    clear hb hd HD iy
    have f0 : y4.cell? ⟨x2.heap.size, 0, none⟩ = some (Value.slice RA R.length rc) := (obj_cell o4).trans rfl
    obtain ⟨b1, hb1⟩ : ∃ b, simpB R = b := ⟨_, rfl⟩
    obtain ⟨b2, hb2⟩ : ∃ b, simpB p = b := ⟨_, rfl⟩
    have HE := Lib.hid (simple_sq RA rc R y4 ix.1 HTF.out.1 HTF.out.2.1 hb1)
    have HL := Lib.hid (show b1 = false → p.length = 1 from fun e => by rcases HTF.out.2.2.2.2.1 with h | h; (rw [hb1, e] at h; cases h); exact h)
    have HP2 := Lib.hid hb2
    clear hb1 hb2
    go_wp2_with fail
    (with_reducible refine HE.out.mono ?_)
    rintro e y5 ⟨rfl, hb⟩
    replace o4 := obj_below o4 hb (obj_lt o4)
    replace id := id.next hb
    replace ix := ix.next hb
    replace HB := HB.trans (hb.mono HB.size)
    clear hb HE f0
    have f0 : y5.cell? ⟨x2.heap.size, 0, none⟩ = some (Value.slice RA R.length rc) := (obj_cell o4).trans rfl
    have HE := Lib.hid (simple_sq D dk p y5 id HTF.out.2.2.2.2.2.2.1 HTF.out.2.2.2.2.2.2.2 HP2.out)
    have g1 : b1 = false → ((p.length : Int) == 1) = true := fun e => by rw [HL.out e]; rfl
    rcases b1 with _ | _
    · have g1 := g1 rfl
      go_wp2_with fail
      (with_reducible refine HE.out.mono ?_)
      rintro e y6 ⟨rfl, hb⟩
      replace o4 := obj_below o4 hb (obj_lt o4)
      replace id := id.next hb
      replace ix := ix.next hb
      replace HB := HB.trans (hb.mono HB.size)
      clear hb HE f0
      rcases b2 with _ | _
      · go_wp2_with fail
        go_ret
        exact ⟨rfl, HB⟩
      · rcases Nat.lt_or_ge p.length 4 with h4 | h4
        · have d4 : decide ((p.length : Int) < 4) = true := decide_eq_true (by omega)
          go_wp2_with fail
          go_ret
          exact ⟨rfl, HB⟩
        · have d4 : decide ((p.length : Int) < 4) = false := decide_eq_false (by omega)
          have f0 : y6.cell? ⟨x2.heap.size, 0, none⟩ = some (Value.slice RA R.length rc) := (obj_cell o4).trans rfl
          have HEq := Lib.hid (HTF.out.2.2.2.2.2.1 HP2.out h4)
          have HF := Lib.hid (sameInts_eq RA D rc dk R.length p.length R p y6 HEq.out rfl (by rw [HEq.out]) (by omega) ix.1.rd id.rd)
          clear HEq
          go_wp2_with fail
          (with_reducible refine HF.out.mono ?_)
          rintro e y7 ⟨rfl, hd⟩
          have hb := below_dr (Below.refl y6.heap.size y6) hd
          go_wp2_with fail
          go_ret
          exact ⟨rfl, HB.trans (hb.mono HB.size)⟩
    · clear g1
      go_wp2_with fail
      (with_reducible refine HE.out.mono ?_)
      rintro e y6 ⟨rfl, hb⟩
      replace o4 := obj_below o4 hb (obj_lt o4)
      replace id := id.next hb
      replace ix := ix.next hb
      replace HB := HB.trans (hb.mono HB.size)
      clear hb HE f0
      rcases b2 with _ | _
      · go_wp2_with fail
        go_ret
        exact ⟨rfl, HB⟩
      · rcases Nat.lt_or_ge p.length 4 with h4 | h4
        · have d4 : decide ((p.length : Int) < 4) = true := decide_eq_true (by omega)
          go_wp2_with fail
          go_ret
          exact ⟨rfl, HB⟩
        · have d4 : decide ((p.length : Int) < 4) = false := decide_eq_false (by omega)
          have f0 : y6.cell? ⟨x2.heap.size, 0, none⟩ = some (Value.slice RA R.length rc) := (obj_cell o4).trans rfl
          have HEq := Lib.hid (HTF.out.2.2.2.2.2.1 HP2.out h4)
          have HF := Lib.hid (sameInts_eq RA D rc dk R.length p.length R p y6 HEq.out rfl (by rw [HEq.out]) (by omega) ix.1.rd id.rd)
          clear HEq
          go_wp2_with fail
          (with_reducible refine HF.out.mono ?_)
          rintro e y7 ⟨rfl, hd⟩
          have hb := below_dr (Below.refl y6.heap.size y6) hd
          go_wp2_with fail
          go_ret
          exact ⟨rfl, HB.trans (hb.mono HB.size)⟩
end Go.Proofs.YtldknpjeegdbmaaGreat

/- What the arguments of a law read as: from the form's own reading to the words of Base. -/
namespace Go.Proofs.YtldknpjeegdbmaaGreat
set_option maxRecDepth 100000
open Go Go.RowKit Go.ChangeShapes Go.WideShapes Go.ChangeAt

theorem ownK : ownKnob Tryz.prog.godebug = none := by kernel_rfl
theorem wf_i64_bounds {n : Int} (h : (Lit.int .i64 n).wf = true) : -9223372036854775808 ≤ n ∧ n ≤ 9223372036854775807 := by
  have hmin : IntKind.i64.min = -9223372036854775808 := rfl
  have hmax : IntKind.i64.max = 9223372036854775807 := rfl
  simp only [Lit.wf, Bool.and_eq_true, decide_eq_true_eq] at h
  omega
theorem cells_int : Tryz.prog.cellsOf 3 = 1 := by kernel_rfl
theorem cells_ints : Tryz.prog.cellsOf 24 = 1 := by kernel_rfl
theorem cells_u8 : Tryz.prog.cellsOf 5 = 1 := by kernel_rfl
theorem laidOutK : laidOutB Tryz.prog = true := by kernel_rfl

section
variable {H : Type} {enc : TypeId × Value → H} {P : Program} {W : World} {base : Nat}

/-- A slice of whole numbers that came in, nil or not, reads as a list. -/
theorem open_intsR {t e : TypeId} {k : IntKind} {v : Value} {d : DataW H} {ps : List MemPlace} (ht : P.underlying t = some (.slice e)) (he : P.underlying e = some (.int k)) (ce : P.cellsOf e = 1)
    (hv : Value.okWide P W .any base t v) (h : DataW.Trod enc P W 0 (fun _ => true) true t v d ps) :
    ∃ (A : Option Addr) (xs : List Int) (c : Nat), v = .slice A xs.length c ∧ xs.length ≤ c ∧ c ≤ maxLen ∧ Rd (Value.int k) W W.heap.size A xs ∧ ∀ n ∈ xs, (Lit.int k n).wf = true := by
  obtain ⟨a0, len, cap, rfl⟩ := okWide_slice ht hv
  obtain ⟨fuel, hf⟩ := h
  rcases open_ints ht he ce hf with ⟨hcs, hx⟩ | ⟨a, len', cap', zs, hcs, _, hl, hm, hz, hx, hcell, hwz⟩
  · simp [Value.cells] at hcs
    obtain ⟨rfl, rfl, rfl⟩ := hcs
    exact ⟨none, [], 0, rfl, Nat.le_refl _, Nat.zero_le _, Rd.nil_, by simp⟩
  · simp [Value.cells] at hcs
    obtain ⟨rfl, rfl, rfl⟩ := hcs
    simp only [if_true] at hz
    have hlen : (zs.take len).length = len := by rw [List.length_take]; omega
    refine ⟨some a, zs.take len, cap, by rw [hlen], by omega, hm, fun h0 => ?_, fun n hn => hwz n (List.mem_of_mem_take hn)⟩
    rw [hlen] at h0
    obtain ⟨b, off, spot⟩ := a
    have hc0 := hcell 0 (by omega)
    have hspot : spot = none := by simpa [Addr.add] using World.cell?_spot hc0
    subst hspot
    refine ⟨b, off, rfl, ?_, fun j hj => ?_⟩
    · have := block_lt_of_cell hc0
      simpa [Addr.add] using this
    · have := hcell j (by omega)
      rw [add_plain] at this
      rw [this]
      simp [List.getD, show j < zs.length by omega]
end
end Go.Proofs.YtldknpjeegdbmaaGreat
