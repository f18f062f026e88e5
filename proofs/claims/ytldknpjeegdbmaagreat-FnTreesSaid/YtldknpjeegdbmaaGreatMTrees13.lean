/- Several texts in one, each with its own head: DT2, TT1, TT2, TT3. No program of ours. -/
import Derived.Deep.RegionHeld3
import Derived.Test.YtldknpjeegdbmaaGreatMTrees12
/- DrawEqualInflation. Written by gen/gendt2.py. -/
namespace Go.Proofs.YtldknpjeegdbmaaGreat
set_option maxRecDepth 100000
open Go Go.RowKit

theorem spR_len (p : List Int) : (spR p).length ≤ 8 := by
  unfold spR
  split
  · rename_i h
    have := spOk_true h
    exact (permB_true (parts_of this.1 this.2).2.2.1).1
  · simp
theorem spP_size {p : List Int} {rs : List Row} (hX : rs.map Row.xs = spP p) : rs.length + sizeR rs ≤ 1048576 := by
  unfold spP at hX
  split at hX
  · rename_i h
    have := spOk_true h
    exact parts_size this.1 this.2 hX
  · have : rs = [] := by simpa using hX
    subst this
    simp [sizeR]
theorem own_drT {w w' : World} {base e n : Nat} {v : Value} {vs : List Value} (h : w.ownsRow base e 1 v n vs) (hd : Dr w w') : w'.ownsRow base e 1 v n vs := own_below h (below_dr (Below.refl _ _) hd)
/-- Two inflations were drawn. -/
def RetDE (w : World) (e : Ending) (w' : World) : Prop :=
  ∃ (A : Option Addr) (c : Nat) (r : List Int) (B : Option Addr) (k : Nat) (rs : List Row) (A' : Option Addr) (c' : Nat) (r' : List Int) (B' : Option Addr) (k' : Nat) (rs' : List Row),
    e = .returned (.tuple #[.agg #[.slice A r.length c, .slice B rs.length k], .agg #[.slice A' r'.length c', .slice B' rs'.length k']]) ∧ InI w' A c r B k rs ∧ InI w' A' c' r' B' k' rs' ∧ Below w.heap.size w w'
theorem inI_of_own {W : World} {lo hi : Nat} {A B : Option Addr} {c k : Nat} {r : List Int} {rs : List Row} (hr : W.ownsRow lo 3 1 (.slice A r.length c) r.length (r.map (Value.int .i64))) (hs : Own W lo hi rs [⟨B, k, rs.map Row.v⟩]) (hh : hi ≤ W.heap.size) (hl : r.length ≤ 8) (hz : rs.length + sizeR rs ≤ 1048576) : InI W A c r B k rs :=
  ⟨In.of_own hr (by omega), hs.read.toL hz hh⟩
theorem ret_cells {w W : World} {A B A' B' : Option Addr} {c k c' k' hi hi' : Nat} {r r' : List Int} {rs rs' : List Row} {z0 z1 z2 z3 : Value} {T : TypeId}
    (o2 : W.heap[w.heap.size]? = some (Obj.cells #[z0, z1] T (0, 0))) (o3 : W.heap[w.heap.size + 1]? = some (Obj.cells #[z2, z3] T (0, 0)))
    (hr : W.ownsRow (w.heap.size + 2) 3 1 (.slice A r.length c) r.length (r.map (Value.int .i64))) (hs : Own W (w.heap.size + 2) hi rs [⟨B, k, rs.map Row.v⟩]) (hh : hi ≤ W.heap.size) (hl : r.length ≤ 8) (hz : rs.length + sizeR rs ≤ 1048576)
    (hr' : W.ownsRow (w.heap.size + 2) 3 1 (.slice A' r'.length c') r'.length (r'.map (Value.int .i64))) (hs' : Own W (w.heap.size + 2) hi' rs' [⟨B', k', rs'.map Row.v⟩]) (hh' : hi' ≤ W.heap.size) (hl' : r'.length ≤ 8) (hz' : rs'.length + sizeR rs' ≤ 1048576)
    (hb : Below w.heap.size w W) {W' : World} (hW : W' = ((((W.setCell ⟨w.heap.size, 0, none⟩ (.slice A r.length c)).setCell ⟨w.heap.size, 1, none⟩ (.slice B rs.length k)).setCell ⟨w.heap.size + 1, 0, none⟩ (.slice A' r'.length c')).setCell ⟨w.heap.size + 1, 1, none⟩ (.slice B' rs'.length k'))) :
    W'.cell? ⟨w.heap.size, 0, none⟩ = some (.slice A r.length c) ∧ W'.cell? ⟨w.heap.size, 1, none⟩ = some (.slice B rs.length k) ∧
    W'.cell? ⟨w.heap.size + 1, 0, none⟩ = some (.slice A' r'.length c') ∧ W'.cell? ⟨w.heap.size + 1, 1, none⟩ = some (.slice B' rs'.length k') ∧
    InI W' A c r B k rs ∧ InI W' A' c' r' B' k' rs' ∧ Below w.heap.size w W' := by
  have q2 := obj_set (i := 1) (obj_set (i := 0) o2 (Value.slice A r.length c)) (Value.slice B rs.length k)
  have q3 := obj_other (g' := w.heap.size) (i := 1) (obj_other (g' := w.heap.size) (i := 0) o3 (by omega) (Value.slice A r.length c)) (by omega) (Value.slice B rs.length k)
  have p3 := obj_set (i := 1) (obj_set (i := 0) q3 (Value.slice A' r'.length c')) (Value.slice B' rs'.length k')
  have p2 := obj_other (g' := w.heap.size + 1) (i := 1) (obj_other (g' := w.heap.size + 1) (i := 0) q2 (by omega) (Value.slice A' r'.length c')) (by omega) (Value.slice B' rs'.length k')
  rw [← hW] at p2 p3
  have hsp : Span w.heap.size (w.heap.size + 2) W W' := by
    rw [hW]
    exact (((Span.set (p := ⟨w.heap.size, 0, none⟩) (by simp) (by simp) _).trans (Span.set (p := ⟨w.heap.size, 1, none⟩) (by simp) (by simp) _)).trans (Span.set (p := ⟨w.heap.size + 1, 0, none⟩) (by simp) (by simp) _)).trans (Span.set (p := ⟨w.heap.size + 1, 1, none⟩) (by simp) (by simp) _)
  have hsz := hsp.size
  refine ⟨(obj_cell (i := 0) p2).trans rfl, (obj_cell (i := 1) p2).trans rfl, (obj_cell (i := 0) p3).trans rfl, (obj_cell (i := 1) p3).trans rfl, ?_, ?_, ?_⟩
  · exact inI_of_own (own_span hr hsp fun g hg => by have := hr.lt g hg; omega) (hs.span hsp (.inr (Nat.le_refl _))) (by omega) hl hz
  · exact inI_of_own (own_span hr' hsp fun g hg => by have := hr'.lt g hg; omega) (hs'.span hsp (.inr (Nat.le_refl _))) (by omega) hl' hz'
  · exact hb.trans (hsp.below (Nat.le_refl _) hb.size)
set_option maxHeartbeats 8000000 in
theorem drawEqualInflation (A : Option Addr) (c : Nat) (bs : List Int) (w : World) (h : InY w A c bs) :
    Calls Tryz.prog 8 #[.slice A bs.length c] w (RetDE w) := by
  obtain ⟨i0, hi, hz0, hz1, hz2⟩ := info_parts infoI
  have hb0 : Below w.heap.size w ((w.alloc (Obj.cells #[Value.slice none 0 0, Value.slice none 0 0] 28)).alloc (Obj.cells #[Value.slice none 0 0, Value.slice none 0 0] 28)) := ((Below.refl _ _).alloc (Nat.le_refl _) _).alloc (by simp) _
  have o2 := obj_alloc (obj_new w (Obj.cells #[Value.slice none 0 0, Value.slice none 0 0] 28)) (Obj.cells #[Value.slice none 0 0, Value.slice none 0 0] 28)
  have o3 := obj_new (w.alloc (Obj.cells #[Value.slice none 0 0, Value.slice none 0 0] 28)) (Obj.cells #[Value.slice none 0 0, Value.slice none 0 0] 28)
  have hzw : ((w.alloc (Obj.cells #[Value.slice none 0 0, Value.slice none 0 0] 28)).alloc (Obj.cells #[Value.slice none 0 0, Value.slice none 0 0] 28)).heap.size = w.heap.size + 1 + 1 := by simp
  simp only [World.size_alloc] at o3
  go_enter Tryz.func8, Tryz.ntmps8
  go_wp2_with fail
  generalize ((w.alloc (Obj.cells #[Value.slice none 0 0, Value.slice none 0 0] 28)).alloc (Obj.cells #[Value.slice none 0 0, Value.slice none 0 0] 28)) = w0 at hb0 o2 o3 hzw ⊢
  have h1 := h.next hb0
  (with_reducible refine (l1New_any A c bs w0 h1.len h1.rd).mono ?_)
  rintro e w1 ⟨q, rfl, hq, hc, hb⟩
  have o2 := obj_belowS o2 hb
  have o3 := obj_belowS o3 hb
  have hbw := hb0.trans (hb.mono hb0.size)
  have hq1 := hc.lt
  have hqw : w.heap.size + 2 ≤ q := by omega
  have HD := Lib.hid (l5Bent_any w1 q A c bs hc)
  clear hb hb0 h1 hq
  go_wp2_with fail
  (with_reducible refine HD.out.mono ?_)
  rintro e w2 ⟨D, dk, p, rfl, hl, ho, k1⟩
  have o2 := (k1.span.block _ (obj_lt o2) (by omega)).trans o2
  have o3 := (k1.span.block _ (obj_lt o3) (by omega)).trans o3
  have hbw := hbw.trans (k1.below (by omega) hbw.size)
  have HS := Lib.hid (splitPerm_spec D dk p w2 (In.of_own ho (by omega)))
  have hs2 := k1.span.size
  obtain ⟨r, hr⟩ : ∃ r, r = spR p := ⟨_, rfl⟩
  have hrl : r.length ≤ 8 := by rw [hr]; exact spR_len p
  rw [← hr] at HS
  clear ho hl HD hr
  go_wp2_with fail
  (with_reducible refine HS.out.mono ?_)
  rintro e w3 ⟨RA, rc, PA, pc, rs, rfl, hX, hO, hb3⟩
  have HZ := Lib.hid (spP_size hX)
  have hs3 := hb3.size
  have hba := (Below.refl w3.heap.size w3).alloc (Nat.le_refl _) (Obj.cells #[Value.slice RA r.length rc, Value.slice PA rs.length pc] 28)
  have oa := obj_new w3 (Obj.cells #[Value.slice RA r.length rc, Value.slice PA rs.length pc] 28)
  have o2 := obj_belowS (obj_belowS o2 hb3) hba
  have o3 := obj_belowS (obj_belowS o3 hb3) hba
  have hO := hO.below hba
  have k2 := (k1.next (hb3.mono hs2) hq1).next (hba.mono (by omega)) hq1
  have hbw := (hbw.trans (hb3.mono hbw.size))
  have hbw := hbw.trans (hba.mono hbw.size)
  obtain ⟨G, hG⟩ : ∃ G, G = w3.heap.size := ⟨_, rfl⟩
  have hzA : (w3.alloc (Obj.cells #[Value.slice RA r.length rc, Value.slice PA rs.length pc] 28)).heap.size = G + 1 := by rw [hG]; simp
  have hqG : q < G := by omega
  have hG2 : w2.heap.size ≤ G := by omega
  clear hX HS hba hb3 k1 hs3
  go_wp2_with fail
  generalize (w3.alloc (Obj.cells #[Value.slice RA r.length rc, Value.slice PA rs.length pc] 28)) = wa at oa o2 o3 hO k2 hbw hzA ⊢
  rw [← hG] at oa hO ⊢
  clear hG
  (with_reducible refine (l1Once_any wa q A c bs 2 (by omega) k2.cur).mono ?_)
  rintro e w4 ⟨b, rfl, k4⟩
  have o2 := (k4.span.block _ (obj_lt o2) (by omega)).trans o2
  have o3 := (k4.span.block _ (obj_lt o3) (by omega)).trans o3
  have oa := (k4.span.block _ (obj_lt oa) (by omega)).trans oa
  have hO := (hO.drawnT k4 (by omega)).wider (lo' := w2.heap.size) (hi' := w4.heap.size) (by omega) (by have := k4.span.size; omega)
  have hw22 : w.heap.size + 2 ≤ w2.heap.size := by omega
  have hqw2 : q < w2.heap.size := by omega
  have hbw := hbw.trans (k4.below (by omega) hbw.size)
  have hs4 := k4.span.size
  have k3 := k2.trans k4
  have hrow := hO.rows _ (List.mem_cons_self)
  have hlist := hO.sub (List.sublist_cons_self _ _)
  clear k2 k4 hO
  rcases b with _ | _
  · have HD := Lib.hid (l5Bent_any w4 q A c bs k3.cur)
    go_wp2_with fail
    (with_reducible refine HD.out.mono ?_)
    rintro e w5 ⟨D2, d2, p2, rfl, hl2, ho2, k5⟩
    have o2 := (k5.span.block _ (obj_lt o2) (by omega)).trans o2
    have o3 := (k5.span.block _ (obj_lt o3) (by omega)).trans o3
    have oa := (k5.span.block _ (obj_lt oa) (by omega)).trans oa
    have hrow := own_drawn hrow k5 (by omega)
    have hlist := hlist.drawnT k5 (by omega)
    have hbw := hbw.trans (k5.below (by omega) hbw.size)
    have hs5 := k5.span.size
    have HS := Lib.hid (splitPerm_spec D2 d2 p2 w5 (In.of_own ho2 (by omega)))
    obtain ⟨r2, hr⟩ : ∃ r, r = spR p2 := ⟨_, rfl⟩
    have hrl2 : r2.length ≤ 8 := by rw [hr]; exact spR_len p2
    rw [← hr] at HS
    clear ho2 hl2 HD hr k5 k3
    go_wp2_with fail
    (with_reducible refine HS.out.mono ?_)
    rintro e w6 ⟨RB, rd, PB, pd, ss, rfl, hX, hO, hb6⟩
    have HZ2 := Lib.hid (spP_size hX)
    have hba := (Below.refl w6.heap.size w6).alloc (Nat.le_refl _) (Obj.cells #[Value.slice RB r2.length rd, Value.slice PB ss.length pd] 28)
    have ob := obj_new w6 (Obj.cells #[Value.slice RB r2.length rd, Value.slice PB ss.length pd] 28)
    have o2 := obj_belowS (obj_belowS o2 hb6) hba
    have o3 := obj_belowS (obj_belowS o3 hb6) hba
    have oa := obj_belowS (obj_belowS oa hb6) hba
    have hO := (hO.below hba).wider (lo' := w.heap.size + 2) (by have := hbw.size; omega) (Nat.le_refl _)
    have hrow := own_below (own_below hrow hb6) hba
    have hlist := (hlist.below hb6).below hba
    have hbw := (hbw.trans (hb6.mono hbw.size))
    have hbw := hbw.trans (hba.mono hbw.size)
    have hs6 := hb6.size
    obtain ⟨G2, hG2⟩ : ∃ G, G = w6.heap.size := ⟨_, rfl⟩
    have hz2' : (w6.alloc (Obj.cells #[Value.slice RB r2.length rd, Value.slice PB ss.length pd] 28)).heap.size = G2 + 1 := by rw [hG2]; simp
    have hGG : G < G2 := by have := obj_lt oa; omega
    clear hX HS hba hb6
    go_wp2_with fail
    generalize (w6.alloc (Obj.cells #[Value.slice RB r2.length rd, Value.slice PB ss.length pd] 28)) = wb at oa ob o2 o3 hO hrow hlist hbw hz2' ⊢
    rw [← hG2] at ob hO ⊢
    have hrow := own_mono hrow hw22
    have hlist := hlist.wider (lo' := w.heap.size + 2) hw22 (Nat.le_refl _)
    have hrow2 := hO.rows _ (List.mem_cons_self)
    have hlist2 := hO.sub (List.sublist_cons_self _ _)
    have hwl : w4.heap.size ≤ G2 := by omega
    clear hG2 hO
    have hdd := (Dr.refl wb).drew
    have o2 := obj_dr o2 hdd
    have o3 := obj_dr o3 hdd
    have oa := obj_dr oa hdd
    have ob := obj_dr ob hdd
    have hrow := own_drT hrow hdd
    have hrow2 := own_drT hrow2 hdd
    have hlist := hlist.dr hdd
    have hlist2 := hlist2.dr hdd
    have hbw := below_dr hbw hdd
    have hzw : wb.drew.heap.size = G2 + 1 := hz2'
    have hS0 : wb.drew.cell? ⟨G, 0, none⟩ = some (Value.slice RA r.length rc) ∧ wb.drew.cell? ⟨G, 1, none⟩ = some (Value.slice PA rs.length pc) ∧ wb.drew.cell? ⟨G2, 0, none⟩ = some (Value.slice RB r2.length rd) ∧ wb.drew.cell? ⟨G2, 1, none⟩ = some (Value.slice PB ss.length pd) := ⟨(obj_cell (i := 0) oa).trans rfl, (obj_cell (i := 1) oa).trans rfl, (obj_cell (i := 0) ob).trans rfl, (obj_cell (i := 1) ob).trans rfl⟩
    have a20 := (obj_cell (i := 0) o2)
    have a21 := (obj_cell (i := 1) o2)
    have u20 := (obj_frozen (i := 0) o2)
    have u21 := (obj_frozen (i := 1) o2)
    simp only [List.getElem?_toArray, List.getElem?_cons_zero, List.getElem?_cons_succ] at a20 a21
    have o3x := (obj_other (g' := w.heap.size) (i := 1) (obj_other (g' := w.heap.size) (i := 0) o3 (by omega) (Value.slice RA r.length rc)) (by omega) (Value.slice PA rs.length pc))
    have oax := (obj_other (g' := w.heap.size) (i := 1) (obj_other (g' := w.heap.size) (i := 0) oa (by omega) (Value.slice RA r.length rc)) (by omega) (Value.slice PA rs.length pc))
    have obx := (obj_other (g' := w.heap.size) (i := 1) (obj_other (g' := w.heap.size) (i := 0) ob (by omega) (Value.slice RA r.length rc)) (by omega) (Value.slice PA rs.length pc))
    have a30 := (obj_cell (i := 0) o3x)
    have a31 := (obj_cell (i := 1) o3x)
    have u30 := (obj_frozen (i := 0) o3x)
    have u31 := (obj_frozen (i := 1) o3x)
    simp only [List.getElem?_toArray, List.getElem?_cons_zero, List.getElem?_cons_succ] at a30 a31
    have oay := (obj_other (g' := (w.heap.size + 1)) (i := 1) (obj_other (g' := (w.heap.size + 1)) (i := 0) oax (by omega) (Value.slice RB r2.length rd)) (by omega) (Value.slice PB ss.length pd))
    have oby := (obj_other (g' := (w.heap.size + 1)) (i := 1) (obj_other (g' := (w.heap.size + 1)) (i := 0) obx (by omega) (Value.slice RB r2.length rd)) (by omega) (Value.slice PB ss.length pd))
    have hwG : w.heap.size + 2 ≤ G := by omega
    go_wp2_with fail
    refine wp_region_held_drew (S := (fun v => v.cell? ⟨G, 0, none⟩ = some (Value.slice RA r.length rc) ∧ v.cell? ⟨G, 1, none⟩ = some (Value.slice PA rs.length pc) ∧ v.cell? ⟨G2, 0, none⟩ = some (Value.slice RB r2.length rd) ∧ v.cell? ⟨G2, 1, none⟩ = some (Value.slice PB ss.length pd))) (by kernel_rfl) hS0 (fun hHeld => ?_)
    clear hS0
    generalize wb.drew = wv at o2 o3 oa ob hrow hlist hrow2 hlist2 hbw hzw hHeld a20 a21 u20 u21 o3x oax obx a30 a31 u30 u31 oay oby ⊢
    refine wpAnyH_take (i := 0) (oi := _) (v := ?_) rfl (by kernel_rfl) (by kernel_rfl) (by kernel_rfl) (fun _ _ _ h => h) (Or.inl ⟨by rfl, ?_⟩) (by assumption) ?_
    rotate_left
    · intro w hSw
      try dsimp only at hSw
      go_simp
      all_goals with_reducible rfl
    try simp only [Act.put, List.setIfInBounds_toArray, List.set_cons_zero, List.set_cons_succ, List.getElem_toArray, List.getElem_cons_zero]
    refine wpAnyH_take (i := 1) (oi := _) (v := ?_) rfl (by kernel_rfl) (by kernel_rfl) (by kernel_rfl) (fun _ _ _ h => h) (Or.inl ⟨by rfl, ?_⟩) (by assumption) ?_
    rotate_left
    · intro w hSw
      try dsimp only at hSw
      go_simp
      all_goals with_reducible rfl
    try simp only [Act.put, List.setIfInBounds_toArray, List.set_cons_zero, List.set_cons_succ, List.getElem_toArray, List.getElem_cons_succ, List.getElem_cons_zero]
    refine wpAnyH_ready (rs := [2]) (by kernel_rfl) (by simp) ?_
    refine AllReadyH.cons (o := _) rfl (fun K hK => ?_) AllReadyH.nil
    go_simp
    refine hK.out _ _ (⟨(obj_cell (i := 0) oax).trans rfl, (obj_cell (i := 1) oax).trans rfl, (obj_cell (i := 0) obx).trans rfl, (obj_cell (i := 1) obx).trans rfl⟩) (fun hHeld => ?_)
    clear hK K
    try simp only [Act.put, List.setIfInBounds_toArray, List.set_cons_zero, List.set_cons_succ, List.getElem_toArray, List.getElem_cons_succ, List.getElem_cons_zero]
    refine wpAnyH_ready (rs := [3]) (by kernel_rfl) (by simp) ?_
    refine AllReadyH.cons (o := _) rfl (fun K hK => ?_) AllReadyH.nil
    go_simp
    refine hK.out _ _ (⟨(obj_cell (i := 0) oay).trans rfl, (obj_cell (i := 1) oay).trans rfl, (obj_cell (i := 0) oby).trans rfl, (obj_cell (i := 1) oby).trans rfl⟩) (fun hHeld => ?_)
    clear hK K
    try simp only [Act.put, List.setIfInBounds_toArray, List.set_cons_zero, List.set_cons_succ, List.getElem_toArray, List.getElem_cons_succ, List.getElem_cons_zero]
    refine wpAnyH_done (by kernel_rfl) ?_ _
    obtain ⟨wz, hwz⟩ : ∃ wz, wz = ((((wv.setCell ⟨w.heap.size, 0, none⟩ (.slice RA r.length rc)).setCell ⟨w.heap.size, 1, none⟩ (.slice PA rs.length pc)).setCell ⟨w.heap.size + 1, 0, none⟩ (.slice RB r2.length rd)).setCell ⟨w.heap.size + 1, 1, none⟩ (.slice PB ss.length pd)) := ⟨_, rfl⟩
    obtain ⟨l0, l1, l2, l3, hI1, hI2, hbz⟩ := ret_cells o2 o3 hrow hlist (by omega) hrl HZ.out hrow2 hlist2 (by omega) hrl2 HZ2.out hbw hwz
    rw [← hwz]
    have HF := Lib.hid (And.intro hI1 (And.intro hI2 hbz))
    clear hI1 hI2 hbz hwz a20 a21 u20 u21 o3x oax obx a30 a31 u30 u31 oay oby hrow hlist hrow2 hlist2 o2 o3 oa ob hbw
    go_wp2_with fail
    try simp only [Exit.inBlock, Exit.then]
    refine bodyPost_ret (v := .tuple #[.agg #[.slice RA r.length rc, .slice PA rs.length pc], .agg #[.slice RB r2.length rd, .slice PB ss.length pd]]) (by simp [results, Tryz.results8, go_sem, l0, l1, l2, l3]) rfl ?_
    exact ⟨RA, rc, r, PA, pc, rs, RB, rd, r2, PB, pd, ss, rfl, HF.out.1, HF.out.2.1, HF.out.2.2⟩
  · have hrow := own_mono hrow hw22
    have hlist := hlist.wider (lo' := w.heap.size + 2) hw22 (Nat.le_refl _)
    have hdd := (Dr.refl w4).drew
    have o2 := obj_dr o2 hdd
    have o3 := obj_dr o3 hdd
    have oa := obj_dr oa hdd
    have hrow := own_drT hrow hdd
    have hlist := hlist.dr hdd
    have hbw := below_dr hbw hdd
    have hls : w4.drew.heap.size = w4.heap.size := rfl
    have hwG : w.heap.size + 2 ≤ G := by omega
    have hGl := obj_lt oa
    have hba := (Below.refl w4.drew.heap.size w4.drew).alloc (Nat.le_refl _) (Obj.cells #[] 3)
    have oa1 := obj_belowS oa hba
    have own0 : (w4.drew.alloc (Obj.cells #[] 3)).ownsRow w4.drew.heap.size 3 1 (.slice (some ⟨w4.drew.heap.size, 0, none⟩) 0 0) 0 (([] : List Int).map (Value.int .i64)) := World.ownsRow_lit w4.drew #[] 0 (Nat.le_refl _) (by unfold maxLen; omega) rfl
    have hrd1 := (Rd.of_own hrow).next hba
    have hS0 : w4.drew.cell? ⟨G, 0, none⟩ = some (Value.slice RA r.length rc) ∧ w4.drew.cell? ⟨G, 1, none⟩ = some (Value.slice PA rs.length pc) := ⟨(obj_cell (i := 0) oa).trans rfl, (obj_cell (i := 1) oa).trans rfl⟩
    go_wp2_with fail
    refine wp_region_held_drew (S := (fun v => v.cell? ⟨G, 0, none⟩ = some (Value.slice RA r.length rc) ∧ v.cell? ⟨G, 1, none⟩ = some (Value.slice PA rs.length pc))) (by kernel_rfl) hS0 (fun hHeld => ?_)
    clear hS0
    generalize w4.drew = wv at o2 o3 oa hrow hlist hbw hls hba oa1 own0 hrd1 hHeld ⊢
    rw [hls] at own0
    refine wpAnyH_take (i := 0) (oi := _) (v := ?_) rfl (by kernel_rfl) (by kernel_rfl) (by kernel_rfl) (fun _ _ _ h => h) (Or.inl ⟨by rfl, ?_⟩) (by assumption) ?_
    rotate_left
    · intro w hSw
      try dsimp only at hSw
      go_simp
      all_goals with_reducible rfl
    try simp only [Act.put, List.setIfInBounds_toArray, List.set_cons_zero, List.set_cons_succ, List.getElem_toArray, List.getElem_cons_zero]
    refine wpAnyH_take (i := 2) (oi := _) (v := ?_) rfl (by kernel_rfl) (by kernel_rfl) (by kernel_rfl) (fun _ _ _ h => h) (Or.inl ⟨by rfl, ?_⟩) (by assumption) ?_
    rotate_left
    · intro w hSw
      try dsimp only at hSw
      go_simp
      all_goals with_reducible rfl
    try simp only [Act.put, List.setIfInBounds_toArray, List.set_cons_zero, List.set_cons_succ, List.getElem_toArray, List.getElem_cons_succ, List.getElem_cons_zero]
    refine wpAnyH_take (i := 3) (oi := _) (v := ?_) rfl (by kernel_rfl) (by kernel_rfl) (by kernel_rfl) (fun _ _ _ h => h) (Or.inl ⟨by rfl, ?_⟩) (by assumption) ?_
    rotate_left
    · intro w hSw
      try dsimp only at hSw
      go_simp
      all_goals with_reducible rfl
    try simp only [Act.put, List.setIfInBounds_toArray, List.set_cons_zero, List.set_cons_succ, List.getElem_toArray, List.getElem_cons_succ, List.getElem_cons_zero]
    refine wpAnyH_take (i := 5) (oi := _) (v := ?_) rfl (by kernel_rfl) (by kernel_rfl) (by kernel_rfl) (fun _ _ _ h => h) (Or.inl ⟨by rfl, ?_⟩) (by assumption) ?_
    rotate_left
    · intro w hSw
      try dsimp only at hSw
      go_simp
      all_goals with_reducible rfl
    try simp only [Act.put, List.setIfInBounds_toArray, List.set_cons_zero, List.set_cons_succ, List.getElem_toArray, List.getElem_cons_succ, List.getElem_cons_zero]
    refine wpAnyH_take (i := 6) (oi := _) (v := ?_) rfl (by kernel_rfl) (by kernel_rfl) (by kernel_rfl) (fun _ _ _ h => h) (Or.inl ⟨by rfl, ?_⟩) (by assumption) ?_
    rotate_left
    · intro w hSw
      try dsimp only at hSw
      go_simp
      all_goals with_reducible rfl
    try simp only [Act.put, List.setIfInBounds_toArray, List.set_cons_zero, List.set_cons_succ, List.getElem_toArray, List.getElem_cons_succ, List.getElem_cons_zero]
    refine wpAnyH_ready (rs := [1]) (by kernel_rfl) (by simp) ?_
    refine AllReadyH.cons (o := _) rfl (fun K hK => ?_) AllReadyH.nil
    go_simp
    refine hK.out _ _ (⟨(obj_cell (i := 0) oa1).trans rfl, (obj_cell (i := 1) oa1).trans rfl⟩) (fun hHeld => ?_)
    clear hK K
    try simp only [Act.put, List.setIfInBounds_toArray, List.set_cons_zero, List.set_cons_succ, List.getElem_toArray, List.getElem_cons_succ, List.getElem_cons_zero]
    refine wpAnyH_ready (rs := [4]) (by kernel_rfl) (by simp) ?_
    refine AllReadyH.cons (o := _) rfl (fun K hK => ?_) AllReadyH.nil
    refine step_append_rd _ (by rfl) _ _ _ (by rfl) w4.heap.size 3 i0 (.int .i64 0) 8 Tryz.underlying24 hi hz0 hz1 hz2 (by rfl) (Value.slice (some ⟨w4.heap.size, 0, none⟩) 0 0) 0 _ (by rfl) own0 _ RA rc r.length r (by rfl) rfl hrd1 (fun _ => rfl) (by unfold maxLen; omega) (by omega) (by simp; omega) ?_
    intro v5 w5 hown5 hgrow5
    obtain ⟨RB, rd, rfl, _, _⟩ := own_shape hown5
    have hown5 : w5.ownsRow w4.heap.size 3 1 (.slice RB (0 + r.length) rd) (0 + r.length) (r.map (Value.int .i64)) := hown5
    rw [Nat.zero_add] at hown5 ⊢
    have hb5 := hba.grown hgrow5 (by simp) (fun g hg => by have := (own0.lt g hg).1; omega)
    have oa := obj_belowS oa hb5
    have o2 := obj_belowS o2 hb5
    have o3 := obj_belowS o3 hb5
    have hrow := own_below hrow hb5
    have hlist := hlist.below hb5
    have hbw := hbw.trans (hb5.mono hbw.size)
    have hs5 := hb5.size
    refine hK.out _ _ (⟨(obj_cell (i := 0) oa).trans rfl, (obj_cell (i := 1) oa).trans rfl⟩) (fun hHeld => ?_)
    clear hK K
    try simp only [Act.put, List.setIfInBounds_toArray, List.set_cons_zero, List.set_cons_succ, List.getElem_toArray, List.getElem_cons_succ, List.getElem_cons_zero]
    refine wpAnyH_ready (rs := [7]) (by kernel_rfl) (by simp) ?_
    refine AllReadyH.cons (o := _) rfl (fun K hK => ?_) AllReadyH.nil
    go_simp
    refine Calls.mono (l2Copy_any PA pc rs w5 (hlist.read.toL HZ.out (by omega))) ?_
    rintro e w6 ⟨PB, pd, ss, rfl, hX6, hO6, hb6⟩
    have HZ2 := Lib.hid (show ss.length + sizeR ss ≤ 1048576 by have h1 := HZ.out; have h2 := map_size1 hX6; have h3 := map_len1 hX6; rw [sizeR_eq] at h1; rw [List.length_map] at h3; omega)
    have oa := obj_belowS oa hb6
    have o2 := obj_belowS o2 hb6
    have o3 := obj_belowS o3 hb6
    have hrow := own_below hrow hb6
    have hlist := hlist.below hb6
    have hrow2 := own_mono (own_below hown5 hb6) (base' := w.heap.size + 2) (by omega)
    have hlist2 := hO6.wider (lo' := w.heap.size + 2) (by omega) (Nat.le_refl _)
    have hbw := hbw.trans (hb6.mono hbw.size)
    have hs6 := hb6.size
    go_wp2_with fail
    refine hK.out _ _ (⟨(obj_cell (i := 0) oa).trans rfl, (obj_cell (i := 1) oa).trans rfl⟩) (fun hHeld => ?_)
    clear hK K
    try simp only [Act.put, List.setIfInBounds_toArray, List.set_cons_zero, List.set_cons_succ, List.getElem_toArray, List.getElem_cons_succ, List.getElem_cons_zero]
    refine wpAnyH_take (i := 8) (oi := _) (v := ?_) rfl (by kernel_rfl) (by kernel_rfl) (by kernel_rfl) (fun _ _ _ h => h) (Or.inl ⟨by rfl, ?_⟩) (by assumption) ?_
    rotate_left
    · intro w hSw
      try dsimp only at hSw
      go_simp
      all_goals with_reducible rfl
    try simp only [Act.put, List.setIfInBounds_toArray, List.set_cons_zero, List.set_cons_succ, List.getElem_toArray, List.getElem_cons_succ, List.getElem_cons_zero]
    have a20 := (obj_cell (i := 0) o2)
    have a21 := (obj_cell (i := 1) o2)
    have u20 := (obj_frozen (i := 0) o2)
    have u21 := (obj_frozen (i := 1) o2)
    simp only [List.getElem?_toArray, List.getElem?_cons_zero, List.getElem?_cons_succ] at a20 a21
    have o3x := (obj_other (g' := w.heap.size) (i := 1) (obj_other (g' := w.heap.size) (i := 0) o3 (by omega) (Value.slice RA r.length rc)) (by omega) (Value.slice PA rs.length pc))
    have oax := (obj_other (g' := w.heap.size) (i := 1) (obj_other (g' := w.heap.size) (i := 0) oa (by omega) (Value.slice RA r.length rc)) (by omega) (Value.slice PA rs.length pc))
    have a30 := (obj_cell (i := 0) o3x)
    have a31 := (obj_cell (i := 1) o3x)
    have u30 := (obj_frozen (i := 0) o3x)
    have u31 := (obj_frozen (i := 1) o3x)
    simp only [List.getElem?_toArray, List.getElem?_cons_zero, List.getElem?_cons_succ] at a30 a31
    have oay := (obj_other (g' := (w.heap.size + 1)) (i := 1) (obj_other (g' := (w.heap.size + 1)) (i := 0) oax (by omega) (Value.slice RB r.length rd)) (by omega) (Value.slice PB ss.length pd))
    refine wpAnyH_ready (rs := [9]) (by kernel_rfl) (by simp) ?_
    refine AllReadyH.cons (o := _) rfl (fun K hK => ?_) AllReadyH.nil
    go_simp
    refine hK.out _ _ (⟨(obj_cell (i := 0) oax).trans rfl, (obj_cell (i := 1) oax).trans rfl⟩) (fun hHeld => ?_)
    clear hK K
    try simp only [Act.put, List.setIfInBounds_toArray, List.set_cons_zero, List.set_cons_succ, List.getElem_toArray, List.getElem_cons_succ, List.getElem_cons_zero]
    refine wpAnyH_ready (rs := [10]) (by kernel_rfl) (by simp) ?_
    refine AllReadyH.cons (o := _) rfl (fun K hK => ?_) AllReadyH.nil
    go_simp
    refine hK.out _ _ (⟨(obj_cell (i := 0) oay).trans rfl, (obj_cell (i := 1) oay).trans rfl⟩) (fun hHeld => ?_)
    clear hK K
    try simp only [Act.put, List.setIfInBounds_toArray, List.set_cons_zero, List.set_cons_succ, List.getElem_toArray, List.getElem_cons_succ, List.getElem_cons_zero]
    refine wpAnyH_done (by kernel_rfl) ?_ _
    obtain ⟨wz, hwz⟩ : ∃ wz, wz = ((((w6.setCell ⟨w.heap.size, 0, none⟩ (.slice RA r.length rc)).setCell ⟨w.heap.size, 1, none⟩ (.slice PA rs.length pc)).setCell ⟨w.heap.size + 1, 0, none⟩ (.slice RB r.length rd)).setCell ⟨w.heap.size + 1, 1, none⟩ (.slice PB ss.length pd)) := ⟨_, rfl⟩
    obtain ⟨l0, l1, l2, l3, hI1, hI2, hbz⟩ := ret_cells o2 o3 hrow hlist (by omega) hrl HZ.out hrow2 hlist2 (by omega) hrl HZ2.out hbw hwz
    rw [← hwz]
    have HF := Lib.hid (And.intro hI1 (And.intro hI2 hbz))
    clear hI1 hI2 hbz hwz a20 a21 u20 u21 o3x oax a30 a31 u30 u31 oay hrow hlist hrow2 hlist2 o2 o3 oa hbw hown5 hO6
    go_wp2_with fail
    try simp only [Exit.inBlock, Exit.then]
    refine bodyPost_ret (v := .tuple #[.agg #[.slice RA r.length rc, .slice PA rs.length pc], .agg #[.slice RB r.length rd, .slice PB ss.length pd]]) (by simp [results, Tryz.results8, go_sem, l0, l1, l2, l3]) rfl ?_
    exact ⟨RA, rc, r, PA, pc, rs, RB, rd, r, PB, pd, ss, rfl, HF.out.1, HF.out.2.1, HF.out.2.2⟩
end Go.Proofs.YtldknpjeegdbmaaGreat

/- TreeText of the program. -/
namespace Go.Proofs.YtldknpjeegdbmaaGreat
set_option maxRecDepth 100000
open Go Go.RowKit

def treeT : Nat → List Int → List UInt8
  | 0, _ => []
  | f + 1, p => if p.length = 1 then [49] else (ptext (splitR p)).data.toList ++ [40] ++ Lib.join ((splitP p).map (treeT f)) [32] ++ [41]
def wdT (f : Nat) (L : List (List Int)) : List ByteArray := L.map fun q => bs (treeT f q)
theorem wdT_succ (f : Nat) (L : List (List Int)) (k : Nat) (h : k < L.length) : wdT f (L.take (k + 1)) = wdT f (L.take k) ++ [bs (treeT f L[k])] := by
  unfold wdT; rw [List.take_succ_eq_append_getElem h, List.map_append]; rfl
theorem wdT_list (f : Nat) (L : List (List Int)) : (wdT f L).map (·.data.toList) = L.map (treeT f) := by
  unfold wdT
  rw [List.map_map]
  exact List.map_congr_left fun q _ => bs_list _
theorem treeT_one (f : Nat) {p : List Int} (h : p.length = 1) : treeT (f + 1) p = [49] := by unfold treeT; rw [if_pos h]
theorem treeT_many (f : Nat) {p : List Int} (h : 2 ≤ p.length) : treeT (f + 1) p = (ptext (splitR p)).data.toList ++ [40] ++ Lib.join ((wdT f (splitP p)).map (·.data.toList)) [32] ++ [41] := by
  rw [wdT_list]
  show (if p.length = 1 then [49] else _) = _
  rw [if_neg (by omega)]
theorem two_le_parts {p : List Int} (hp : permB p = true) (h2 : 2 ≤ p.length) : 2 ≤ (splitP p).length := by
  have h0 : p ≠ [] := fun e => by rw [e] at h2; simp at h2
  have hs := split_part hp (split_is hp h0)
  have hsum := hs.2.2.2.1
  rcases Nat.lt_or_ge (splitP p).length 2 with h | h
  · exfalso
    rcases hL : splitP p with _ | ⟨a, _ | ⟨b, t⟩⟩
    · rw [hL] at hsum
      have hz : ([] : List Nat).sum = p.length := hsum
      rw [List.sum_nil] at hz; omega
    · rw [hL] at hsum
      have := (hs.1 a (by rw [hL]; simp)).2.2 (by omega)
      simp at hsum; omega
    · rw [hL] at h; simp only [List.length_cons] at h; omega
  · exact h
theorem parts_lens (f : Nat) (ih : ∀ p, permB p = true → p ≠ [] → p.length ≤ f → (treeT f p).length + 20 ≤ 40 * p.length) : ∀ L : List (List Int), (∀ q ∈ L, permB q = true ∧ q ≠ [] ∧ q.length ≤ f) →
    Lib.lens (L.map (treeT f)) + 20 * L.length ≤ 40 * (L.map List.length).sum := by
  intro L
  induction L with
  | nil => intro _; simp [Lib.lens]
  | cons a t iht =>
    intro hL
    have h1 := iht (fun q hq => hL q (by simp [hq]))
    have h2 := ih a (hL a (by simp)).1 (hL a (by simp)).2.1 (hL a (by simp)).2.2
    simp only [Lib.lens, List.map_cons, List.sum_cons, List.length_cons] at h1 ⊢
    omega
theorem join_len_le (L : List (List UInt8)) : (Lib.join L [32]).length ≤ Lib.lens L + L.length := by
  cases L with
  | nil => simp [Lib.join_nil]
  | cons a t =>
    rw [Lib.join_length]
    have h1 : [(32 : UInt8)].length = 1 := rfl
    rw [h1]
    simp only [List.length_cons]
    omega
theorem treeT_len (f : Nat) : ∀ p, permB p = true → p ≠ [] → p.length ≤ f → (treeT f p).length + 20 ≤ 40 * p.length := by
  induction f with
  | zero => intro p hp h0 hf; exact absurd (List.eq_nil_of_length_eq_zero (by omega)) h0
  | succ f ih =>
    intro p hp h0 hf
    have hl := len_pos h0
    by_cases h1 : p.length = 1
    · rw [treeT_one f h1]; simp; omega
    have h2 : 2 ≤ p.length := by omega
    have hs := split_part hp (split_is hp h0)
    have hk := two_le_parts hp h2
    have hb := parts_lens f ih (splitP p) (fun q hq => ⟨(hs.1 q hq).1, (hs.1 q hq).2.1, by have := (hs.1 q hq).2.2 h2; omega⟩)
    rw [hs.2.2.2.1] at hb
    have hj := join_len_le ((splitP p).map (treeT f))
    have ht := ptext_le (splitR p)
    rw [treeT_many f h2, wdT_list]
    simp only [List.length_append, List.length_cons, List.length_nil]
    rw [List.length_map] at hj
    omega
theorem treeT_le {f : Nat} {p : List Int} (hp : permB p = true) (h0 : p ≠ []) (hf : p.length ≤ f) (hf8 : f ≤ 8) : (treeT f p).length ≤ 320 := by
  have := treeT_len f p hp h0 hf
  omega
theorem ba_ext {a b : ByteArray} (h : a.data.toList = b.data.toList) : a = b := by
  cases a; cases b; congr 1; exact Array.toList_inj.1 h
theorem tt_join (x : ByteArray) (J : List UInt8) : ((x ++ (⟨#[40]⟩ : ByteArray)) ++ (⟨J.toArray⟩ : ByteArray)) ++ (⟨#[41]⟩ : ByteArray) = bs (x.data.toList ++ [40] ++ J ++ [41]) := by
  apply ba_ext
  rw [bs_list]
  simp [ByteArray.data_append]
end Go.Proofs.YtldknpjeegdbmaaGreat

/- TreeText of the program: the walk. -/
namespace Go.Proofs.YtldknpjeegdbmaaGreat
set_option maxRecDepth 100000
open Go Go.RowKit

theorem words_le {f : Nat} {p : List Int} (hp : permB p = true) (h2 : 2 ≤ p.length) (hf : p.length ≤ f + 1) (hf8 : f ≤ 8) :
    (∀ t ∈ wdT f (splitP p), t.size ≤ 320) ∧ (Lib.join ((wdT f (splitP p)).map (·.data.toList)) [32]).length ≤ 321 * 8 := by
  have h0 : p ≠ [] := fun e => by rw [e] at h2; simp at h2
  have hs := split_part hp (split_is hp h0)
  have hw : ∀ t ∈ wdT f (splitP p), t.size ≤ 320 := fun t ht => by
    obtain ⟨q, hq, rfl⟩ := List.mem_map.1 ht
    rw [bs_size]
    exact treeT_le (hs.1 q hq).1 (hs.1 q hq).2.1 (by have := (hs.1 q hq).2.2 h2; omega) hf8
  refine ⟨hw, ?_⟩
  have h1 := join_le ((wdT f (splitP p)).map (·.data.toList)) 32 320 (fun l hl => by
    obtain ⟨t, ht, rfl⟩ := List.mem_map.1 hl
    have := hw t ht
    rwa [← ByteArray.size_data, ← Array.length_toList] at this)
  have h3 : (splitP p).length ≤ 8 := by rw [hs.2.1]; exact (permB_true hs.2.2.1).1
  have h4 : (wdT f (splitP p)).length = (splitP p).length := by simp [wdT]
  rw [List.length_map, h4] at h1
  omega
set_option maxHeartbeats 2000000 in
theorem treeText_rec (f : Nat) : f ≤ 8 → ∀ (A : Option Addr) (c : Nat) (p : List Int) (w : World), In w A c p → permB p = true → p ≠ [] → p.length ≤ f →
    Calls Tryz.prog 38 #[.slice A p.length c] w (Rb w (.string (bs (treeT f p)))) := by
  induction f with
  | zero => intro _ A c p w h hp h0 hf; exact absurd (List.eq_nil_of_length_eq_zero (by omega)) h0
  | succ f ih =>
    intro hf8 A c p w h hp h0 hf
    obtain ⟨i0, hi, hz0, hz1, hz2⟩ := info_parts infoS
    have IH := Lib.hid (ih (by omega))
    clear ih
    have hl := len_pos h0
    by_cases h1 : p.length = 1
    · have HV := Lib.hid (treeT_one f h1)
      have d0 : ((p.length : Int) == 1) = true := by rw [h1]; rfl
      clear h1
      go_enter Tryz.func38, Tryz.ntmps38
      go_wp2_with fail
      go_ret
      exact ⟨by rw [HV.out]; rfl, Below.refl _ _⟩
    · have d0 : ((p.length : Int) == 1) = false := by rw [beq_eq_false_iff_ne]; omega
      have h2 : 2 ≤ p.length := by omega
      have HV := Lib.hid (treeT_many f h2)
      have HW := Lib.hid (words_le (f := f) hp h2 hf (by omega))
      have HS := Lib.hid (split_impl A c p w h hp h0)
      have HP := Lib.hid (fun (rs : List Row) hX => @parts_size p rs hp h0 hX)
      have HQ := Lib.hid (fun (rs : List Row) (k : Nat) hX hk => @part_at p rs k hp h0 hX hk)
      have HK := Lib.hid (And.intro (two_le_parts hp h2) (show (splitP p).length ≤ 8 by have hs := parts_of hp h0; rw [hs.2.1]; exact (permB_true hs.2.2.1).1))
      have hRl : (splitR p).length ≤ 8 := (permB_true (parts_of hp h0).2.2.1).1
      clear hp h0 h1
      obtain ⟨R, hR⟩ : ∃ R, R = splitR p := ⟨_, rfl⟩
      rw [← hR] at HV HS hRl
      clear hR
      go_enter Tryz.func38, Tryz.ntmps38
      go_wp2_with fail
      (with_reducible refine HS.out.mono ?_)
      rintro e w9 ⟨RA, rc, PA, pc, rs, rfl, hX, hO, hb⟩
      obtain ⟨OB, hOB⟩ : ∃ o, o = Obj.cells #[Value.slice RA R.length rc, Value.slice PA rs.length pc] 28 := ⟨_, rfl⟩
      obtain ⟨wa, hwa⟩ : ∃ wa, wa = (w9.alloc OB).alloc (.cells #[] 9) := ⟨_, rfl⟩
      have hb9 : Below w9.heap.size w9 wa := by rw [hwa]; exact ((Below.refl w9.heap.size w9).alloc (Nat.le_refl _) OB).alloc (by simp) _
      have hxa : wa.heap.size = w9.heap.size + 2 := by rw [hwa]; simp
      have oba : wa.heap[w9.heap.size]? = some (Obj.cells #[Value.slice RA R.length rc, Value.slice PA rs.length pc] 28) := by rw [hwa, ← hOB]; exact obj_alloc (obj_new w9 OB) _
      have own0 : wa.ownsRow (w9.heap.size + 1) 9 1 (.slice (some ⟨w9.heap.size + 1, 0, none⟩) 0 0) 0 ((wdT f ((splitP p).take 0)).map Value.string) := by
        have h1 := (show ((w9.alloc OB).alloc (.cells #[] 9)).ownsRow (w9.heap.size + 1) 9 1 (.slice (some ⟨(w9.alloc OB).heap.size, 0, none⟩) 0 0) 0 [] from World.ownsRow_lit _ #[] 0 (by simp) (by unfold maxLen; omega) rfl)
        rw [hwa]
        rw [World.size_alloc] at h1
        exact h1
      have hin : InL w9 PA pc rs := (hO.sub (List.sublist_cons_self _ _)).read.toL (HP.out rs hX) (Nat.le_refl _)
      have hrt : In w9 RA rc R := hO.read.mem (r := ⟨RA, rc, R⟩) (by simp) (by show R.length ≤ 1048576; omega) (Nat.le_refl _)
      have HB9 := Lib.hid hb9
      have hbW := Lib.hid (hb.trans (hb9.mono hb.size))
      have HX := Lib.hid hX
      have hrl := hin.len
      have hrs : rs.length = (splitP p).length := by rw [← hX, List.length_map]
      have hr2 : 2 ≤ rs.length := by have := HK.out.1; omega
      have hr8 : rs.length ≤ 8 := by have := HK.out.2; omega
      have HRS := Lib.hid hrs
      have hws : w.heap.size ≤ w9.heap.size := hb.size
      have hwa2 := hwa.symm
      clear hX hO HS hb hb9 hwa hrs
      subst hOB
      have e5 : wa.cell? ⟨w9.heap.size, 1, none⟩ = some (Value.slice PA rs.length pc) := (obj_cell oba).trans rfl
      go_wp2_with fail
      go_loopw [4, 16] (fun v i wr => ∃ (k : Nat) (A1 : Option Addr) (c1 : Nat), k ≤ rs.length ∧ i = .int .i64 k ∧ v = .slice A1 k c1 ∧ wr.ownsRow (w9.heap.size + 1) 9 1 (.slice A1 k c1) k ((wdT f ((splitP p).take k)).map Value.string) ∧ Below (w9.heap.size + 1) wa wr) (fun _ i _ => rs.length - (intOf i).toNat)
      case atStart => exact ⟨0, _, _, Nat.zero_le _, rfl, rfl, own0, Below.refl _ _⟩
      case round =>
        clear own0 e5
        obtain ⟨k, A1, c1, hk, rfl, rfl, own1, hb⟩ := hrel
        have hb9r := HB9.out.trans (hb.mono (Nat.le_succ _))
        have hsz := hb.size
        have hbx := hbW.out.trans (hb.mono (by omega))
        rcases Nat.lt_or_ge k rs.length with hlt | hge
        · have i1 := hin.next hb9r
          obtain ⟨hq, hq0, hql, hks, hqe⟩ := HQ.out rs k HX.out hlt
          have HM := Lib.hid (wdT_succ f (splitP p) k hks)
          rw [hqe] at HM
          obtain ⟨b', off, rfl, _, hc⟩ := i1.read.at (by omega)
          have g1 := hc k hlt
          have hrow := i1.row (List.getElem_mem hlt)
          have hql := hql h2
          obtain ⟨R0, hR⟩ : ∃ R : Row, R = rs[k] := ⟨_, rfl⟩
          rw [← hR] at g1 hrow hq hq0 hql HM
          clear hc hR hqe
          obtain ⟨A2, c2, q⟩ := R0
          replace g1 : wr.cell? ⟨b', off + k, none⟩ = some (Value.slice A2 q.length c2) := g1
          replace HM : Hid (wdT f ((splitP p).take (k + 1)) = wdT f ((splitP p).take k) ++ [bs (treeT f q)]) := HM
          have hql : q.length < p.length := hql
          have HC := Lib.hid (IH.out A2 c2 q wr hrow hq hq0 (by omega))
          clear hq hq0 hks hrow i1
          go_wp2_with fail
          (with_reducible refine HC.out.mono ?_)
          rintro e w3 ⟨rfl, hb3⟩
          have own3 := own_below own1 hb3
          have hs3 := hb3.size
          have hb9s : w9.heap.size + 1 ≤ w3.heap.size := by omega
          have hb4 := hb.trans (hb3.mono (by omega))
          clear own1 hb3
          go_wp2_with (at_builtin; refine wpList_append_own _ rfl _ _ 49 rfl (w9.heap.size + 1) 9 i0 (.string ⟨#[]⟩) 1 16 Tryz.underlying49 hi hz0 hz1 hz2 rfl (by decide) _ _ _ rfl (World.ownsRow.alloc own3 _) ⟨w3.heap.size, 0, none⟩ 1 1 [.string (bs (treeT f q))] rfl rfl (cell_one_at _ _ (by simp)) (by intro u hu; simp at hu; subst hu; rfl) (by unfold maxLen; omega) (by omega) (by simp; omega) ?_; intro v7 w7 hown7 hgrow7 _)
          have own5 : w7.ownsRow (w9.heap.size + 1) 9 1 v7 (k + 1) ((wdT f ((splitP p).take (k + 1))).map Value.string) := by rw [HM.out]; simpa using hown7
          have hb5 := (hb4.alloc (by omega) _).grown hgrow7 (by simp; omega) (fun g hg => (own3.lt g hg).1)
          obtain ⟨A5, c5, rfl, _, _⟩ := own_shape own5
          have K := Lib.hid (And.intro own5 hb5)
          clear hown7 hgrow7 own3 hb5 own5 hb hb9r hbx hb4
          go_wp2_with fail
          go_roundw
          case rel => exact ⟨k + 1, A5, c5, by omega, by go_num, rfl, K.out.1, K.out.2⟩
          case measure => simp [intOf]; omega
        · obtain rfl : k = rs.length := by omega
          have hft : (splitP p).take rs.length = splitP p := by rw [HRS.out, List.take_length]
          rw [hft] at own1
          have hwl : (wdT f (splitP p)).length = rs.length := by rw [HRS.out]; simp [wdT]
          have hrd : Rd Value.string wr wr.heap.size A1 (wdT f (splitP p)) := Rd.of_own (e := 9) (c := c1) (by rw [hwl]; exact own1)
          have hcp := (own_caps own1).1
          have ob2 := obj_below oba hb (Nat.lt_succ_self _)
          have e0 : wr.cell? ⟨w9.heap.size, 0, none⟩ = some (Value.slice RA R.length rc) := (obj_cell ob2).trans rfl
          have HPT := Lib.hid (permText_impl RA rc R wr (hrt.next hb9r))
          have hp9 := ptext_le R
          rw [Array.length_toList, ByteArray.size_data] at hp9
          have h40 : (⟨#[40]⟩ : ByteArray).size = 1 := rfl
          have h41 : (⟨#[41]⟩ : ByteArray).size = 1 := rfl
          have hjl := HW.out.2
          obtain ⟨J, hJ⟩ : ∃ J, J = Lib.join ((wdT f (splitP p)).map (·.data.toList)) [32] := ⟨_, rfl⟩
          have hJs : (⟨J.toArray⟩ : ByteArray).size = J.length := by simp [ByteArray.size]
          rw [← hJ] at hjl
          have HV2 := Lib.hid (show ((ptext R ++ (⟨#[40]⟩ : ByteArray)) ++ (⟨J.toArray⟩ : ByteArray)) ++ (⟨#[41]⟩ : ByteArray) = bs (treeT (f + 1) p) by rw [HV.out, ← hJ, ← tt_join])
          have hbb := hb.size
          clear hft own1 ob2
          go_wp2_with fail
          (with_reducible refine HPT.out.mono ?_)
          rintro e w3 ⟨rfl, hb3⟩
          have hrd3 := hrd.below hb3
          obtain ⟨bt, ot, rfl, hbt, hct⟩ := hrd3 (by omega)
          have ct := Tryz.strings_Join bt ot c1 (wdT f (splitP p)) ⟨#[32]⟩ w3 (fun j x hx => by
            obtain ⟨hj, rfl⟩ := List.getElem?_eq_some_iff.1 hx
            exact hct j hj) (by have := hb3.size; omega) (by omega) (by omega) (by show (Lib.join _ [32]).length ≤ _; rw [← hJ]; omega)
          have ct : Calls Tryz.prog _ _ w3 fun e w' => e = .returned (.string ⟨(Lib.join ((wdT f (splitP p)).map (·.data.toList)) [32]).toArray⟩) ∧ Below w3.heap.size w3 w' := ct
          rw [hwl, ← hJ] at ct
          have CT := Lib.hid ct
          clear ct hct hrd hrd3 hwl hJ
          go_wp2_with fail
          (with_reducible refine CT.out.mono ?_)
          rintro e w4 ⟨rfl, hb4⟩
          have hbz := (hbx.trans (hb3.mono hbx.size))
          have hbz := hbz.trans (hb4.mono hbz.size)
          go_wp2_with fail
          go_ret
          exact ⟨by rw [← HV2.out]; rfl, hbz⟩
end Go.Proofs.YtldknpjeegdbmaaGreat

/- TreeText: the outer function of the program; the reference. Written by gen/gentt3.py. -/
namespace Go.Proofs.YtldknpjeegdbmaaGreat
set_option maxRecDepth 100000
open Go Go.RowKit

def ttV (p : List Int) : ByteArray := if spOk p = true then bs (treeT 8 p) else bs []
theorem ttV_ok {p : List Int} (h : spOk p = true) : ttV p = bs (treeT 8 p) := by unfold ttV; rw [if_pos h]
theorem ttV_no {p : List Int} (h : spOk p = false) : ttV p = bs [] := by unfold ttV; rw [h]; rfl
theorem treeText_impl (A : Option Addr) (c : Nat) (p : List Int) (w : World) (h : In w A c p) :
    Calls Tryz.prog 12 #[.slice A p.length c] w (Rb w (.string (ttV p))) := by
  rcases hp : permB p with _ | _
  · have HP := Lib.hid hp
    have HV := Lib.hid (ttV_no (spOk_bad hp))
    clear hp
    go_enter Tryz.func12, Tryz.ntmps12
    go_wp2_with fail
    (with_reducible refine (isPerm_ib A c p w false h HP.out).mono ?_)
    rintro e w1 ⟨rfl, hb⟩
    go_wp2_with fail
    go_ret
    exact ⟨by rw [HV.out]; rfl, hb⟩
  · have HP := Lib.hid hp
    by_cases hl : p.length = 0
    · have HV := Lib.hid (ttV_no (spOk_nil hl))
      have d0 : ((p.length : Int) == 0) = true := by rw [hl]; rfl
      clear hl hp
      go_enter Tryz.func12, Tryz.ntmps12
      go_wp2_with fail
      (with_reducible refine (isPerm_ib A c p w true h HP.out).mono ?_)
      rintro e w1 ⟨rfl, hb⟩
      go_wp2_with fail
      go_ret
      exact ⟨by rw [HV.out]; rfl, hb⟩
    · have hne : p ≠ [] := fun e => hl (by rw [e]; rfl)
      have HV := Lib.hid (ttV_ok (spOk_of hp hne))
      have h8 := (permB_true hp).1
      have d0 : ((p.length : Int) == 0) = false := by rw [beq_eq_false_iff_ne]; omega
      clear hl hp
      go_enter Tryz.func12, Tryz.ntmps12
      go_wp2_with fail
      (with_reducible refine (isPerm_ib A c p w true h HP.out).mono ?_)
      rintro e w1 ⟨rfl, hb⟩
      have HC := Lib.hid (treeText_rec 8 (by omega) A c p w1 (h.next hb) HP.out hne h8)
      clear hne
      go_wp2_with fail
      (with_reducible refine HC.out.mono ?_)
      rintro e w2 ⟨rfl, hb2⟩
      go_wp2_with fail
      go_ret
      exact ⟨by rw [HV.out]; rfl, hb.trans (hb2.mono hb.size)⟩
set_option maxHeartbeats 2000000 in
theorem treeText_bad (A : Option Addr) (c : Nat) (p : List Int) (w : World) (h : In w A c p) (hp : spOk p = false) :
    Calls Tryz.prog 13 #[.slice A p.length c] w (Rb w (.string (bs []))) := by
  have HS := Lib.hid (splitPerm_spec A c p w h)
  rw [hp] at HS
  clear hp
  go_enter Tryz.func13, Tryz.ntmps13
  go_wp2_with fail
  (with_reducible refine HS.out.mono ?_)
  rintro e w9 ⟨RA, rc, PA, pc, rs, rfl, hX, hO, hb⟩
  clear hX hO
  have hb2 := hb.alloc hb.size (Obj.cells #[Value.slice RA (spR p).length rc, Value.slice PA rs.length pc] 28)
  go_wp2_with fail
  go_ret
  exact ⟨rfl, hb2⟩
set_option maxHeartbeats 2000000 in
theorem treeText_srec (f : Nat) : f ≤ 8 → ∀ (A : Option Addr) (c : Nat) (p : List Int) (w : World), In w A c p → permB p = true → p ≠ [] → p.length ≤ f →
    Calls Tryz.prog 13 #[.slice A p.length c] w (Rb w (.string (bs (treeT f p)))) := by
  induction f with
  | zero => intro _ A c p w h hp h0 hf; exact absurd (List.eq_nil_of_length_eq_zero (by omega)) h0
  | succ f ih =>
    intro hf8 A c p w h hp h0 hf
    obtain ⟨i0, hi, hz0, hz1, hz2⟩ := info_parts infoS
    have IH := Lib.hid (ih (by omega))
    clear ih
    have hl := len_pos h0
    obtain ⟨e1, e2, e3⟩ := sp_good hp h0
    have HS := Lib.hid (splitPerm_spec A c p w h)
    rw [e1, e2, e3] at HS
    clear e1 e2 e3
    by_cases h1 : p.length = 1
    · have HV := Lib.hid (treeT_one f h1)
      have d0 : ((p.length : Int) == 1) = true := by rw [h1]; rfl
      obtain ⟨R, hR⟩ : ∃ R, R = splitR p := ⟨_, rfl⟩
      rw [← hR] at HS
      clear h1 hR
      go_enter Tryz.func13, Tryz.ntmps13
      go_wp2_with fail
      (with_reducible refine HS.out.mono ?_)
      rintro e w9 ⟨RA, rc, PA, pc, rs, rfl, hX, hO, hb⟩
      clear hX hO
      have hb2 := hb.alloc hb.size (Obj.cells #[Value.slice RA R.length rc, Value.slice PA rs.length pc] 28)
      go_wp2_with fail
      go_ret
      exact ⟨by rw [HV.out]; rfl, hb2⟩
    · have d0 : ((p.length : Int) == 1) = false := by rw [beq_eq_false_iff_ne]; omega
      have h2 : 2 ≤ p.length := by omega
      have HV := Lib.hid (treeT_many f h2)
      have HW := Lib.hid (words_le (f := f) hp h2 hf (by omega))
      have HP := Lib.hid (fun (rs : List Row) hX => @parts_size p rs hp h0 hX)
      have HQ := Lib.hid (fun (rs : List Row) (k : Nat) hX hk => @part_at p rs k hp h0 hX hk)
      have HK := Lib.hid (And.intro (two_le_parts hp h2) (show (splitP p).length ≤ 8 by have hs := parts_of hp h0; rw [hs.2.1]; exact (permB_true hs.2.2.1).1))
      have hRl : (splitR p).length ≤ 8 := (permB_true (parts_of hp h0).2.2.1).1
      clear hp h0 h1
      obtain ⟨R, hR⟩ : ∃ R, R = splitR p := ⟨_, rfl⟩
      rw [← hR] at HV HS hRl
      clear hR
      go_enter Tryz.func13, Tryz.ntmps13
      go_wp2_with fail
      (with_reducible refine HS.out.mono ?_)
      rintro e w9 ⟨RA, rc, PA, pc, rs, rfl, hX, hO, hb⟩
      obtain ⟨OB, hOB⟩ : ∃ o, o = Obj.cells #[Value.slice RA R.length rc, Value.slice PA rs.length pc] 28 := ⟨_, rfl⟩
      obtain ⟨wa, hwa⟩ : ∃ wa, wa = (w9.alloc OB).alloc (.cells #[] 9) := ⟨_, rfl⟩
      have hb9 : Below w9.heap.size w9 wa := by rw [hwa]; exact ((Below.refl w9.heap.size w9).alloc (Nat.le_refl _) OB).alloc (by simp) _
      have hxa : wa.heap.size = w9.heap.size + 2 := by rw [hwa]; simp
      have oba : wa.heap[w9.heap.size]? = some (Obj.cells #[Value.slice RA R.length rc, Value.slice PA rs.length pc] 28) := by rw [hwa, ← hOB]; exact obj_alloc (obj_new w9 OB) _
      have own0 : wa.ownsRow (w9.heap.size + 1) 9 1 (.slice (some ⟨w9.heap.size + 1, 0, none⟩) 0 0) 0 ((wdT f ((splitP p).take 0)).map Value.string) := by
        have h1 := (show ((w9.alloc OB).alloc (.cells #[] 9)).ownsRow (w9.heap.size + 1) 9 1 (.slice (some ⟨(w9.alloc OB).heap.size, 0, none⟩) 0 0) 0 [] from World.ownsRow_lit _ #[] 0 (by simp) (by unfold maxLen; omega) rfl)
        rw [hwa]
        rw [World.size_alloc] at h1
        exact h1
      have hin : InL w9 PA pc rs := (hO.sub (List.sublist_cons_self _ _)).read.toL (HP.out rs hX) (Nat.le_refl _)
      have hrt : In w9 RA rc R := hO.read.mem (r := ⟨RA, rc, R⟩) (by simp) (by show R.length ≤ 1048576; omega) (Nat.le_refl _)
      have HB9 := Lib.hid hb9
      have hbW := Lib.hid (hb.trans (hb9.mono hb.size))
      have HX := Lib.hid hX
      have hrl := hin.len
      have hrs : rs.length = (splitP p).length := by rw [← hX, List.length_map]
      have hr2 : 2 ≤ rs.length := by have := HK.out.1; omega
      have hr8 : rs.length ≤ 8 := by have := HK.out.2; omega
      have HRS := Lib.hid hrs
      have hws : w.heap.size ≤ w9.heap.size := hb.size
      have hwa2 := hwa.symm
      clear hX hO HS hb hb9 hwa hrs
      subst hOB
      have e5 : wa.cell? ⟨w9.heap.size, 1, none⟩ = some (Value.slice PA rs.length pc) := (obj_cell oba).trans rfl
      go_wp2_with fail
      go_loopw [5, 6] (fun v i wr => ∃ (k : Nat) (A1 : Option Addr) (c1 : Nat), k ≤ rs.length ∧ i = .int .i64 k ∧ v = .slice A1 k c1 ∧ wr.ownsRow (w9.heap.size + 1) 9 1 (.slice A1 k c1) k ((wdT f ((splitP p).take k)).map Value.string) ∧ Below (w9.heap.size + 1) wa wr) (fun _ i _ => rs.length - (intOf i).toNat)
      case atStart => exact ⟨0, _, _, Nat.zero_le _, rfl, rfl, own0, Below.refl _ _⟩
      case round =>
        clear own0 e5
        obtain ⟨k, A1, c1, hk, rfl, rfl, own1, hb⟩ := hrel
        have hb9r := HB9.out.trans (hb.mono (Nat.le_succ _))
        have hsz := hb.size
        have hbx := hbW.out.trans (hb.mono (by omega))
        have ob2 := obj_below oba hb (Nat.lt_succ_self _)
        have e0 : wr.cell? ⟨w9.heap.size, 0, none⟩ = some (Value.slice RA R.length rc) := (obj_cell ob2).trans rfl
        have e5 : wr.cell? ⟨w9.heap.size, 1, none⟩ = some (Value.slice PA rs.length pc) := (obj_cell ob2).trans rfl
        rcases Nat.lt_or_ge k rs.length with hlt | hge
        · have i1 := hin.next hb9r
          obtain ⟨hq, hq0, hql, hks, hqe⟩ := HQ.out rs k HX.out hlt
          have HM := Lib.hid (wdT_succ f (splitP p) k hks)
          rw [hqe] at HM
          obtain ⟨b', off, rfl, _, hc⟩ := i1.read.at (by omega)
          have g1 := hc k hlt
          have hrow := i1.row (List.getElem_mem hlt)
          have hql := hql h2
          obtain ⟨R0, hR⟩ : ∃ R : Row, R = rs[k] := ⟨_, rfl⟩
          rw [← hR] at g1 hrow hq hq0 hql HM
          clear hc hR hqe
          obtain ⟨A2, c2, q⟩ := R0
          replace g1 : wr.cell? ⟨b', off + k, none⟩ = some (Value.slice A2 q.length c2) := g1
          replace HM : Hid (wdT f ((splitP p).take (k + 1)) = wdT f ((splitP p).take k) ++ [bs (treeT f q)]) := HM
          have hql : q.length < p.length := hql
          have HC := Lib.hid (IH.out A2 c2 q wr hrow hq hq0 (by omega))
          clear hq hq0 hks hrow i1
          go_wp2_with fail
          (with_reducible refine HC.out.mono ?_)
          rintro e w3 ⟨rfl, hb3⟩
          have own3 := own_below own1 hb3
          have hs3 := hb3.size
          have hb9s : w9.heap.size + 1 ≤ w3.heap.size := by omega
          have hb4 := hb.trans (hb3.mono (by omega))
          clear own1 hb3
          go_wp2_with (at_builtin; refine wpList_append_own _ rfl _ _ 49 rfl (w9.heap.size + 1) 9 i0 (.string ⟨#[]⟩) 1 16 Tryz.underlying49 hi hz0 hz1 hz2 rfl (by decide) _ _ _ rfl (World.ownsRow.alloc own3 _) ⟨w3.heap.size, 0, none⟩ 1 1 [.string (bs (treeT f q))] rfl rfl (cell_one_at _ _ (by simp)) (by intro u hu; simp at hu; subst hu; rfl) (by unfold maxLen; omega) (by omega) (by simp; omega) ?_; intro v7 w7 hown7 hgrow7 _)
          have own5 : w7.ownsRow (w9.heap.size + 1) 9 1 v7 (k + 1) ((wdT f ((splitP p).take (k + 1))).map Value.string) := by rw [HM.out]; simpa using hown7
          have hb5 := (hb4.alloc (by omega) _).grown hgrow7 (by simp; omega) (fun g hg => (own3.lt g hg).1)
          obtain ⟨A5, c5, rfl, _, _⟩ := own_shape own5
          have K := Lib.hid (And.intro own5 hb5)
          clear hown7 hgrow7 own3 hb5 own5 hb hb9r hbx hb4
          go_wp2_with fail
          go_roundw
          case rel => exact ⟨k + 1, A5, c5, by omega, by go_num, rfl, K.out.1, K.out.2⟩
          case measure => simp [intOf]; omega
        · obtain rfl : k = rs.length := by omega
          have hft : (splitP p).take rs.length = splitP p := by rw [HRS.out, List.take_length]
          rw [hft] at own1
          have hwl : (wdT f (splitP p)).length = rs.length := by rw [HRS.out]; simp [wdT]
          have hrd : Rd Value.string wr wr.heap.size A1 (wdT f (splitP p)) := Rd.of_own (e := 9) (c := c1) (by rw [hwl]; exact own1)
          have hcp := (own_caps own1).1
          have HPT := Lib.hid (permText_spec RA rc R wr (hrt.next hb9r))
          have hp9 := ptext_le R
          rw [Array.length_toList, ByteArray.size_data] at hp9
          have h40 : (⟨#[40]⟩ : ByteArray).size = 1 := rfl
          have h41 : (⟨#[41]⟩ : ByteArray).size = 1 := rfl
          have hjl := HW.out.2
          obtain ⟨J, hJ⟩ : ∃ J, J = Lib.join ((wdT f (splitP p)).map (·.data.toList)) [32] := ⟨_, rfl⟩
          have hJs : (⟨J.toArray⟩ : ByteArray).size = J.length := by simp [ByteArray.size]
          rw [← hJ] at hjl
          have HV2 := Lib.hid (show ((ptext R ++ (⟨#[40]⟩ : ByteArray)) ++ (⟨J.toArray⟩ : ByteArray)) ++ (⟨#[41]⟩ : ByteArray) = bs (treeT (f + 1) p) by rw [HV.out, ← hJ, ← tt_join])
          have hbb := hb.size
          clear hft own1 ob2
          go_wp2_with fail
          (with_reducible refine HPT.out.mono ?_)
          rintro e w3 ⟨rfl, hb3⟩
          have hrd3 := hrd.below hb3
          have hw4 := HW.out.1
          have ct := join_spec A1 c1 (wdT f (splitP p)) w3 (by omega) (fun t ht => by have := hw4 t ht; omega) (hrd3.more hb3.size)
          clear hw4
          rw [hwl, ← hJ] at ct
          have CT := Lib.hid ct
          clear ct hrd hrd3 hwl hJ
          go_wp2_with fail
          (with_reducible refine CT.out.mono ?_)
          rintro e w4 ⟨rfl, hb4⟩
          have hbz := (hbx.trans (hb3.mono hbx.size))
          have hbz := hbz.trans (hb4.mono hbz.size)
          go_wp2_with fail
          go_ret
          exact ⟨by rw [← HV2.out]; rfl, hbz⟩
theorem treeText_spec (A : Option Addr) (c : Nat) (p : List Int) (w : World) (h : In w A c p) :
    Calls Tryz.prog 13 #[.slice A p.length c] w (Rb w (.string (ttV p))) := by
  rcases hp : spOk p with _ | _
  · rw [ttV_no hp]; exact treeText_bad A c p w h hp
  · rw [ttV_ok hp]
    obtain ⟨h1, h2⟩ := spOk_true hp
    exact treeText_srec 8 (by omega) A c p w h h1 h2 (permB_true h1).1
end Go.Proofs.YtldknpjeegdbmaaGreat
