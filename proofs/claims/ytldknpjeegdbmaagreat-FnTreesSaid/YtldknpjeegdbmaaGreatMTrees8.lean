/- Several texts in one, each with its own head: TS4, TS5, TS6, TS7. No program of ours. -/
import Derived.Test.YtldknpjeegdbmaaGreatMTrees7
/- The split of the reference: l6Sum. -/
namespace Go.Proofs.YtldknpjeegdbmaaGreat
set_option maxRecDepth 100000
open Go Go.RowKit

/-- A root and parts of the call's own. -/
def RetS (w : World) (r : List Int) (L : List (List Int)) (e : Ending) (w' : World) : Prop :=
  ∃ A c B k rs, e = .returned (.agg #[.slice A r.length c, .slice B rs.length k]) ∧ rs.map Row.xs = L ∧ Own w' w.heap.size w'.heap.size (⟨A, c, r⟩ :: rs) [⟨B, k, rs.map Row.v⟩] ∧ Below w.heap.size w w'
theorem ret_cell {w W : World} {A B : Option Addr} {c k n m : Nat} {r : List Int} {rs : List Row} {v0 v1 : Value} {T : TypeId} (ob : W.heap[w.heap.size]? = some (Obj.cells #[v0, v1] T (0, 0)))
    (hO : Own W (w.heap.size + 1) W.heap.size (⟨A, c, r⟩ :: rs) [⟨B, k, rs.map Row.v⟩]) (hb : Below w.heap.size w W) (_ : r.length = n) (_ : rs.length = m) :
    ((W.setCell ⟨w.heap.size, 0, none⟩ (.slice A n c)).setCell ⟨w.heap.size, 1, none⟩ (.slice B m k)).cell? ⟨w.heap.size, 0, none⟩ = some (.slice A n c) ∧
    ((W.setCell ⟨w.heap.size, 0, none⟩ (.slice A n c)).setCell ⟨w.heap.size, 1, none⟩ (.slice B m k)).cell? ⟨w.heap.size, 1, none⟩ = some (.slice B m k) ∧
    Own ((W.setCell ⟨w.heap.size, 0, none⟩ (.slice A n c)).setCell ⟨w.heap.size, 1, none⟩ (.slice B m k)) w.heap.size ((W.setCell ⟨w.heap.size, 0, none⟩ (.slice A n c)).setCell ⟨w.heap.size, 1, none⟩ (.slice B m k)).heap.size (⟨A, c, r⟩ :: rs) [⟨B, k, rs.map Row.v⟩] ∧
    Below w.heap.size w ((W.setCell ⟨w.heap.size, 0, none⟩ (.slice A n c)).setCell ⟨w.heap.size, 1, none⟩ (.slice B m k)) := by
  have o2 := obj_set (i := 1) (obj_set (i := 0) ob (Value.slice A n c)) (Value.slice B m k)
  have hsp : Span w.heap.size (w.heap.size + 1) W ((W.setCell ⟨w.heap.size, 0, none⟩ (.slice A n c)).setCell ⟨w.heap.size, 1, none⟩ (.slice B m k)) :=
    (Span.set (p := ⟨w.heap.size, 0, none⟩) (by simp) (by simp) _).trans (Span.set (p := ⟨w.heap.size, 1, none⟩) (by simp) (by simp) _)
  refine ⟨(obj_cell (i := 0) o2).trans rfl, (obj_cell (i := 1) o2).trans rfl, ?_, (hb.setCell (p := ⟨w.heap.size, 0, none⟩) (by simp) _).setCell (p := ⟨w.heap.size, 1, none⟩) (by simp) _⟩
  exact (hO.span hsp (.inr (Nat.le_refl _))).wider (by omega) hsp.size
theorem InL.tail {w : World} {A : Option Addr} {c : Nat} {r0 : Row} {t : List Row} (h : InL w A c (r0 :: t)) : InL w (cutA A c 1) (c - 1) t := by
  have hl := h.len
  have hc := h.read.ocap _ (List.mem_singleton.2 rfl)
  have hr := h.read.ord _ (List.mem_singleton.2 rfl)
  simp only [List.length_map, List.length_cons] at hc
  refine ⟨?_, fun r hr => h.read.cap r (List.mem_cons_of_mem _ hr), fun r hr => h.read.rd r (List.mem_cons_of_mem _ hr), fun o ho => ?_, fun o ho => ?_⟩
  · simp only [sizeR, List.length_cons, List.map_cons, List.sum_cons] at hl ⊢; omega
  · obtain rfl := List.mem_singleton.1 ho
    simp only [List.length_map]; omega
  · obtain rfl := List.mem_singleton.1 ho
    exact hr.cut (k := 1) (c := c) (by simp) (by simp; omega)
theorem sizeLL (w : World) : (sizeOf (Tryz.prog.elem 26)).run Tryz.prog w = .ok 1 w := by kernel_rfl
set_option maxHeartbeats 4000000 in
theorem l6Sum_any (A : Option Addr) (c : Nat) (r0 : Row) (t : List Row) (b : Bool) (w : World) (h : InL w A c (r0 :: t)) :
    Calls Tryz.prog 63 #[.slice A (t.length + 1) c, .bool b] w (RetS w (rootB b) [r0.xs, jpG b (t.map Row.xs)]) := by
  obtain ⟨i0, hi, hz0, hz1, hz2⟩ := info_parts infoI
  have hb0 : Below w.heap.size w (w.alloc (Obj.cells #[Value.slice none 0 0, Value.slice none 0 0] 28)) := (Below.refl _ _).alloc (Nat.le_refl _) _
  have ob := obj_new w (Obj.cells #[Value.slice none 0 0, Value.slice none 0 0] 28)
  have hz : (w.alloc (Obj.cells #[Value.slice none 0 0, Value.slice none 0 0] 28)).heap.size = w.heap.size + 1 := by simp
  have hlen := h.len
  simp only [List.length_cons] at hlen
  have hcap := h.read.ocap _ (List.mem_singleton.2 rfl)
  simp only [List.length_map, List.length_cons] at hcap
  go_enter Tryz.func63, Tryz.ntmps63
  have hsl := fun w => run_cut (P := Tryz.prog) (t := 26) Tryz.underlying26 sizeLL A (t.length + 1) c 1 1 rfl (by omega) w
  have HC := Lib.hid (joinParts_spec (cutA A c 1) (c - 1) t b _ (h.next hb0).tail)
  go_wp2_with fail
  generalize (w.alloc (Obj.cells #[Value.slice none 0 0, Value.slice none 0 0] 28)) = w0 at hb0 ob hz HC ⊢
  (with_reducible refine HC.out.mono ?_)
  rintro e w1 ⟨A1, c1, rfl, _, _, ho1, hb1⟩
  have ob := obj_below ob hb1 (obj_lt ob)
  have hbw := hb0.trans (hb1.mono hb0.size)
  have hs1 := hb1.size
  obtain ⟨s, hs⟩ : ∃ s, s = jpG b (t.map Row.xs) := ⟨_, rfl⟩
  rw [← hs] at ho1
  have HS := Lib.hid hs
  have hN1 : Own w1 w0.heap.size w1.heap.size [⟨A1, c1, s⟩] [] := Own.one ho1 (Nat.le_refl w1.heap.size)
  rw [← hs]
  clear HC ho1 hb1 hb0 hs hsl
  rcases b with _ | _
  · obtain ⟨wa, hwa⟩ : ∃ wa, wa = w1.alloc (Obj.cells #[Value.int .i64 1, Value.int .i64 2] 3) := ⟨_, rfl⟩
    have hbA : Below w1.heap.size w1 wa := by rw [hwa]; exact (Below.refl _ _).alloc (Nat.le_refl _) _
    have hsA := hbA.size
    have obA := obj_below ob hbA (obj_lt ob)
    have hRt : wa.ownsRow w1.heap.size 3 1 (Row.v ⟨some ⟨w1.heap.size, 0, none⟩, 2, rootB false⟩) (rootB false).length ((rootB false).map (Value.int .i64)) := own_lit2 (by rw [hwa]; exact obj_new w1 _) (Nat.le_refl _)
    have hwa2 := hwa.symm
    clear hwa
    have hN2 := (hN1.below hbA).add (r := ⟨some ⟨w1.heap.size, 0, none⟩, 2, rootB false⟩) hRt hsA (by omega)
    have hbB := hbA.trans ((Below.refl wa.heap.size wa).alloc (Nat.le_refl _) (.cells #[] 3) |>.mono hsA)
    have hbW := hbw.trans (hbB.mono (by omega))
    have obB := obj_alloc obA (.cells #[] 3)
    have hlit : (wa.alloc (.cells #[] 3)).ownsRow wa.heap.size 3 1 (.slice (some ⟨wa.heap.size, 0, none⟩) 0 0) 0 [] := World.ownsRow_lit wa #[] 0 (Nat.le_refl _) (by unfold maxLen; omega) rfl
    have iB := h.next hbW
    have hrd := (iB.row (r := r0) (by simp)).rd
    obtain ⟨bo, oo, rfl, _, hc⟩ := iB.read.at (by simp)
    have cc := hc 0 (by simp)
    have hrl := (iB.row (r := r0) (by simp)).len
    simp only [List.getElem_cons_zero, Nat.add_zero] at cc
    have hwa0 : wa.heap.size ≤ (wa.alloc (.cells #[] 3)).heap.size := by simp
    clear hc
    go_wp2_with ((at_builtin; refine wpList_append_rd _ rfl _ _ 24 rfl (wa.heap.size) 3 i0 (.int .i64 0) 8 Tryz.underlying24 hi hz0 hz1 hz2 rfl _ _ _ rfl hlit _ _ _ _ (r0.xs) rfl rfl hrd (fun _ => rfl) (by unfold maxLen; omega) (by omega) (by first | omega | (simp; done) | (simp; omega)) ?_; intro v2 w2 hown2 hgrow2)
                 obtain ⟨A5, c5, rfl, _, _⟩ := own_shape hown2
                 have hcp : w2.ownsRow wa.heap.size 3 1 (Row.v ⟨A5, c5, r0.xs⟩) r0.xs.length (r0.xs.map (Value.int .i64)) := by simpa [Row.v] using hown2
                 have hs2 := hgrow2.size
                 have hsA2 : wa.heap.size ≤ w2.heap.size := Nat.le_trans hwa0 hs2
                 have hN3 := (((hN2.below ((Below.refl wa.heap.size wa).alloc (Nat.le_refl _) (.cells #[] 3))).by_ hgrow2 (fun g hg => by have hg : some wa.heap.size = some g := hg; injection hg with hg; omega))).add (r := ⟨A5, c5, r0.xs⟩) hcp hsA2 (by omega)
                 have ob2 := (hgrow2.block _ (obj_lt obB) (fun e => by have e : some w.heap.size = some wa.heap.size := e; injection e with e; have := obj_lt obA; omega)).trans obB
                 have hb2 := hbW.grown hgrow2 (by have := hbW.size; exact this) (fun g hg => by have hg : some wa.heap.size = some g := hg; injection hg with hg; omega)
                 obtain ⟨OC, hOC⟩ : ∃ o, o = Obj.cells #[Value.slice A5 r0.xs.length c5, Value.slice A1 s.length c1] 24 := ⟨_, rfl⟩
                 have hbz := hb2.alloc hb2.size OC
                 have obz := obj_alloc ob2 OC
                 have onew := obj_new w2 OC
                 have hNz := hN3.below ((Below.refl w2.heap.size w2).alloc (Nat.le_refl _) OC)
                 have hout : (w2.alloc OC).ownsRow (w.heap.size + 1) 24 1 (.slice (some ⟨w2.heap.size, 0, none⟩) ([(⟨A5, c5, r0.xs⟩ : Row), ⟨A1, c1, s⟩].map Row.v).length 2) ([(⟨A5, c5, r0.xs⟩ : Row), ⟨A1, c1, s⟩].map Row.v).length ([(⟨A5, c5, r0.xs⟩ : Row), ⟨A1, c1, s⟩].map Row.v) := by
                   subst hOC
                   exact ⟨rfl, .inr ⟨w2.heap.size, 2, _, rfl, by omega, onew, Nat.le_refl _, by unfold maxLen; omega, rfl, rfl⟩⟩
                 have hrow : Own (w2.alloc OC) (w.heap.size + 1) (w2.alloc OC).heap.size (⟨some ⟨w1.heap.size, 0, none⟩, 2, rootB false⟩ :: [(⟨A5, c5, r0.xs⟩ : Row), ⟨A1, c1, s⟩]) [⟨some ⟨w2.heap.size, 0, none⟩, 2, [(⟨A5, c5, r0.xs⟩ : Row), ⟨A1, c1, s⟩].map Row.v⟩] := by
                   have hp : Own (w2.alloc OC) w0.heap.size w2.heap.size [(⟨some ⟨w1.heap.size, 0, none⟩, 2, rootB false⟩ : Row), ⟨A5, c5, r0.xs⟩, ⟨A1, c1, s⟩] [] := hNz.perm (by
                     show ([(⟨A1, c1, s⟩ : Row), ⟨some ⟨w1.heap.size, 0, none⟩, 2, rootB false⟩, ⟨A5, c5, r0.xs⟩]).Perm _
                     exact (List.perm_append_comm (l₁ := [(⟨A1, c1, s⟩ : Row)]) (l₂ := [⟨some ⟨w1.heap.size, 0, none⟩, 2, rootB false⟩, ⟨A5, c5, r0.xs⟩])))
                   exact (hp.wider (by omega) (by simp)).with_ hout (Nat.le_refl _)
                 obtain ⟨l0, l1, hOf, hbf⟩ := ret_cell (n := 2) (m := 2) obz hrow hbz rfl rfl
                 have hOF := Lib.hid hOf
                 have hBF := Lib.hid hbf
                 have g0 : (w2.alloc OC).cell? ⟨w.heap.size, 0, none⟩ = some (Value.slice none 0 0) := (obj_cell obz).trans rfl
                 have g1 : (w2.alloc OC).cell? ⟨w.heap.size, 1, none⟩ = some (Value.slice none 0 0) := (obj_cell obz).trans rfl
                 have g2 : (w2.alloc OC).frozen? ⟨w.heap.size, 0, none⟩ = false := obj_frozen obz
                 have g3 : (w2.alloc OC).frozen? ⟨w.heap.size, 1, none⟩ = false := obj_frozen obz
                 subst hOC
                 clear hown2 hgrow2 hcp hN2 hN3 hNz hout hrow hOf hbf onew obz ob2 obB obA hbz hb2 hbW hbB hlit cc hrd iB)
    try simp only [Exit.inBlock, Exit.then]
    refine bodyPost_ret (v := .agg #[.slice (some ⟨w1.heap.size, 0, none⟩) 2 2, .slice (some ⟨w2.heap.size, 0, none⟩) 2 2]) (by simp [results, Tryz.results63, go_sem, l0, l1]) rfl ?_
    exact ⟨_, _, _, _, [⟨A5, c5, r0.xs⟩, ⟨A1, c1, s⟩], rfl, by simp [HS.out], hOF.out, hBF.out⟩
  · obtain ⟨wa, hwa⟩ : ∃ wa, wa = (w1.alloc (Obj.cells #[Value.int .i64 1, Value.int .i64 2] 3)).alloc (Obj.cells #[Value.int .i64 2, Value.int .i64 1] 3) := ⟨_, rfl⟩
    have hbA : Below w1.heap.size w1 wa := by rw [hwa]; exact ((Below.refl _ _).alloc (Nat.le_refl _) _).alloc (by simp) _
    have hsA := hbA.size
    have obA := obj_below ob hbA (obj_lt ob)
    have hRt : wa.ownsRow w1.heap.size 3 1 (Row.v ⟨some ⟨w1.heap.size + 1, 0, none⟩, 2, rootB true⟩) (rootB true).length ((rootB true).map (Value.int .i64)) := own_lit2 (by rw [hwa]; have := obj_new (w1.alloc (Obj.cells #[Value.int .i64 1, Value.int .i64 2] 3)) (Obj.cells #[Value.int .i64 2, Value.int .i64 1] 3); simpa using this) (by omega)
    have hwa2 := hwa.symm
    clear hwa
    have hN2 := (hN1.below hbA).add (r := ⟨some ⟨w1.heap.size + 1, 0, none⟩, 2, rootB true⟩) hRt hsA (by omega)
    have hbB := hbA.trans ((Below.refl wa.heap.size wa).alloc (Nat.le_refl _) (.cells #[] 3) |>.mono hsA)
    have hbW := hbw.trans (hbB.mono (by omega))
    have obB := obj_alloc obA (.cells #[] 3)
    have hlit : (wa.alloc (.cells #[] 3)).ownsRow wa.heap.size 3 1 (.slice (some ⟨wa.heap.size, 0, none⟩) 0 0) 0 [] := World.ownsRow_lit wa #[] 0 (Nat.le_refl _) (by unfold maxLen; omega) rfl
    have iB := h.next hbW
    have hrd := (iB.row (r := r0) (by simp)).rd
    obtain ⟨bo, oo, rfl, _, hc⟩ := iB.read.at (by simp)
    have cc := hc 0 (by simp)
    have hrl := (iB.row (r := r0) (by simp)).len
    simp only [List.getElem_cons_zero, Nat.add_zero] at cc
    have hwa0 : wa.heap.size ≤ (wa.alloc (.cells #[] 3)).heap.size := by simp
    clear hc
    go_wp2_with ((at_builtin; refine wpList_append_rd _ rfl _ _ 24 rfl (wa.heap.size) 3 i0 (.int .i64 0) 8 Tryz.underlying24 hi hz0 hz1 hz2 rfl _ _ _ rfl hlit _ _ _ _ (r0.xs) rfl rfl hrd (fun _ => rfl) (by unfold maxLen; omega) (by omega) (by first | omega | (simp; done) | (simp; omega)) ?_; intro v2 w2 hown2 hgrow2)
                 obtain ⟨A5, c5, rfl, _, _⟩ := own_shape hown2
                 have hcp : w2.ownsRow wa.heap.size 3 1 (Row.v ⟨A5, c5, r0.xs⟩) r0.xs.length (r0.xs.map (Value.int .i64)) := by simpa [Row.v] using hown2
                 have hs2 := hgrow2.size
                 have hsA2 : wa.heap.size ≤ w2.heap.size := Nat.le_trans hwa0 hs2
                 have hN3 := (((hN2.below ((Below.refl wa.heap.size wa).alloc (Nat.le_refl _) (.cells #[] 3))).by_ hgrow2 (fun g hg => by have hg : some wa.heap.size = some g := hg; injection hg with hg; omega))).add (r := ⟨A5, c5, r0.xs⟩) hcp hsA2 (by omega)
                 have ob2 := (hgrow2.block _ (obj_lt obB) (fun e => by have e : some w.heap.size = some wa.heap.size := e; injection e with e; have := obj_lt obA; omega)).trans obB
                 have hb2 := hbW.grown hgrow2 (by have := hbW.size; exact this) (fun g hg => by have hg : some wa.heap.size = some g := hg; injection hg with hg; omega)
                 obtain ⟨OC, hOC⟩ : ∃ o, o = Obj.cells #[Value.slice A5 r0.xs.length c5, Value.slice A1 s.length c1] 24 := ⟨_, rfl⟩
                 have hbz := hb2.alloc hb2.size OC
                 have obz := obj_alloc ob2 OC
                 have onew := obj_new w2 OC
                 have hNz := hN3.below ((Below.refl w2.heap.size w2).alloc (Nat.le_refl _) OC)
                 have hout : (w2.alloc OC).ownsRow (w.heap.size + 1) 24 1 (.slice (some ⟨w2.heap.size, 0, none⟩) ([(⟨A5, c5, r0.xs⟩ : Row), ⟨A1, c1, s⟩].map Row.v).length 2) ([(⟨A5, c5, r0.xs⟩ : Row), ⟨A1, c1, s⟩].map Row.v).length ([(⟨A5, c5, r0.xs⟩ : Row), ⟨A1, c1, s⟩].map Row.v) := by
                   subst hOC
                   exact ⟨rfl, .inr ⟨w2.heap.size, 2, _, rfl, by omega, onew, Nat.le_refl _, by unfold maxLen; omega, rfl, rfl⟩⟩
                 have hrow : Own (w2.alloc OC) (w.heap.size + 1) (w2.alloc OC).heap.size (⟨some ⟨w1.heap.size + 1, 0, none⟩, 2, rootB true⟩ :: [(⟨A5, c5, r0.xs⟩ : Row), ⟨A1, c1, s⟩]) [⟨some ⟨w2.heap.size, 0, none⟩, 2, [(⟨A5, c5, r0.xs⟩ : Row), ⟨A1, c1, s⟩].map Row.v⟩] := by
                   have hp : Own (w2.alloc OC) w0.heap.size w2.heap.size [(⟨some ⟨w1.heap.size + 1, 0, none⟩, 2, rootB true⟩ : Row), ⟨A5, c5, r0.xs⟩, ⟨A1, c1, s⟩] [] := hNz.perm (by
                     show ([(⟨A1, c1, s⟩ : Row), ⟨some ⟨w1.heap.size + 1, 0, none⟩, 2, rootB true⟩, ⟨A5, c5, r0.xs⟩]).Perm _
                     exact (List.perm_append_comm (l₁ := [(⟨A1, c1, s⟩ : Row)]) (l₂ := [⟨some ⟨w1.heap.size + 1, 0, none⟩, 2, rootB true⟩, ⟨A5, c5, r0.xs⟩])))
                   exact (hp.wider (by omega) (by simp)).with_ hout (Nat.le_refl _)
                 obtain ⟨l0, l1, hOf, hbf⟩ := ret_cell (n := 2) (m := 2) obz hrow hbz rfl rfl
                 have hOF := Lib.hid hOf
                 have hBF := Lib.hid hbf
                 have g0 : (w2.alloc OC).cell? ⟨w.heap.size, 0, none⟩ = some (Value.slice none 0 0) := (obj_cell obz).trans rfl
                 have g1 : (w2.alloc OC).cell? ⟨w.heap.size, 1, none⟩ = some (Value.slice none 0 0) := (obj_cell obz).trans rfl
                 have g2 : (w2.alloc OC).frozen? ⟨w.heap.size, 0, none⟩ = false := obj_frozen obz
                 have g3 : (w2.alloc OC).frozen? ⟨w.heap.size, 1, none⟩ = false := obj_frozen obz
                 subst hOC
                 clear hown2 hgrow2 hcp hN2 hN3 hNz hout hrow hOf hbf onew obz ob2 obB obA hbz hb2 hbW hbB hlit cc hrd iB)
    try simp only [Exit.inBlock, Exit.then]
    refine bodyPost_ret (v := .agg #[.slice (some ⟨w1.heap.size + 1, 0, none⟩) 2 2, .slice (some ⟨w2.heap.size, 0, none⟩) 2 2]) (by simp [results, Tryz.results63, go_sem, l0, l1]) rfl ?_
    exact ⟨_, _, _, _, [⟨A5, c5, r0.xs⟩, ⟨A1, c1, s⟩], rfl, by simp [HS.out], hOF.out, hBF.out⟩
end Go.Proofs.YtldknpjeegdbmaaGreat

/- l1Min, l5Run; IntervalsOf and IsSimple of the reference. -/
namespace Go.Proofs.YtldknpjeegdbmaaGreat
set_option maxRecDepth 100000
open Go Go.RowKit

def segL (p : List Int) (f t : Nat) : List Int := (p.drop f).take (t - f + 1)
def mnTo (s : List Int) (j : Nat) : Int := (s.take j).foldl min (headL s)
def mxTo (s : List Int) (j : Nat) : Int := (s.take j).foldl max (headL s)
theorem mnTo_succ {s : List Int} {j : Nat} (h : j < s.length) : mnTo s (j + 1) = min (mnTo s j) s[j] := by
  unfold mnTo; rw [List.take_succ_eq_append_getElem h, List.foldl_append]; rfl
theorem mxTo_succ {s : List Int} {j : Nat} (h : j < s.length) : mxTo s (j + 1) = max (mxTo s j) s[j] := by
  unfold mxTo; rw [List.take_succ_eq_append_getElem h, List.foldl_append]; rfl
theorem mn_bd {s : List Int} (hv : ∀ x ∈ s, 0 ≤ x ∧ x ≤ 1000) (h0 : s ≠ []) (j : Nat) : 0 ≤ mnTo s j ∧ mnTo s j ≤ 1000 := by
  rcases (fold_min (s.take j) (headL s)).2.2 with h | h
  · have := hv _ (headL_mem h0); unfold mnTo; omega
  · have := hv _ (List.mem_of_mem_take h); unfold mnTo; omega
theorem mx_bd {s : List Int} (hv : ∀ x ∈ s, 0 ≤ x ∧ x ≤ 1000) (h0 : s ≠ []) (j : Nat) : 0 ≤ mxTo s j ∧ mxTo s j ≤ 1000 := by
  rcases (fold_max (s.take j) (headL s)).2.2 with h | h
  · have := hv _ (headL_mem h0); unfold mxTo; omega
  · have := hv _ (List.mem_of_mem_take h); unfold mxTo; omega
theorem iv_to (s : List Int) : ivB s = decide (mxTo s s.length - mnTo s s.length = (s.length : Int) - 1) := by
  unfold ivB topL botL mxTo mnTo; rw [List.take_length]
theorem segL_len {p : List Int} {f t : Nat} (hf : f ≤ t) (ht : t < p.length) : (segL p f t).length = t - f + 1 := by unfold segL; rw [List.length_take, List.length_drop]; omega
theorem segL_at {p : List Int} {f t j : Nat} (hf : f ≤ t) (ht : t < p.length) (hj : j < t - f + 1) : (segL p f t)[j]'(by rw [segL_len hf ht]; exact hj) = p[f + j]'(by omega) := by
  unfold segL; rw [List.getElem_take, List.getElem_drop]
theorem segL_head {p : List Int} {f t : Nat} (hf : f ≤ t) (ht : t < p.length) : headL (segL p f t) = p[f]'(by omega) := by
  have h := segL_at hf ht (j := 0) (by omega)
  unfold headL
  rw [List.getElem?_eq_getElem (by rw [segL_len hf ht]; omega), h]; rfl
theorem l1Min_b (a b m : Int) (w : World) (hm : min a b = m) : Calls Tryz.prog 90 #[.int .i64 a, .int .i64 b] w fun e w' => e = .returned (.int .i64 m) ∧ w = w' := by
  have HM := Lib.hid hm
  clear hm
  by_cases h : a < b
  · have HE := Lib.hid (show m = a by rw [← HM.out]; omega)
    go_enter Tryz.func90, Tryz.ntmps90
    go_wp2
    go_ret
    exact ⟨by rw [HE.out]; rfl, rfl⟩
  · have HE := Lib.hid (show m = b by rw [← HM.out]; omega)
    go_enter Tryz.func90, Tryz.ntmps90
    go_wp2
    go_ret
    exact ⟨by rw [HE.out]; rfl, rfl⟩
set_option maxHeartbeats 2000000 in
theorem l5Run_any (A : Option Addr) (c : Nat) (p : List Int) (f t : Nat) (w : World) (h : In w A c p) (hf : f ≤ t) (ht : t < p.length) (hv : ∀ x ∈ p, 0 ≤ x ∧ x ≤ 1000) :
    Calls Tryz.prog 65 #[.slice A p.length c, .int .i64 f, .int .i64 t] w (fun e w' => e = .returned (.bool (ivB (segL p f t))) ∧ w = w') := by
  obtain ⟨s, hs⟩ : ∃ s, s = segL p f t := ⟨_, rfl⟩
  have hsl : s.length = t - f + 1 := by rw [hs]; exact segL_len hf ht
  have hh : headL s = p[f]'(by omega) := by rw [hs]; exact segL_head hf ht
  have hat : ∀ j, j < s.length → s[j]? = p[f + j]? := fun j hj => by
    have h2 : f + j < p.length := by omega
    rw [List.getElem?_eq_getElem hj, List.getElem?_eq_getElem h2]
    subst hs
    rw [segL_at hf ht (by omega)]
  have hne : s ≠ [] := fun e => by rw [e] at hsl; simp at hsl
  have hsv : ∀ x ∈ s, 0 ≤ x ∧ x ≤ 1000 := fun x hx => by rw [hs] at hx; exact hv x (List.mem_of_mem_drop (List.mem_of_mem_take hx))
  have hlen := h.len
  have HIV := Lib.hid (iv_to s)
  rw [← hs]
  have HS := Lib.hid hsl
  have HH := Lib.hid hh
  have HAT := Lib.hid hat
  have HBN := Lib.hid (fun j => mn_bd hsv hne j)
  have HBX := Lib.hid (fun j => mx_bd hsv hne j)
  obtain ⟨bl, ol, rfl, hbl, hc⟩ := h.rd (by omega)
  have cf := hc f (by omega)
  have HCC := Lib.hid hc
  clear hs hh hat hne hsv hsl hc
  have hfl : (f : Int) < (p.length : Int) := by omega
  go_enter Tryz.func65, Tryz.ntmps65
  go_wp2_with fail
  go_loop [7, 8, 9] (fun a b i => ∃ j : Nat, f + j ≤ t + 1 ∧ i = .int .i64 ((f + j : Nat) : Int) ∧ a = .int .i64 (mnTo s j) ∧ b = .int .i64 (mxTo s j)) (fun _ _ i => t + 1 - (intOf i).toNat)
  case atStart => exact ⟨0, by omega, by first | rfl | simp, by rw [← HH.out]; rfl, by rw [← HH.out]; rfl⟩
  case round =>
    obtain ⟨j, hj, rfl, rfl, rfl⟩ := hrel
    rcases Nat.lt_or_ge t (f + j) with hge | hle
    · have hje : j = s.length := by rw [HS.out]; omega
      subst hje
      have b1 := HBN.out s.length
      have b2 := HBX.out s.length
      have d1 : decide (((f + s.length : Nat) : Int) ≤ (t : Int)) = false := decide_eq_false (by omega)
      have d1' : decide ((f : Int) + (s.length : Int) ≤ (t : Int)) = false := decide_eq_false (by omega)
      have e1 : IntKind.i64.wrap (mxTo s s.length - mnTo s s.length) = mxTo s s.length - mnTo s s.length := IntWalk.i64_in _ (by omega)
      have e2 : IntKind.i64.wrap ((t : Int) - (f : Int)) = (s.length : Int) - 1 := by rw [IntWalk.i64_in _ (by omega), HS.out]; omega
      clear b1 b2
      go_wp2_with fail
      go_ret
      exact ⟨by rw [HIV.out]; first | rfl | congr 2, rfl⟩
    · have hjs : j < s.length := by rw [HS.out]; omega
      have d1 : decide (((f + j : Nat) : Int) ≤ (t : Int)) = true := decide_eq_true (by omega)
      have d1' : decide ((f : Int) + (j : Int) ≤ (t : Int)) = true := decide_eq_true (by omega)
      have cc := HCC.out (f + j) (by omega)
      have hat := HAT.out j hjs
      rw [List.getElem?_eq_getElem hjs, List.getElem?_eq_getElem (by omega : f + j < p.length)] at hat
      rw [← Option.some.inj hat] at cc
      clear hat
      have HN := Lib.hid (mnTo_succ hjs)
      have HX := Lib.hid (mxTo_succ hjs)
      obtain ⟨x, hx⟩ : ∃ x, x = s[j] := ⟨_, rfl⟩
      rw [← hx] at cc HN HX
      have l0 : (0 : Int) ≤ ((f + j : Nat) : Int) := Int.natCast_nonneg _
      have l1 : ((f + j : Nat) : Int) < (p.length : Int) := by omega
      obtain ⟨k, hk⟩ : ∃ k, k = f + j := ⟨_, rfl⟩
      rw [← hk] at cc l0 l1 d1 ⊢
      have hkl : k < p.length := by omega
      have HC := Lib.hid (l1Min_b (mnTo s j) x (mnTo s (j + 1)) w HN.out.symm)
      have HD := Lib.hid (l1Max_b (mxTo s j) x (mxTo s (j + 1)) w HX.out.symm)
      have HK := Lib.hid hk
      have hkt : k ≤ t := by omega
      clear hx d1' hk
      go_wp2_with fail
      (with_reducible refine HC.out.mono ?_)
      rintro e w' ⟨rfl, rfl⟩
      go_wp2_with fail
      (with_reducible refine HD.out.mono ?_)
      rintro e w' ⟨rfl, rfl⟩
      go_wp2_with fail
      go_round
      case rel => exact ⟨j + 1, by have := HK.out; omega, by rw [HK.out]; go_num, rfl, rfl⟩
      case measure => simp [intOf]; omega
/-! The blocks, one after another. -/
theorem blk_next {n f : Nat} {s : List Int} (hs : s ≠ []) (hf : s.length ≤ f) : ∃ f', f = f' + 1 ∧ blkF n f s = s.take (longL n s s.length) :: blkF n f' (s.drop (longL n s s.length)) := by
  have h0 := len_pos hs
  obtain ⟨f', rfl⟩ : ∃ f', f = f' + 1 := ⟨f - 1, by omega⟩
  exact ⟨f', rfl, by rw [blkF, if_neg (by omega)]⟩
theorem blk_end {n f : Nat} : blkF n f [] = [] := by cases f <;> simp [blkF]
theorem longL_succ (n : Nat) (s : List Int) (k : Nat) : longL n s (k + 1) = if (decide (k + 1 < n) && ivB (s.take (k + 1))) = true then k + 1 else longL n s k := rfl
end Go.Proofs.YtldknpjeegdbmaaGreat

/- IntervalsOf and IsSimple of the reference: whether there are none. -/
namespace Go.Proofs.YtldknpjeegdbmaaGreat
set_option maxRecDepth 100000
open Go Go.RowKit

def rowN (p : List Int) (f u : Nat) : Bool := (List.range u).all fun t => !(decide (f < t) && decide (t - f + 1 < p.length) && ivB (segL p f t))
def allN (p : List Int) (k : Nat) : Bool := (List.range k).all fun f => rowN p f p.length
theorem rowN_succ (p : List Int) (f u : Nat) : rowN p f (u + 1) = (rowN p f u && !(decide (f < u) && decide (u - f + 1 < p.length) && ivB (segL p f u))) := by simp [rowN, List.range_succ]
theorem allN_succ (p : List Int) (k : Nat) : allN p (k + 1) = (allN p k && rowN p k p.length) := by simp [allN, List.range_succ]
theorem rowN_low (p : List Int) (f : Nat) : ∀ u, u ≤ f + 1 → rowN p f u = true := fun u hu => by
  unfold rowN
  rw [List.all_eq_true]
  intro t ht
  have := List.mem_range.1 ht
  simp [show ¬ f < t by omega]
theorem allN_simp (p : List Int) : allN p p.length = simpB p := rfl
/-- A list whose length alone is told: it is none just where the test holds. -/
def RetZ (w : World) (b : Bool) (e : Ending) (w' : World) : Prop := ∃ A c n, e = .returned (.slice A n c) ∧ (n = 0 ↔ b = true) ∧ n ≤ 1048576 ∧ Below w.heap.size w w'
set_option maxHeartbeats 4000000 in
theorem intervals_spec (A : Option Addr) (c : Nat) (p : List Int) (w : World) (h : In w A c p) (hp : permB p = true) :
    Calls Tryz.prog 53 #[.slice A p.length c] w (RetZ w (simpB p)) := by
  obtain ⟨j0, hj, hy0, hy1, hy2⟩ := info_parts infoL
  have HP := Lib.hid hp
  have h8 := (permB_true hp).1
  have HV := Lib.hid (perm_small hp)
  have hO0 : (w.alloc (.cells #[] 24)).ownsRow w.heap.size 24 1 (.slice (some ⟨w.heap.size, 0, none⟩) 0 0) 0 [] := World.ownsRow_lit w #[] 0 (Nat.le_refl _) (by unfold maxLen; omega) rfl
  have hb0 := (Below.refl w.heap.size w).alloc (Nat.le_refl _) (.cells #[] 24)
  clear hp
  go_enter Tryz.func53, Tryz.ntmps53
  go_wp2_with fail
  go_loopw [3, 4] (fun v i wr => ∃ (k n : Nat) (A1 : Option Addr) (c1 : Nat) (vs : List Value), k ≤ p.length ∧ i = .int .i64 k ∧ v = .slice A1 n c1 ∧ n ≤ 9 * k ∧ Hid (n = 0 ↔ allN p k = true) ∧ wr.ownsRow w.heap.size 24 1 (.slice A1 n c1) n vs ∧ Below w.heap.size w wr) (fun _ i _ => p.length - (intOf i).toNat)
  case atStart => exact ⟨0, 0, _, _, [], Nat.zero_le _, rfl, rfl, Nat.zero_le _, Lib.hid (by simp [allN]), hO0, hb0⟩
  case round =>
    clear hO0 hb0
    obtain ⟨k, n, A1, c1, vs, hk, rfl, rfl, hn, HN, hown, hb⟩ := hrel
    have hsz := hb.size
    rcases Nat.lt_or_ge k p.length with hlt | hge
    · have HC := Lib.hid (isPerm_sb A c p wr true (h.next hb) HP.out)
      have e1 : IntKind.i64.wrap ((k : Int) + 1) = (k : Int) + 1 := IntWalk.i64_in _ (by omega)
      go_wp2_with fail
      (with_reducible refine HC.out.mono ?_)
      rintro e w1 ⟨rfl, hd⟩
      have hown := hd.own hown
      have hb := below_dr hb hd
      clear HC hd hsz
      go_wp2_with fail
      go_loopw [3, 5] (fun v i wr => ∃ (u n : Nat) (A1 : Option Addr) (c1 : Nat) (vs : List Value), k < u ∧ u ≤ p.length ∧ i = .int .i64 u ∧ v = .slice A1 n c1 ∧ n ≤ 9 * k + u ∧ Hid (n = 0 ↔ (allN p k && rowN p k u) = true) ∧ wr.ownsRow w.heap.size 24 1 (.slice A1 n c1) n vs ∧ Below w.heap.size w wr) (fun _ i _ => p.length - (intOf i).toNat)
      case atStart => exact ⟨k + 1, n, A1, c1, vs, by omega, by omega, by go_num, rfl, by omega, Lib.hid (by rw [rowN_low p k (k + 1) (Nat.le_refl _), Bool.and_true]; exact HN.out), hown, hb⟩
      case round =>
        clear hown hb HN hn
        obtain ⟨u, n, A1, c1, vs, hku, hu, rfl, rfl, hn, HN, hown, hb⟩ := hrel
        have hsz := hb.size
        rcases Nat.lt_or_ge u p.length with hlt2 | hge2
        · have e2 : IntKind.i64.wrap ((u : Int) - (k : Int)) = ((u - k : Nat) : Int) := by rw [IntWalk.i64_in _ (by omega)]; omega
          have e3 : IntKind.i64.wrap (((u - k : Nat) : Int) + 1) = ((u - k + 1 : Nat) : Int) := by rw [IntWalk.i64_in _ (by omega)]; omega
          have e4 : IntKind.i64.wrap ((u : Int) + 1) = (u : Int) + 1 := IntWalk.i64_in _ (by omega)
          have HR := Lib.hid (rowN_succ p k u)
          obtain ⟨D, hD⟩ : ∃ D, D = u - k := ⟨_, rfl⟩
          rw [← hD] at e2 e3
          have hku2 := Lib.hid hku
          rcases hq : (decide (k < u) && decide (u - k + 1 < p.length) && ivB (segL p k u)) with _ | _
          · have HN2 := Lib.hid (show n = 0 ↔ (allN p k && rowN p k (u + 1)) = true by rw [HR.out, hq]; simpa using HN.out)
            by_cases hl : u - k + 1 < p.length
            · have hiv : ivB (segL p k u) = false := by simpa [hku, hl] using hq
              have HC := Lib.hid (l5Run_any A c p k u wr (h.next hb) (by omega) hlt2 HV.out)
              rw [hiv] at HC
              have d1 : decide (((D + 1 : Nat) : Int) < (p.length : Int)) = true := decide_eq_true (by omega)
              have d2 : decide ((D : Int) + 1 < (p.length : Int)) = true := decide_eq_true (by omega)
              clear hq hiv
              go_wp2_with fail
              (with_reducible refine HC.out.mono ?_)
              rintro e w' ⟨rfl, rfl⟩
              go_wp2_with fail
              go_roundw
              case rel => exact ⟨u + 1, n, A1, c1, vs, by omega, by omega, by go_num, rfl, by omega, HN2, hown, hb⟩
              case measure => simp [intOf]; omega
            · have d1 : decide (((D + 1 : Nat) : Int) < (p.length : Int)) = false := decide_eq_false (by omega)
              have d2 : decide ((D : Int) + 1 < (p.length : Int)) = false := decide_eq_false (by omega)
              clear hq
              go_wp2_with fail
              go_roundw
              case rel => exact ⟨u + 1, n, A1, c1, vs, by omega, by omega, by go_num, rfl, by omega, HN2, hown, hb⟩
              case measure => simp [intOf]; omega
          · have HN2 := Lib.hid (show n + 1 = 0 ↔ (allN p k && rowN p k (u + 1)) = true by rw [HR.out, hq]; simp)
            simp only [Bool.and_eq_true, decide_eq_true_eq] at hq
            have HC := Lib.hid (l5Run_any A c p k u wr (h.next hb) (by omega) hlt2 HV.out)
            rw [hq.2] at HC
            have d1 : decide (((D + 1 : Nat) : Int) < (p.length : Int)) = true := decide_eq_true (by omega)
            have d2 : decide ((D : Int) + 1 < (p.length : Int)) = true := decide_eq_true (by omega)
            have d3 : ((u - k : Nat) : Int) + 1 < (p.length : Int) := by omega
            have d4 : (D : Int) + 1 < (p.length : Int) := by omega
            clear hq
            go_wp2_with fail
            (with_reducible refine HC.out.mono ?_)
            rintro e w' ⟨rfl, rfl⟩
            have hownx := hown.alloc (Obj.cells #[Value.int .i64 ((k : Int) + 1), Value.int .i64 ((u : Int) + 1)] 3)
            have hbx := hb.alloc hsz (Obj.cells #[Value.int .i64 ((k : Int) + 1), Value.int .i64 ((u : Int) + 1)] 3)
            go_wp2_with (at_builtin; refine wpList_append_own _ rfl _ _ 26 rfl (w.heap.size) 24 j0 (.slice none 0 0) 1 24 Tryz.underlying26 hj hy0 hy1 hy2 rfl (by decide) _ _ _ rfl (World.ownsRow.alloc hownx _) ⟨wr.heap.size + 1, 0, none⟩ 1 1 [Value.slice (some ⟨wr.heap.size, 0, none⟩) 2 2] rfl rfl (cell_one_at _ _ (by simp)) (by intro u hu; simp at hu; subst hu; rfl) (by unfold maxLen; omega) (by omega) (by simp; omega) ?_; intro v9 w9 hown9 hgrow9 _)
            obtain ⟨A5, c5, rfl, _, _⟩ := own_shape hown9
            have hb9 := (hbx.alloc hbx.size (Obj.cells #[Value.slice (some ⟨wr.heap.size, 0, none⟩) 2 2] 24)).grown hgrow9 (by simp; omega) (fun g hg => (hownx.lt g hg).1)
            have K := Lib.hid (And.intro hown9 hb9)
            clear hown9 hgrow9 hb9 hownx hbx hown hb
            go_wp2_with fail
            go_roundw
            case rel => exact ⟨u + 1, n + 1, A5, c5, _, by omega, by omega, by go_num, rfl, by omega, HN2, K.out.1, K.out.2⟩
            case measure => simp [intOf]; omega
        · obtain rfl : u = p.length := by omega
          have HN2 := Lib.hid (show n = 0 ↔ allN p (k + 1) = true by rw [allN_succ]; exact HN.out)
          go_wp2_with fail
          go_roundw
          case rel => exact ⟨k + 1, n, A1, c1, vs, by omega, by go_num, rfl, by omega, HN2, hown, hb⟩
          case measure => simp [intOf]; omega
    · obtain rfl : k = p.length := by omega
      go_wp2_with fail
      go_ret
      exact ⟨A1, c1, n, rfl, by rw [← allN_simp]; exact HN.out, by omega, hb⟩
theorem isSimple_spec (A : Option Addr) (c : Nat) (p : List Int) (w : World) (h : In w A c p) (hp : permB p = true) (h0 : p ≠ []) :
    Calls Tryz.prog 25 #[.slice A p.length c] w (Rb w (.bool (simpB p))) := by
  have HP := Lib.hid hp
  have hl := len_pos h0
  have d1 : decide ((p.length : Int) > 0) = true := decide_eq_true (by omega)
  have d2 : decide (0 < (p.length : Int)) = true := decide_eq_true (by omega)
  clear hp h0
  go_enter Tryz.func25, Tryz.ntmps25
  go_wp2_with fail
  (with_reducible refine (isPerm_sb A c p w true h HP.out).mono ?_)
  rintro e w1 ⟨rfl, hd⟩
  have hb := below_dr (Below.refl w.heap.size w) hd
  have HC := Lib.hid (intervals_spec A c p w1 (h.dr hd) HP.out)
  go_wp2_with fail
  (with_reducible refine HC.out.mono ?_)
  rintro e w2 ⟨D, dc, n, rfl, hn, _, hb2⟩
  have HN := Lib.hid (show ((n : Int) == 0) = simpB p by rw [Bool.eq_iff_iff, beq_iff_eq, ← hn]; omega)
  have hbz := hb.trans (hb2.mono hb.size)
  clear hn HC hb2 hb hd
  go_wp2_with fail
  go_ret
  exact ⟨by first | (rw [← HN.out]; done) | (rw [← HN.out]; rfl), hbz⟩
end Go.Proofs.YtldknpjeegdbmaaGreat

/- InflateBy of the reference. -/
namespace Go.Proofs.YtldknpjeegdbmaaGreat
set_option maxRecDepth 100000
open Go Go.RowKit

def smTo (L : List (List Int)) (k : Nat) : Nat := ((L.take k).map List.length).sum
def ifB (r : List Int) (L : List (List Int)) : Bool := permB r && decide (L.length = r.length) && allPermB L && L.all (fun q => !q.isEmpty) && decide (smTo L L.length ≤ 8)
def ifG (r : List Int) (L : List (List Int)) : List Int := if ifB r L = true then inflTo r L r.length else []
theorem smTo_succ {L : List (List Int)} {k : Nat} (h : k < L.length) : smTo L (k + 1) = smTo L k + L[k].length := by
  unfold smTo
  rw [List.take_succ_eq_append_getElem h, List.map_append, List.sum_append]
  simp only [List.map_cons, List.map_nil, List.sum_cons, List.sum_nil, Nat.add_zero]
theorem smTo_mono (L : List (List Int)) {k m : Nat} (h : k ≤ m) : smTo L k ≤ smTo L m := by
  induction m with
  | zero => rw [show k = 0 by omega]; exact Nat.le_refl _
  | succ m ih =>
    rcases Nat.lt_or_ge m k with h1 | h1
    · rw [show k = m + 1 by omega]; exact Nat.le_refl _
    · rcases Nat.lt_or_ge m L.length with h2 | h2
      · rw [smTo_succ h2]; have := ih h1; omega
      · have e : L.take (m + 1) = L.take m := by rw [List.take_of_length_le (by omega), List.take_of_length_le h2]
        have : smTo L (m + 1) = smTo L m := by unfold smTo; rw [e]
        rw [this]; exact ih h1
theorem base_le (r : List Int) (L : List (List Int)) (k : Nat) : ∀ i, i ≤ L.length → baseTo r L k i ≤ smTo L i := by
  intro i
  induction i with
  | zero => intro _; exact Nat.zero_le _
  | succ i ih =>
    intro h
    rw [smTo_succ (by omega)]
    have h1 := ih (by omega)
    show baseTo r L k i + (if rAt r i < rAt r k then (lAt L i).length else 0) ≤ _
    rw [lAt_eq (by omega)]
    split <;> omega
theorem infl_len (r : List Int) (L : List (List Int)) : ∀ k, k ≤ L.length → (inflTo r L k).length = smTo L k := by
  intro k
  induction k with
  | zero => intro _; rfl
  | succ k ih =>
    intro h
    rw [smTo_succ (by omega)]
    show (inflTo r L k ++ (lAt L k).map _).length = _
    rw [List.length_append, List.length_map, ih (by omega), lAt_eq (by omega)]
theorem ifG_len (r : List Int) (L : List (List Int)) : (ifG r L).length ≤ 8 := by
  unfold ifG
  split
  · rename_i h
    unfold ifB at h
    simp only [Bool.and_eq_true, decide_eq_true_eq] at h
    have h1 := infl_len r L r.length (by rw [h.1.1.1.2]; exact Nat.le_refl _)
    have h2 := h.2
    rw [h.1.1.1.2] at h2
    omega
  · simp
theorem if_bad {r : List Int} {L : List (List Int)} {k : Nat} (hk : k < L.length) (h : L[k].length = 0 ∨ 8 < smTo L (k + 1)) : ifB r L = false := by
  cases hb : ifB r L with
  | false => rfl
  | true =>
    exfalso
    unfold ifB at hb
    simp only [Bool.and_eq_true, decide_eq_true_eq, List.all_eq_true] at hb
    rcases h with h | h
    · have := hb.1.2 L[k] (List.getElem_mem hk)
      rw [List.eq_nil_of_length_eq_zero h] at this
      simp at this
    · have := smTo_mono L (show k + 1 ≤ L.length by omega)
      omega
set_option maxHeartbeats 8000000 in
theorem inflateBy_spec (A B : Option Addr) (c d : Nat) (r : List Int) (rs : List Row) (w : World) (h : In w A c r) (hl : InL w B d rs) :
    Calls Tryz.prog 23 #[.slice A r.length c, .slice B rs.length d] w (Ret2 (Value.int .i64) 3 w (ifG r (rs.map Row.xs)) (ifB r (rs.map Row.xs))) := by
  obtain ⟨i0, hi, hz0, hz1, hz2⟩ := info_parts infoI
  have hrl := h.len
  have hll := hl.len
  obtain ⟨L, hL⟩ : ∃ L, L = rs.map Row.xs := ⟨_, rfl⟩
  have hLl : L.length = rs.length := by rw [hL, List.length_map]
  rw [← hL]
  rcases hp : permB r with _ | _
  · have HP := Lib.hid hp
    have HB := Lib.hid (show ifB r L = false by unfold ifB; rw [hp]; rfl)
    have HG := Lib.hid (show ifG r L = [] by unfold ifG; rw [HB.out]; rfl)
    clear hp
    go_enter Tryz.func23, Tryz.ntmps23
    go_wp2_with fail
    (with_reducible refine (isPerm_sb A c r w false h HP.out).mono ?_)
    rintro e w1 ⟨rfl, hd⟩
    have hbd := below_dr (Below.refl w.heap.size w) hd
    go_wp2_with fail
    go_ret2
    rw [HB.out, HG.out]
    exact ⟨_, 0, rfl, Nat.le_refl _, Nat.zero_le _, World.ownsRow_lit _ #[] 0 hbd.size (by unfold maxLen; omega) rfl, hbd.alloc hbd.size _⟩
  have HP := Lib.hid hp
  have r8 := (permB_true hp).1
  clear hp
  by_cases hne : rs.length = r.length
  case neg =>
    have HB := Lib.hid (show ifB r L = false by unfold ifB; rw [HP.out, decide_eq_false (by rw [hLl]; exact hne)]; rfl)
    have HG := Lib.hid (show ifG r L = [] by unfold ifG; rw [HB.out]; rfl)
    have d1 : ((rs.length : Int) != (r.length : Int)) = true := by simp; omega
    clear hne
    go_enter Tryz.func23, Tryz.ntmps23
    go_wp2_with fail
    (with_reducible refine (isPerm_sb A c r w true h HP.out).mono ?_)
    rintro e w1 ⟨rfl, hd⟩
    have hbd := below_dr (Below.refl w.heap.size w) hd
    go_wp2_with fail
    go_ret2
    rw [HB.out, HG.out]
    exact ⟨_, 0, rfl, Nat.le_refl _, Nat.zero_le _, World.ownsRow_lit _ #[] 0 hbd.size (by unfold maxLen; omega) rfl, hbd.alloc hbd.size _⟩
  have HNE := Lib.hid hne
  have d1 : ((rs.length : Int) != (r.length : Int)) = false := by simp; omega
  rcases hap : allPermB L with _ | _
  · have HA := Lib.hid (show allPermB (rs.map Row.xs) = false by rw [← hL]; exact hap)
    have HB := Lib.hid (show ifB r L = false by unfold ifB; rw [hap]; simp)
    have HG := Lib.hid (show ifG r L = [] by unfold ifG; rw [HB.out]; rfl)
    clear hap hne
    go_enter Tryz.func23, Tryz.ntmps23
    go_wp2_with fail
    (with_reducible refine (isPerm_sb A c r w true h HP.out).mono ?_)
    rintro e w1 ⟨rfl, hd⟩
    have hbd := below_dr (Below.refl w.heap.size w) hd
    have HC := Lib.hid (l3All_b B d rs w1 false (hl.dr hd) HA.out)
    go_wp2_with fail
    (with_reducible refine HC.out.mono ?_)
    rintro e w2 ⟨rfl, hb2⟩
    have hbd := hbd.trans (hb2.mono hbd.size)
    go_wp2_with fail
    go_ret2
    rw [HB.out, HG.out]
    exact ⟨_, 0, rfl, Nat.le_refl _, Nat.zero_le _, World.ownsRow_lit _ #[] 0 hbd.size (by unfold maxLen; omega) rfl, hbd.alloc hbd.size _⟩
  have HA := Lib.hid (show allPermB (rs.map Row.xs) = true by rw [← hL]; exact hap)
  have HAQ := Lib.hid (show ∀ q ∈ L, permB q = true from fun q hq => by
    have h1 := hap
    unfold allPermB at h1
    rw [Bool.not_eq_true', List.any_eq_false] at h1
    simpa using h1 q hq)
  have HLX := Lib.hid hL
  have hLr : L.length = r.length := by omega
  have HLR := Lib.hid hLr
  have HLL := Lib.hid hLl
  clear hap hL hLl hLr hne
  go_enter Tryz.func23, Tryz.ntmps23
  go_wp2_with fail
  (with_reducible refine (isPerm_sb A c r w true h HP.out).mono ?_)
  rintro e w1 ⟨rfl, hd⟩
  have hbd := below_dr (Below.refl w.heap.size w) hd
  have HC := Lib.hid (l3All_b B d rs w1 true (hl.dr hd) HA.out)
  go_wp2_with fail
  (with_reducible refine HC.out.mono ?_)
  rintro e w2 ⟨rfl, hb2⟩
  have hbd := hbd.trans (hb2.mono hbd.size)
  have h2 := h.next hbd
  have hl2 := hl.next hbd
  clear HC hb2 hd
  go_wp2_with fail
  go_loop [6, 7] (fun t i => ∃ k : Nat, k ≤ rs.length ∧ i = .int .i64 k ∧ t = .int .i64 (smTo L k : Nat) ∧ Hid (smTo L k ≤ 8 ∧ ∀ q ∈ L.take k, q.length ≠ 0)) (fun _ i => rs.length - (intOf i).toNat)
  case atStart => exact ⟨0, Nat.zero_le _, rfl, rfl, Lib.hid ⟨Nat.zero_le _, fun q hq => by simp at hq⟩⟩
  case round =>
    obtain ⟨k, hk, rfl, rfl, HS⟩ := hrel
    have hs8 := HS.out.1
    rcases Nat.lt_or_ge k rs.length with hlt | hge
    · have hkL : k < L.length := by rw [HLL.out]; exact hlt
      obtain ⟨bo, oo, rfl, _, hc⟩ := hl2.read.at (by omega)
      have cc := hc k hlt
      have HSS := Lib.hid (smTo_succ hkL)
      have hxe : L[k] = rs[k].xs := by simp only [HLX.out, List.getElem_map]
      have HBAD := Lib.hid (fun hh => if_bad (r := r) hkL hh)
      rw [hxe] at HSS HBAD
      have h8 : rs[k].xs.length ≤ 8 := by rw [← hxe]; exact (permB_true (HAQ.out _ (List.getElem_mem hkL))).1
      have HT := Lib.hid (show L.take (k + 1) = L.take k ++ [rs[k].xs] by rw [List.take_succ_eq_append_getElem hkL, hxe])
      obtain ⟨R1, hR1⟩ : ∃ R1 : Row, R1 = rs[k] := ⟨_, rfl⟩
      rw [← hR1] at cc HSS HBAD h8 HT
      clear hc hR1 hxe hkL
      obtain ⟨rA, rc, q⟩ := R1
      have h8 : q.length ≤ 8 := h8
      obtain ⟨s, hs⟩ : ∃ s, s = smTo L k := ⟨_, rfl⟩
      have hsq : smTo L (k + 1) = s + q.length := by rw [hs]; exact HSS.out
      have HSQ := Lib.hid hsq
      have hs88 : s ≤ 8 := by rw [hs]; exact HS.out.1
      rw [← hs]
      have e1 : IntKind.i64.wrap ((s : Int) + (q.length : Int)) = ((s + q.length : Nat) : Int) := by rw [IntWalk.i64_in _ (by omega)]; omega
      obtain ⟨S, hSe⟩ : ∃ S, S = s + q.length := ⟨_, rfl⟩
      rw [← hSe] at e1 hsq
      have hS16 : S ≤ 16 := by omega
      clear hs hsq
      by_cases hq0 : q.length = 0
      · have HB := Lib.hid (HBAD.out (.inl hq0))
        have HG := Lib.hid (show ifG r L = [] by unfold ifG; rw [HB.out]; rfl)
        have d2 : ((q.length : Int) == 0) = true := by rw [hq0]; rfl
        clear HBAD
        go_wp2_with fail
        go_ret2
        rw [HB.out, HG.out]
        exact ⟨_, 0, rfl, Nat.le_refl _, Nat.zero_le _, World.ownsRow_lit _ #[] 0 hbd.size (by unfold maxLen; omega) rfl, hbd.alloc hbd.size _⟩
      · have d2 : ((q.length : Int) == 0) = false := by rw [beq_eq_false_iff_ne]; omega
        by_cases hS8 : 8 < S
        · have HB := Lib.hid (HBAD.out (.inr (by show 8 < smTo L (k + 1); rw [HSQ.out, ← hSe]; exact hS8)))
          have HG := Lib.hid (show ifG r L = [] by unfold ifG; rw [HB.out]; rfl)
          have d3 : decide ((S : Int) > 8) = true := decide_eq_true (by omega)
          have d4 : decide (8 < (S : Int)) = true := decide_eq_true (by omega)
          clear HBAD hSe
          go_wp2_with fail
          go_ret2
          rw [HB.out, HG.out]
          exact ⟨_, 0, rfl, Nat.le_refl _, Nat.zero_le _, World.ownsRow_lit _ #[] 0 hbd.size (by unfold maxLen; omega) rfl, hbd.alloc hbd.size _⟩
        · have d3 : decide ((S : Int) > 8) = false := decide_eq_false (by omega)
          have d4 : decide (8 < (S : Int)) = false := decide_eq_false (by omega)
          have HSE := Lib.hid hSe
          have HS2 := Lib.hid (show smTo L (k + 1) ≤ 8 ∧ ∀ x ∈ L.take (k + 1), x.length ≠ 0 from ⟨by rw [HSQ.out, ← hSe]; omega, fun x hx => by
            rw [HT.out, List.mem_append, List.mem_singleton] at hx
            rcases hx with hx | hx
            · exact HS.out.2 x hx
            · rw [hx]; exact hq0⟩)
          clear HBAD hSe hq0
          go_wp2_with fail
          go_round
          case rel => exact ⟨k + 1, by omega, by go_num, by rw [HSQ.out, ← HSE.out], HS2⟩
          case measure => simp [intOf]; omega
    · obtain rfl : k = rs.length := by omega
      have HIF := Lib.hid (show ifB r L = true by
        have ht : L.take rs.length = L := List.take_of_length_le (by rw [HLL.out]; exact Nat.le_refl _)
        have h1 := HS.out
        rw [ht] at h1
        unfold ifB
        rw [HP.out, decide_eq_true HLR.out, show allPermB L = true by rw [HLX.out]; exact HA.out, HLL.out, decide_eq_true h1.1]
        simp only [Bool.true_and, Bool.and_true, List.all_eq_true]
        intro q hq
        have := h1.2 q hq
        cases q with
        | nil => simp at this
        | cons a t => rfl)
      have HIG := Lib.hid (show ifG r L = inflTo r L r.length by unfold ifG; rw [HIF.out]; rfl)
      have HIL := Lib.hid (infl_len r L)
      have HSM := Lib.hid (show ∀ j, smTo L j ≤ 8 from fun j => by
        rcases Nat.lt_or_ge j L.length with h | h
        · have h1 := smTo_mono L (Nat.le_of_lt h)
          have h2 := HS.out.1
          rw [← HLL.out] at h2
          omega
        · have h2 := HS.out.1
          rw [← HLL.out] at h2
          have : smTo L j = smTo L L.length := by unfold smTo; rw [List.take_of_length_le h, List.take_length]
          omega)
      have h2r := h2
      have hown0 : (w2.alloc (.cells #[] 3)).ownsRow w.heap.size 3 1 (.slice (some ⟨w2.heap.size, 0, none⟩) 0 0) 0 ((inflTo r L 0).map (Value.int .i64)) := World.ownsRow_lit w2 #[] 0 hbd.size (by unfold maxLen; omega) rfl
      have hb0 := hbd.alloc hbd.size (.cells #[] 3)
      clear hs8 HS
      go_wp2_with fail
      go_loopw [8, 9] (fun v i wr => ∃ (k m : Nat) (A3 : Option Addr) (c3 : Nat), k ≤ r.length ∧ i = .int .i64 k ∧ v = .slice A3 m c3 ∧ Hid (m = (inflTo r L k).length) ∧ wr.ownsRow w.heap.size 3 1 (.slice A3 m c3) m ((inflTo r L k).map (Value.int .i64)) ∧ Below w.heap.size w wr) (fun _ i _ => r.length - (intOf i).toNat)
      case atStart => exact ⟨0, 0, _, _, Nat.zero_le _, rfl, rfl, Lib.hid rfl, hown0, hb0⟩
      case round =>
        clear hown0 hb0 h2 hl2 hbd h2r
        obtain ⟨k, m, A3, c3, hk, rfl, rfl, HM, hown, hb⟩ := hrel
        have hm8 : m ≤ 8 := by rw [HM.out, HIL.out k (by rw [HLR.out]; exact hk)]; exact HSM.out k
        rcases Nat.lt_or_ge k r.length with hlt | hge
        · obtain ⟨wo, rfl⟩ : ∃ wo : World, wo = wr := ⟨_, rfl⟩
          go_wp2_with fail
          go_loopw [10, 11] (fun b i wr => ∃ j : Nat, j ≤ r.length ∧ i = .int .i64 j ∧ b = .int .i64 (baseTo r L k j : Nat) ∧ Dr wo wr) (fun _ i _ => r.length - (intOf i).toNat)
          case atStart => exact ⟨0, Nat.zero_le _, rfl, rfl, Dr.refl _⟩
          case round =>
            obtain ⟨j, hj, rfl, rfl, hd⟩ := hrel
            have hbj := base_le r L k j (by rw [HLR.out]; exact hj)
            have hsj := HSM.out j
            have hbr := below_dr hb hd
            rcases Nat.lt_or_ge j r.length with hjl | hjg
            · have hin := h.next hbr
              obtain ⟨bl, ol, rfl, _, hc⟩ := hin.rd (by omega)
              have c1 := hc j hjl
              have c2 := hc k hlt
              have hjs : j < rs.length := by rw [HNE.out]; exact hjl
              obtain ⟨bo, oo, rfl, _, hcl⟩ := (hl.next hbr).read.at (by omega)
              have c3' := hcl j hjs
              have hjL : j < L.length := by rw [HLR.out]; exact hjl
              have hxe : lAt L j = rs[j].xs := by rw [lAt_eq hjL]; simp only [HLX.out, List.getElem_map]
              have h8 : (lAt L j).length ≤ 8 := by rw [lAt_eq hjL]; exact (permB_true (HAQ.out _ (List.getElem_mem hjL))).1
              have hr1 : rAt r j = r[j] := by unfold rAt; rw [List.getElem?_eq_getElem hjl]; rfl
              have hr2 : rAt r k = r[k] := by unfold rAt; rw [List.getElem?_eq_getElem hlt]; rfl
              have HBS := Lib.hid (show baseTo r L k (j + 1) = baseTo r L k j + (if r[j] < r[k] then rs[j].xs.length else 0) by rw [← hxe, ← hr1, ← hr2]; rfl)
              rw [hxe] at h8
              obtain ⟨x1, hx1⟩ : ∃ x, x = r[j] := ⟨_, rfl⟩
              obtain ⟨x2, hx2⟩ : ∃ x, x = r[k] := ⟨_, rfl⟩
              rw [← hx1] at c1 HBS
              rw [← hx2] at c2 HBS
              obtain ⟨R1, hR1⟩ : ∃ R1 : Row, R1 = rs[j] := ⟨_, rfl⟩
              rw [← hR1] at c3' HBS h8
              clear hc hcl hR1 hxe hr1 hr2 hx1 hx2 hjL hin
              obtain ⟨rA, rc, q⟩ := R1
              have h8 : q.length ≤ 8 := h8
              obtain ⟨t, ht⟩ : ∃ t : Int, (if decide (x1 < x2) = true then (1 : Int) else 0) = t := ⟨_, rfl⟩
              obtain ⟨z, hz⟩ : ∃ z, z = baseTo r L k j := ⟨_, rfl⟩
              obtain ⟨y, hy⟩ : ∃ y : Nat, y = (if x1 < x2 then q.length else 0) := ⟨_, rfl⟩
              have HBS2 := Lib.hid (show baseTo r L k (j + 1) = z + y by rw [hz, hy]; exact HBS.out)
              rw [← hz] at hbj ⊢
              have hy8 : y ≤ 8 := by rw [hy]; split <;> omega
              have e1 : IntKind.i64.wrap (t * (q.length : Int)) = (y : Int) := by
                rw [← ht, hy]
                by_cases hx : x1 < x2
                · simp only [hx, decide_true, if_true, Int.one_mul]; exact IntWalk.i64_in _ (by omega)
                · simp only [hx, decide_false, Bool.false_eq_true, if_false, Int.zero_mul]; rfl
              have e2 : IntKind.i64.wrap ((z : Int) + (y : Int)) = ((z + y : Nat) : Int) := by rw [IntWalk.i64_in _ (by omega)]; omega
              have HT := Lib.hid ht
              obtain ⟨zy, hzy⟩ : ∃ zy, zy = z + y := ⟨_, rfl⟩
              rw [← hzy] at e2
              have HZY := Lib.hid hzy
              clear ht hy hz HBS hzy
              go_wp2_with fail
              go_quiet ((go_at_call 52; exact quiet_eq (l1Bit_b _ t _ HT.out)))
              go_wp2_with fail
              go_roundw
              case rel => exact ⟨j + 1, by omega, by go_num, by rw [HBS2.out, ← HZY.out], hd.drewN _⟩
              case measure => simp [intOf]; omega
            · obtain rfl : j = r.length := by omega
              obtain ⟨base, hbase⟩ : ∃ b, b = baseTo r L k r.length := ⟨_, rfl⟩
              have HBASE := Lib.hid hbase
              have hbs8 : base ≤ 8 := by rw [hbase]; omega
              rw [← hbase]
              have hownd := hd.own hown
              have hkL : k < L.length := by rw [HLR.out]; exact hlt
              have hks : k < rs.length := by rw [HNE.out]; exact hlt
              have hxe : lAt L k = rs[k].xs := by rw [lAt_eq hkL]; simp only [HLX.out, List.getElem_map]
              obtain ⟨q, hq⟩ : ∃ q : Row, q = rs[k] := ⟨_, rfl⟩
              have HQ := Lib.hid hq
              have hqp : permB q.xs = true := by rw [hq, ← hxe, lAt_eq hkL]; exact HAQ.out _ (List.getElem_mem hkL)
              have HQV := Lib.hid (perm_small hqp)
              have h8 := (permB_true hqp).1
              have HIS := Lib.hid (show inflTo r L (k + 1) = inflTo r L k ++ q.xs.map (fun x => (base : Int) + x) by rw [hq, ← hxe, HBASE.out]; rfl)
              have HKS := Lib.hid hks
              clear hb hd hown hbase hxe hq hqp hkL hbj hsj
              go_wp2_with fail
              go_loopw [8, 12] (fun v i wr => ∃ (u m2 : Nat) (A4 : Option Addr) (c4 : Nat), u ≤ q.xs.length ∧ i = .int .i64 u ∧ v = .slice A4 m2 c4 ∧ Hid (m2 = (inflTo r L k ++ (q.xs.take u).map (fun x => (base : Int) + x)).length) ∧ m2 ≤ 8 + u ∧ wr.ownsRow w.heap.size 3 1 (.slice A4 m2 c4) m2 ((inflTo r L k ++ (q.xs.take u).map (fun x => (base : Int) + x)).map (Value.int .i64)) ∧ Below w.heap.size w wr) (fun _ i _ => q.xs.length - (intOf i).toNat)
              case atStart => exact ⟨0, m, A3, c3, Nat.zero_le _, rfl, rfl, Lib.hid (by rw [HM.out]; simp), by omega, by simpa using hownd, hbr⟩
              case round =>
                clear hownd hbr hm8 HM
                obtain ⟨u, m2, A4, c4, hu, rfl, rfl, HM2, hm28, hown, hb⟩ := hrel
                have hsz := hb.size
                obtain ⟨bo, oo, rfl, _, hcl⟩ := (hl.next hb).read.at (by have := HKS.out; omega)
                have c3' := hcl k HKS.out
                have hin := (hl.next hb).row (List.getElem_mem HKS.out)
                have hks' : (k : Int) < (rs.length : Int) := by have := HKS.out; omega
                rw [← HQ.out] at c3' hin
                clear hcl
                rcases Nat.lt_or_ge u q.xs.length with hul | hug
                · obtain ⟨bq, oq, hqA, _, hcq⟩ := hin.rd (by omega)
                  have c4' := hcq u hul
                  rw [hqA] at c3'
                  have hxv := HQV.out q.xs[u] (List.getElem_mem hul)
                  have HT := Lib.hid (show inflTo r L k ++ (q.xs.take (u + 1)).map (fun x => (base : Int) + x) = (inflTo r L k ++ (q.xs.take u).map (fun x => (base : Int) + x)) ++ [(base : Int) + q.xs[u]] by rw [List.take_succ_eq_append_getElem hul, List.map_append, List.append_assoc]; rfl)
                  obtain ⟨x, hx⟩ : ∃ x, x = q.xs[u] := ⟨_, rfl⟩
                  rw [← hx] at c4' hxv HT
                  have e3 : IntKind.i64.wrap ((base : Int) + x) = (base : Int) + x := IntWalk.i64_in _ (by omega)
                  clear hcq hqA hin hx
                  go_wp2_with (at_builtin; refine wpList_append_own _ rfl _ _ 24 rfl (w.heap.size) 3 i0 (.int .i64 0) 1 8 Tryz.underlying24 hi hz0 hz1 hz2 rfl (by decide) _ _ _ rfl (World.ownsRow.alloc hown _) ⟨wr.heap.size, 0, none⟩ 1 1 [.int .i64 ((base : Int) + x)] rfl rfl (cell_one_new _ _ _) (by intro u hu; simp at hu; subst hu; rfl) (by unfold maxLen; omega) (by omega) (by simp; omega) ?_; intro v1 w1 hown1 hgrow1 _)
                  obtain ⟨A5, c5, rfl, _, _⟩ := own_shape hown1
                  have hb9 := (hb.alloc hsz (Obj.cells #[Value.int .i64 ((base : Int) + x)] 3)).grown hgrow1 (by simp; omega) (fun g hg => (hown.lt g hg).1)
                  have K := Lib.hid (And.intro (show w1.ownsRow w.heap.size 3 1 (.slice A5 (m2 + 1) c5) (m2 + 1) ((inflTo r L k ++ (q.xs.take (u + 1)).map (fun x => (base : Int) + x)).map (Value.int .i64)) by rw [HT.out, List.map_append]; exact hown1) hb9)
                  clear hown1 hgrow1 hb9 hown hb
                  go_wp2_with fail
                  go_roundw
                  case rel => exact ⟨u + 1, m2 + 1, A5, c5, by omega, by go_num, rfl, Lib.hid (by rw [HT.out, List.length_append, ← HM2.out]; rfl), by omega, K.out.1, K.out.2⟩
                  case measure => simp [intOf]; omega
                · obtain rfl : u = q.xs.length := by omega
                  rw [List.take_length, ← HIS.out] at hown HM2
                  clear hin
                  go_wp2_with fail
                  go_roundw
                  case rel => exact ⟨k + 1, m2, A4, c4, by omega, by go_num, rfl, HM2, hown, hb⟩
                  case measure => simp [intOf]; omega
        · obtain rfl : k = r.length := by omega
          rw [← HIG.out] at HM hown
          obtain ⟨rfl⟩ : m = _ := HM.out
          go_wp2_with fail
          go_ret2
          rw [HIF.out]
          exact ⟨A3, c3, rfl, (own_caps hown).1, (own_caps hown).2, hown, hb⟩
end Go.Proofs.YtldknpjeegdbmaaGreat
