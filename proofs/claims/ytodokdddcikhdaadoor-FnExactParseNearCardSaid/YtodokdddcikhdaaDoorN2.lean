/- The laws' own helpers for patterns with joined places. -/
import Derived.Test.YtodokdddcikhdaaDoorR1
namespace Go.Proofs.YtodokdddcikhdaaDoor
set_option maxRecDepth 100000
open Go Go.RowKit

theorem Read.mem {w : World} {B : Nat} {rs : List Row} {os : List Outer} (h : Read w B rs os) {r : Row} (hr : r ∈ rs) (hl : r.xs.length ≤ 1048576) (hB : B ≤ w.heap.size) : In w r.A r.c r.xs := ⟨hl, h.cap r hr, (h.rd r hr).more hB⟩

theorem eqNear_same (A A' B B' : Option Addr) (c c' k k' : Nat) (xs ys : List Int) (w : World) (hx : In w A c xs) (hy : In w B k ys) (hx' : In w A' c' xs) (hy' : In w B' k' ys) :
    Calls Tryd.prog 6 #[.agg #[.slice A xs.length c, .slice B ys.length k], .agg #[.slice A' xs.length c', .slice B' ys.length k']] w (Rb w (.bool true)) := by
  go_enter Tryd.func6, Tryd.ntmps6
  have hlx := hx.len
  have hly := hy.len
  have hb0 : Below w.heap.size w ((w.alloc (Obj.cells #[Value.slice A xs.length c, Value.slice B ys.length k] 24)).alloc (Obj.cells #[Value.slice A' xs.length c', Value.slice B' ys.length k'] 24)) :=
    ((Below.refl _ _).alloc (Nat.le_refl _) _).alloc (by simp) _
  go_wp2_with fail
  generalize hw0 : ((w.alloc (Obj.cells #[Value.slice A xs.length c, Value.slice B ys.length k] 24)).alloc (Obj.cells #[Value.slice A' xs.length c', Value.slice B' ys.length k'] 24)) = w0 at hb0 ⊢
  have hz : w0.heap.size = w.heap.size + 1 + 1 := by rw [← hw0]; simp
  have o0 : w0.heap[w.heap.size]? = some (Obj.cells #[Value.slice A xs.length c, Value.slice B ys.length k] 24) := by
    rw [← hw0]; exact obj_alloc (obj_new w _) _
  have o1 : w0.heap[w.heap.size + 1]? = some (Obj.cells #[Value.slice A' xs.length c', Value.slice B' ys.length k'] 24) := by
    rw [← hw0]; have := obj_new (w.alloc (Obj.cells #[Value.slice A xs.length c, Value.slice B ys.length k] 24)) (Obj.cells #[Value.slice A' xs.length c', Value.slice B' ys.length k'] 24); simp only [World.size_alloc] at this; exact this
  clear hw0
  (with_reducible refine (eqIntS_same A A' c c' xs w0 (by omega) (hx.next hb0).rd (hx'.next hb0).rd).mono ?_)
  rintro e w1 ⟨rfl, hb1⟩
  have s1 := hb1.size
  have o0 := obj_below o0 hb1 (by omega)
  have o1 := obj_below o1 hb1 (by omega)
  have hb01 := hb0.trans (hb1.mono hb0.size)
  have f0 : w1.cell? ⟨w.heap.size, 1, none⟩ = some (Value.slice B ys.length k) := (obj_cell o0).trans rfl
  have f1 : w1.cell? ⟨w.heap.size + 1, 1, none⟩ = some (Value.slice B' ys.length k') := (obj_cell o1).trans rfl
  go_wp2_with fail
  (with_reducible refine (eqIntS_same B B' k k' ys w1 (by omega) (hy.next hb01).rd (hy'.next hb01).rd).mono ?_)
  rintro e w2 ⟨rfl, hb2⟩
  go_wp2
  go_ret
  exact ⟨rfl, hb01.trans (hb2.mono hb01.size)⟩

theorem markNear_any (A B : Option Addr) (c k lo hi : Nat) (xs ys : List Int) (q : Int) (w : World) (hq : 0 ≤ q ∧ q ≤ 1048576) (hx : xs.length ≤ 1048576) (hy : ys.length ≤ 1048576) (hh : hi ≤ w.heap.size)
    (h : Own w lo hi [⟨A, c, xs⟩, ⟨B, k, ys⟩] []) :
    Calls Tryd.prog 7 #[.agg #[.slice A xs.length c, .slice B ys.length k], .int .i64 q] w fun e w' => e = .returned (.int .i64 (q + xs.length + ys.length)) ∧
      Own w' lo hi [⟨A, c, marks q xs.length⟩, ⟨B, k, marks (q + xs.length) ys.length⟩] [] ∧ Span lo hi w w' := by
  go_enter Tryd.func7, Tryd.ntmps7
  have hb0 : Below w.heap.size w (w.alloc (Obj.cells #[Value.slice A xs.length c, Value.slice B ys.length k] 24)) := (Below.refl _ _).alloc (Nat.le_refl _) _
  go_wp2_with fail
  have o0 := obj_new w (Obj.cells #[Value.slice A xs.length c, Value.slice B ys.length k] 24)
  have hz : (w.alloc (Obj.cells #[Value.slice A xs.length c, Value.slice B ys.length k] 24)).heap.size = w.heap.size + 1 := by simp
  generalize (w.alloc (Obj.cells #[Value.slice A xs.length c, Value.slice B ys.length k] 24)) = w0 at hb0 o0 hz ⊢
  have h0 := h.below hb0
  have hr0 : w0.ownsRow lo 3 1 (.slice A xs.length c) xs.length (xs.map (Value.int .i64)) := h0.rows ⟨A, c, xs⟩ (by simp)
  (with_reducible refine (markIntS_any A c lo xs q w0 (by omega) (by omega) hr0).mono ?_)
  rintro e w1 ⟨rfl, om, hg⟩
  have h1 := Own.mark (rs1 := []) h0 hg om
  have hsp1 := Span.of_grown (lo := lo) (hi := hi) hg (fun g hgg => ⟨((h0.rows ⟨A, c, xs⟩ (by simp)).lt g hgg).1, h0.lt ⟨A, c, xs⟩ (by simp) g hgg⟩)
  simp only [List.nil_append] at h1
  have hsp0 := (Span.of_below (lo := lo) (hi := hi) hb0).trans hsp1
  have o1 : w1.heap[w.heap.size]? = some (Obj.cells #[Value.slice A xs.length c, Value.slice B ys.length k] 24) := (hsp1.block _ (by omega) (.inr (by omega))).trans o0
  have s1 := hsp1.size
  have f0 : w1.cell? ⟨w.heap.size, 1, none⟩ = some (Value.slice B ys.length k) := (obj_cell o1).trans rfl
  clear hg om hsp1 o0
  have hr1 : w1.ownsRow lo 3 1 (.slice B ys.length k) ys.length (ys.map (Value.int .i64)) := h1.rows ⟨B, k, ys⟩ (by simp)
  go_wp2_with fail
  (with_reducible refine (markIntS_any B k lo ys (q + xs.length) w1 (by omega) (by omega) hr1).mono ?_)
  rintro e w2 ⟨rfl, om, hg⟩
  have h2 := Own.mark (rs1 := [⟨A, c, marks q xs.length⟩]) h1 hg om
  have hsp2 := Span.of_grown (lo := lo) (hi := hi) hg (fun g hgg => ⟨((h1.rows ⟨B, k, ys⟩ (by simp)).lt g hgg).1, h1.lt ⟨B, k, ys⟩ (by simp) g hgg⟩)
  go_wp2
  go_ret
  exact ⟨rfl, h2, hsp0.trans hsp2⟩

theorem heldNear_marks (A B : Option Addr) (c k hi : Nat) (q : Int) (n m : Nat) (w : World) (hq : 0 ≤ q ∧ q ≤ 1048576) (hx : n ≤ 1048576) (hy : m ≤ 1048576) (hh : hi ≤ w.heap.size)
    (h : Read w hi [⟨A, c, marks q n⟩, ⟨B, k, marks (q + n) m⟩] []) :
    Calls Tryd.prog 8 #[.agg #[.slice A n c, .slice B m k], .int .i64 q] w (Rb w (.int .i64 (q + n + m))) := by
  go_enter Tryd.func8, Tryd.ntmps8
  have hb0 : Below w.heap.size w (w.alloc (Obj.cells #[Value.slice A n c, Value.slice B m k] 24)) := (Below.refl _ _).alloc (Nat.le_refl _) _
  go_wp2_with fail
  have f1 : (w.alloc (Obj.cells #[Value.slice A n c, Value.slice B m k] 24)).cell? ⟨w.heap.size, 1, none⟩ = some (Value.slice B m k) := by simp
  have hs0 := hb0.size
  generalize (w.alloc (Obj.cells #[Value.slice A n c, Value.slice B m k] 24)) = w0 at hb0 f1 hs0 ⊢
  have h0 := (h.more hh).below hb0
  (with_reducible refine (heldIntS_marks A c q n w0 (by omega) ((h0.rd ⟨A, c, marks q n⟩ (by simp)).more hs0)).mono ?_)
  rintro e w1 ⟨rfl, rfl⟩
  go_wp2_with fail
  (with_reducible refine (heldIntS_marks B k (q + n) m _ (by omega) ((h0.rd ⟨B, k, marks (q + n) m⟩ (by simp)).more hs0)).mono ?_)
  rintro e w1 ⟨rfl, rfl⟩
  go_wp2
  go_ret
  exact ⟨rfl, hb0⟩


end Go.Proofs.YtodokdddcikhdaaDoor
