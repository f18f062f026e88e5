/- The laws' own helpers for patterns with joined places. -/
import Derived.Test.YthkggnmfdlggbaaR1
namespace Go.Proofs.Ythkggnmfdlggbaa
set_option maxRecDepth 100000
open Go Go.RowKit

theorem Read.mem {w : World} {B : Nat} {rs : List Row} {os : List Outer} (h : Read w B rs os) {r : Row} (hr : r ∈ rs) (hl : r.xs.length ≤ 1048576) (hB : B ≤ w.heap.size) : In w r.A r.c r.xs := ⟨hl, h.cap r hr, (h.rd r hr).more hB⟩

set_option maxHeartbeats 1000000 in
theorem toNear_any (A B : Option Addr) (c k : Nat) (xs ys : List Int) (w : World) (hx : In w A c xs) (hy : In w B k ys) :
    Calls Try.prog 12 #[.agg #[.slice A xs.length c, .slice B ys.length k]] w fun e w' => ∃ A' c' B' k', e = .returned (.agg #[.slice A' xs.length c', .slice B' ys.length k']) ∧
      Own w' w.heap.size w'.heap.size [⟨A', c', xs⟩, ⟨B', k', ys⟩] [] ∧ Below w.heap.size w w' := by
  go_enter Try.func12, Try.ntmps12
  have hb0 : Below w.heap.size w (((w.alloc (Obj.cells #[Value.slice A xs.length c, Value.slice B ys.length k] 24)).alloc (Obj.cells #[Value.slice none 0 0, Value.slice none 0 0] 26)).alloc (Obj.cells #[Value.slice none 0 0, Value.slice none 0 0] 26)) :=
    (((Below.refl _ _).alloc (Nat.le_refl _) _).alloc (by simp) _).alloc (by simp; omega) _
  go_wp2_with fail
  generalize hw0 : (((w.alloc (Obj.cells #[Value.slice A xs.length c, Value.slice B ys.length k] 24)).alloc (Obj.cells #[Value.slice none 0 0, Value.slice none 0 0] 26)).alloc (Obj.cells #[Value.slice none 0 0, Value.slice none 0 0] 26)) = w0 at hb0 ⊢
  have hz : w0.heap.size = w.heap.size + 1 + 1 + 1 := by rw [← hw0]; simp
  have o0 : w0.heap[w.heap.size]? = some (Obj.cells #[Value.slice A xs.length c, Value.slice B ys.length k] 24) := by
    rw [← hw0]; exact obj_alloc (obj_alloc (obj_new w _) _) _
  have o1 : w0.heap[w.heap.size + 1]? = some (Obj.cells #[Value.slice none 0 0, Value.slice none 0 0] 26) := by
    rw [← hw0]; have := obj_new (w.alloc (Obj.cells #[Value.slice A xs.length c, Value.slice B ys.length k] 24)) (Obj.cells #[Value.slice none 0 0, Value.slice none 0 0] 26); simp only [World.size_alloc] at this; exact obj_alloc this _
  have o2 : w0.heap[w.heap.size + 1 + 1]? = some (Obj.cells #[Value.slice none 0 0, Value.slice none 0 0] 26) := by
    rw [← hw0]; have := obj_new ((w.alloc (Obj.cells #[Value.slice A xs.length c, Value.slice B ys.length k] 24)).alloc (Obj.cells #[Value.slice none 0 0, Value.slice none 0 0] 26)) (Obj.cells #[Value.slice none 0 0, Value.slice none 0 0] 26); simp only [World.size_alloc] at this; exact this
  clear hw0
  (with_reducible refine (toIntS_any A c xs w0 hx.len (hx.next hb0).rd).mono ?_)
  rintro e w1 ⟨A1, c1, rfl, _, _, own1, hb1⟩
  have s1 := hb1.size
  have o0 := obj_below o0 hb1 (by omega)
  have o1 := obj_below o1 hb1 (by omega)
  have o2 := obj_below o2 hb1 (by omega)
  have hb01 := hb0.trans (hb1.mono hb0.size)
  have f4 : w1.cell? ⟨w.heap.size + 1 + 1, 0, none⟩ = some (Value.slice none 0 0) := (obj_cell o2).trans rfl
  have f5 : w1.frozen? ⟨w.heap.size + 1 + 1, 0, none⟩ = false := obj_frozen o2
  have own1 := (Own.one own1 (Nat.le_refl _)).wider (Nat.le_refl _) (Nat.le_refl _)
  have p2 := obj_set (i := 0) o2 (Value.slice A1 xs.length c1)
  have p1 := obj_other (g' := w.heap.size + 1 + 1) (i := 0) o1 (by omega) (Value.slice A1 xs.length c1)
  have p0 := obj_other (g' := w.heap.size + 1 + 1) (i := 0) o0 (by omega) (Value.slice A1 xs.length c1)
  have own1 := own1.span (Span.set (lo := w.heap.size) (hi := w0.heap.size) (p := ⟨w.heap.size + 1 + 1, 0, none⟩) (by simp; omega) (by simp; omega) (Value.slice A1 xs.length c1)) (.inr (Nat.le_refl _))
  have hb2 := hb01.setCell (p := ⟨w.heap.size + 1 + 1, 0, none⟩) (by simp; omega) (Value.slice A1 xs.length c1)
  have s2 : (w1.setCell ⟨w.heap.size + 1 + 1, 0, none⟩ (Value.slice A1 xs.length c1)).heap.size = w1.heap.size := by simp [World.setCell]
  have f6 : (w1.setCell ⟨w.heap.size + 1 + 1, 0, none⟩ (Value.slice A1 xs.length c1)).cell? ⟨w.heap.size, 1, none⟩ = some (Value.slice B ys.length k) := (obj_cell p0).trans rfl
  clear o0 o1 o2 hb01
  go_wp2_with fail
  generalize w1.setCell ⟨w.heap.size + 1 + 1, 0, none⟩ (Value.slice A1 xs.length c1) = w2 at own1 p0 p1 p2 f6 hb2 s2 ⊢
  (with_reducible refine (toIntS_any B k ys w2 hy.len (hy.next hb2).rd).mono ?_)
  rintro e w3 ⟨A2, c2, rfl, _, _, own2, hb3⟩
  have s3 := hb3.size
  have o1 := obj_below p1 hb3 (by omega)
  have o2 := obj_below p2 hb3 (by omega)
  have own1 := own1.below hb3
  have own2 := (Own.one own2 (Nat.le_refl _)).wider (Nat.le_refl _) (Nat.le_refl _)
  have hb03 := hb2.trans (hb3.mono hb2.size)
  have f4 : w3.cell? ⟨w.heap.size + 1 + 1, 1, none⟩ = some (Value.slice none 0 0) := (obj_cell o2).trans rfl
  have f5 : w3.frozen? ⟨w.heap.size + 1 + 1, 1, none⟩ = false := obj_frozen o2
  have q2 := obj_set (i := 1) o2 (Value.slice A2 ys.length c2)
  have q1 := obj_other (g' := w.heap.size + 1 + 1) (i := 1) o1 (by omega) (Value.slice A2 ys.length c2)
  have hsp : Span w.heap.size w0.heap.size w3 (w3.setCell ⟨w.heap.size + 1 + 1, 1, none⟩ (Value.slice A2 ys.length c2)) := Span.set (by simp; omega) (by simp; omega) _
  have own1 := own1.span hsp (.inr (Nat.le_refl _))
  have own2 := own2.span hsp (.inr (by omega))
  have hb4 := hb03.setCell (p := ⟨w.heap.size + 1 + 1, 1, none⟩) (by simp; omega) (Value.slice A2 ys.length c2)
  have s4 : (w3.setCell ⟨w.heap.size + 1 + 1, 1, none⟩ (Value.slice A2 ys.length c2)).heap.size = w3.heap.size := by simp [World.setCell]
  clear hsp
  have g0 : (w3.setCell ⟨w.heap.size + 1 + 1, 1, none⟩ (Value.slice A2 ys.length c2)).cell? ⟨w.heap.size + 1 + 1, 0, none⟩ = some (Value.slice A1 xs.length c1) := (obj_cell q2).trans rfl
  have g1 : (w3.setCell ⟨w.heap.size + 1 + 1, 1, none⟩ (Value.slice A2 ys.length c2)).cell? ⟨w.heap.size + 1 + 1, 1, none⟩ = some (Value.slice A2 ys.length c2) := (obj_cell q2).trans rfl
  have g2 : (w3.setCell ⟨w.heap.size + 1 + 1, 1, none⟩ (Value.slice A2 ys.length c2)).cell? ⟨w.heap.size + 1, 0, none⟩ = some (Value.slice none 0 0) := (obj_cell q1).trans rfl
  have g3 : (w3.setCell ⟨w.heap.size + 1 + 1, 1, none⟩ (Value.slice A2 ys.length c2)).cell? ⟨w.heap.size + 1, 1, none⟩ = some (Value.slice none 0 0) := (obj_cell q1).trans rfl
  have g4 : (w3.setCell ⟨w.heap.size + 1 + 1, 1, none⟩ (Value.slice A2 ys.length c2)).frozen? ⟨w.heap.size + 1, 0, none⟩ = false := obj_frozen q1
  have g5 : (w3.setCell ⟨w.heap.size + 1 + 1, 1, none⟩ (Value.slice A2 ys.length c2)).frozen? ⟨w.heap.size + 1, 1, none⟩ = false := obj_frozen q1
  have r1 := obj_set (i := 1) (obj_set (i := 0) q1 (Value.slice A1 xs.length c1)) (Value.slice A2 ys.length c2)
  have hsp : Span w.heap.size w0.heap.size (w3.setCell ⟨w.heap.size + 1 + 1, 1, none⟩ (Value.slice A2 ys.length c2)) (((w3.setCell ⟨w.heap.size + 1 + 1, 1, none⟩ (Value.slice A2 ys.length c2)).setCell ⟨w.heap.size + 1, 0, none⟩ (Value.slice A1 xs.length c1)).setCell ⟨w.heap.size + 1, 1, none⟩ (Value.slice A2 ys.length c2)) :=
    (Span.set (by simp) (by simp; omega) _).trans (Span.set (by simp) (by simp; omega) _)
  have own1 := own1.span hsp (.inr (Nat.le_refl _))
  have own2 := own2.span hsp (.inr (by omega))
  have hb5 := (hb4.setCell (p := ⟨w.heap.size + 1, 0, none⟩) (by simp) (Value.slice A1 xs.length c1)).setCell (p := ⟨w.heap.size + 1, 1, none⟩) (by simp) (Value.slice A2 ys.length c2)
  have s5 := hsp.size
  have l0 : (((w3.setCell ⟨w.heap.size + 1 + 1, 1, none⟩ (Value.slice A2 ys.length c2)).setCell ⟨w.heap.size + 1, 0, none⟩ (Value.slice A1 xs.length c1)).setCell ⟨w.heap.size + 1, 1, none⟩ (Value.slice A2 ys.length c2)).cell? ⟨w.heap.size + 1, 0, none⟩ = some (Value.slice A1 xs.length c1) := (obj_cell r1).trans rfl
  have l1 : (((w3.setCell ⟨w.heap.size + 1 + 1, 1, none⟩ (Value.slice A2 ys.length c2)).setCell ⟨w.heap.size + 1, 0, none⟩ (Value.slice A1 xs.length c1)).setCell ⟨w.heap.size + 1, 1, none⟩ (Value.slice A2 ys.length c2)).cell? ⟨w.heap.size + 1, 1, none⟩ = some (Value.slice A2 ys.length c2) := (obj_cell r1).trans rfl
  clear hsp
  go_wp2_with fail
  refine bodyPost_ret (v := .agg #[.slice A1 xs.length c1, .slice A2 ys.length c2]) (by simp [results, Try.results12, go_sem, l0, l1]) rfl ?_
  exact ⟨_, _, _, _, rfl, (own1.wider (by omega) (Nat.le_refl _)).app (own2.wider (by omega) (by omega)) (by omega) (by omega), hb5⟩
theorem eqNear_same (A A' B B' : Option Addr) (c c' k k' : Nat) (xs ys : List Int) (w : World) (hx : In w A c xs) (hy : In w B k ys) (hx' : In w A' c' xs) (hy' : In w B' k' ys) :
    Calls Try.prog 14 #[.agg #[.slice A xs.length c, .slice B ys.length k], .agg #[.slice A' xs.length c', .slice B' ys.length k']] w (Rb w (.bool true)) := by
  go_enter Try.func14, Try.ntmps14
  have hlx := hx.len
  have hly := hy.len
  have hb0 : Below w.heap.size w ((w.alloc (Obj.cells #[Value.slice A xs.length c, Value.slice B ys.length k] 26)).alloc (Obj.cells #[Value.slice A' xs.length c', Value.slice B' ys.length k'] 26)) :=
    ((Below.refl _ _).alloc (Nat.le_refl _) _).alloc (by simp) _
  go_wp2_with fail
  generalize hw0 : ((w.alloc (Obj.cells #[Value.slice A xs.length c, Value.slice B ys.length k] 26)).alloc (Obj.cells #[Value.slice A' xs.length c', Value.slice B' ys.length k'] 26)) = w0 at hb0 ⊢
  have hz : w0.heap.size = w.heap.size + 1 + 1 := by rw [← hw0]; simp
  have o0 : w0.heap[w.heap.size]? = some (Obj.cells #[Value.slice A xs.length c, Value.slice B ys.length k] 26) := by
    rw [← hw0]; exact obj_alloc (obj_new w _) _
  have o1 : w0.heap[w.heap.size + 1]? = some (Obj.cells #[Value.slice A' xs.length c', Value.slice B' ys.length k'] 26) := by
    rw [← hw0]; have := obj_new (w.alloc (Obj.cells #[Value.slice A xs.length c, Value.slice B ys.length k] 26)) (Obj.cells #[Value.slice A' xs.length c', Value.slice B' ys.length k'] 26); simp only [World.size_alloc] at this; exact this
  clear hw0
  (with_reducible refine (eqIntS_same A A' c c' xs w0 (by omega) (hx.next hb0).rd (hx'.next hb0).rd).mono ?_)
  rintro e w1 ⟨rfl, hb1⟩
  have s1 := hb1.size
  have o0 := obj_below o0 hb1 (by omega)
  have o1 := obj_below o1 hb1 (by omega)
  have hb01 := hb0.trans (hb1.mono hb0.size)
  have f0 : w1.cell? ⟨w.heap.size, 1, none⟩ = some (Value.slice B ys.length k) := (obj_cell o0).trans rfl
  have f1 : w1.cell? ⟨w.heap.size + 1, 1, none⟩ = some (Value.slice B' ys.length k') := (obj_cell o1).trans rfl
  go_wp2_with fail
  (with_reducible refine (eqIntS_same B B' k k' ys w1 (by omega) (hy.next hb01).rd (hy'.next hb01).rd).mono ?_)
  rintro e w2 ⟨rfl, hb2⟩
  go_wp2
  go_ret
  exact ⟨rfl, hb01.trans (hb2.mono hb01.size)⟩

theorem markNear_any (A B : Option Addr) (c k lo hi : Nat) (xs ys : List Int) (q : Int) (w : World) (hq : 0 ≤ q ∧ q ≤ 1048576) (hx : xs.length ≤ 1048576) (hy : ys.length ≤ 1048576) (hh : hi ≤ w.heap.size)
    (h : Own w lo hi [⟨A, c, xs⟩, ⟨B, k, ys⟩] []) :
    Calls Try.prog 15 #[.agg #[.slice A xs.length c, .slice B ys.length k], .int .i64 q] w fun e w' => e = .returned (.int .i64 (q + xs.length + ys.length)) ∧
      Own w' lo hi [⟨A, c, marks q xs.length⟩, ⟨B, k, marks (q + xs.length) ys.length⟩] [] ∧ Span lo hi w w' := by
  go_enter Try.func15, Try.ntmps15
  have hb0 : Below w.heap.size w (w.alloc (Obj.cells #[Value.slice A xs.length c, Value.slice B ys.length k] 26)) := (Below.refl _ _).alloc (Nat.le_refl _) _
  go_wp2_with fail
  have o0 := obj_new w (Obj.cells #[Value.slice A xs.length c, Value.slice B ys.length k] 26)
  have hz : (w.alloc (Obj.cells #[Value.slice A xs.length c, Value.slice B ys.length k] 26)).heap.size = w.heap.size + 1 := by simp
  generalize (w.alloc (Obj.cells #[Value.slice A xs.length c, Value.slice B ys.length k] 26)) = w0 at hb0 o0 hz ⊢
  have h0 := h.below hb0
  have hr0 : w0.ownsRow lo 3 1 (.slice A xs.length c) xs.length (xs.map (Value.int .i64)) := h0.rows ⟨A, c, xs⟩ (by simp)
  (with_reducible refine (markIntS_any A c lo xs q w0 (by omega) (by omega) hr0).mono ?_)
  rintro e w1 ⟨rfl, om, hg⟩
  have h1 := Own.mark (rs1 := []) h0 hg om
  have hsp1 := Span.of_grown (lo := lo) (hi := hi) hg (fun g hgg => ⟨((h0.rows ⟨A, c, xs⟩ (by simp)).lt g hgg).1, h0.lt ⟨A, c, xs⟩ (by simp) g hgg⟩)
  simp only [List.nil_append] at h1
  have hsp0 := (Span.of_below (lo := lo) (hi := hi) hb0).trans hsp1
  have o1 : w1.heap[w.heap.size]? = some (Obj.cells #[Value.slice A xs.length c, Value.slice B ys.length k] 26) := (hsp1.block _ (by omega) (.inr (by omega))).trans o0
  have s1 := hsp1.size
  have f0 : w1.cell? ⟨w.heap.size, 1, none⟩ = some (Value.slice B ys.length k) := (obj_cell o1).trans rfl
  clear hg om hsp1 o0
  have hr1 : w1.ownsRow lo 3 1 (.slice B ys.length k) ys.length (ys.map (Value.int .i64)) := h1.rows ⟨B, k, ys⟩ (by simp)
  go_wp2_with fail
  (with_reducible refine (markIntS_any B k lo ys (q + xs.length) w1 (by omega) (by omega) hr1).mono ?_)
  rintro e w2 ⟨rfl, om, hg⟩
  have h2 := Own.mark (rs1 := [⟨A, c, marks q xs.length⟩]) h1 hg om
  have hsp2 := Span.of_grown (lo := lo) (hi := hi) hg (fun g hgg => ⟨((h1.rows ⟨B, k, ys⟩ (by simp)).lt g hgg).1, h1.lt ⟨B, k, ys⟩ (by simp) g hgg⟩)
  go_wp2
  go_ret
  exact ⟨rfl, h2, hsp0.trans hsp2⟩

theorem heldNear_marks (A B : Option Addr) (c k hi : Nat) (q : Int) (n m : Nat) (w : World) (hq : 0 ≤ q ∧ q ≤ 1048576) (hx : n ≤ 1048576) (hy : m ≤ 1048576) (hh : hi ≤ w.heap.size)
    (h : Read w hi [⟨A, c, marks q n⟩, ⟨B, k, marks (q + n) m⟩] []) :
    Calls Try.prog 16 #[.agg #[.slice A n c, .slice B m k], .int .i64 q] w (Rb w (.int .i64 (q + n + m))) := by
  go_enter Try.func16, Try.ntmps16
  have hb0 : Below w.heap.size w (w.alloc (Obj.cells #[Value.slice A n c, Value.slice B m k] 26)) := (Below.refl _ _).alloc (Nat.le_refl _) _
  go_wp2_with fail
  have f1 : (w.alloc (Obj.cells #[Value.slice A n c, Value.slice B m k] 26)).cell? ⟨w.heap.size, 1, none⟩ = some (Value.slice B m k) := by simp
  have hs0 := hb0.size
  generalize (w.alloc (Obj.cells #[Value.slice A n c, Value.slice B m k] 26)) = w0 at hb0 f1 hs0 ⊢
  have h0 := (h.more hh).below hb0
  (with_reducible refine (heldIntS_marks A c q n w0 (by omega) ((h0.rd ⟨A, c, marks q n⟩ (by simp)).more hs0)).mono ?_)
  rintro e w1 ⟨rfl, rfl⟩
  go_wp2_with fail
  (with_reducible refine (heldIntS_marks B k (q + n) m _ (by omega) ((h0.rd ⟨B, k, marks (q + n) m⟩ (by simp)).more hs0)).mono ?_)
  rintro e w1 ⟨rfl, rfl⟩
  go_wp2
  go_ret
  exact ⟨rfl, hb0⟩

theorem szIntS_ok (A : Option Addr) (c n : Nat) (l : Int) (w : World) (hl : l ≤ 4611686018427387904) (hn : (n : Int) ≤ l) :
    Calls Try.prog 39 #[.slice A n c, .int .i64 l] w fun e w' => e = .returned (.int .i64 (l - n)) ∧ w = w' := by
  go_enter Try.func39, Try.ntmps39
  go_wp2
  go_ret
  exact ⟨rfl, rfl⟩
theorem szIntS_no (A : Option Addr) (c n : Nat) (l : Int) (w : World) (hl : 0 ≤ l) (hc : n ≤ 9223372036854775807) (hn : l < (n : Int)) :
    Calls Try.prog 39 #[.slice A n c, .int .i64 l] w fun e w' => e = .returned (.int .i64 (-1)) ∧ w = w' := by
  go_enter Try.func39, Try.ntmps39
  go_wp2
  go_ret
  exact ⟨rfl, rfl⟩

theorem szNear_ok (A B : Option Addr) (c k n m : Nat) (l : Int) (w : World) (hl : l ≤ 4611686018427387904) (hn : (n : Int) + m ≤ l) :
    Calls Try.prog 10 #[.agg #[.slice A n c, .slice B m k], .int .i64 l] w (Rb w (.int .i64 (l - n - m))) := by
  go_enter Try.func10, Try.ntmps10
  have hb0 : Below w.heap.size w (w.alloc (Obj.cells #[Value.slice A n c, Value.slice B m k] 24)) := (Below.refl _ _).alloc (Nat.le_refl _) _
  go_wp2_with fail
  (with_reducible refine (szIntS_ok A c n l _ hl (by omega)).mono ?_)
  rintro e w1 ⟨rfl, rfl⟩
  go_wp2_with fail
  (with_reducible refine (szIntS_ok B k m (l - n) _ (by omega) (by omega)).mono ?_)
  rintro e w1 ⟨rfl, rfl⟩
  go_wp2
  go_ret
  exact ⟨rfl, hb0⟩
theorem szNear_no (A B : Option Addr) (c k n m : Nat) (l : Int) (w : World) (hl : 0 ≤ l ∧ l ≤ 4611686018427387904) (hc : n ≤ 9223372036854775807) (hk : m ≤ 9223372036854775807) (hn : l < (n : Int) + m) :
    Calls Try.prog 10 #[.agg #[.slice A n c, .slice B m k], .int .i64 l] w (Rb w (.int .i64 (-1))) := by
  go_enter Try.func10, Try.ntmps10
  have hb0 : Below w.heap.size w (w.alloc (Obj.cells #[Value.slice A n c, Value.slice B m k] 24)) := (Below.refl _ _).alloc (Nat.le_refl _) _
  rcases Int.lt_or_le l (n : Int) with h1 | h1
  · go_wp2_with fail
    (with_reducible refine (szIntS_no A c n l _ (by omega) hc h1).mono ?_)
    rintro e w1 ⟨rfl, rfl⟩
    go_wp2
    go_ret
    exact ⟨rfl, hb0⟩
  · go_wp2_with fail
    (with_reducible refine (szIntS_ok A c n l _ (by omega) h1).mono ?_)
    rintro e w1 ⟨rfl, rfl⟩
    go_wp2_with fail
    (with_reducible refine (szIntS_no B k m (l - n) _ (by omega) hk (by omega)).mono ?_)
    rintro e w1 ⟨rfl, rfl⟩
    go_wp2
    go_ret
    exact ⟨rfl, hb0⟩
end Go.Proofs.Ythkggnmfdlggbaa
