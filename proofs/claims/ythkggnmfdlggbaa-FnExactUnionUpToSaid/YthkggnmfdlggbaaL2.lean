/- The laws' own helpers for meshes: turned from N2. -/
import Derived.Test.YthkggnmfdlggbaaL1
namespace Go.Proofs.Ythkggnmfdlggbaa
set_option maxRecDepth 100000
open Go Go.RowKit

structure InM (w : World) (A : Option Addr) (c : Nat) (xs : List Int) (B : Option Addr) (k : Nat) (rs : List Row) : Prop where
  fst : In w A c xs
  snd : InL w B k rs
theorem InM.next {w w' : World} {A : Option Addr} {c : Nat} {xs : List Int} {B : Option Addr} {k : Nat} {rs : List Row} (h : InM w A c xs B k rs) (hb : Below w.heap.size w w') : InM w' A c xs B k rs := ⟨h.1.next hb, h.2.next hb⟩
theorem Read.tail {w : World} {B : Nat} {r : Row} {rs : List Row} {os : List Outer} (h : Read w B (r :: rs) os) : Read w B rs os := ⟨fun s hs => h.cap s (List.mem_cons_of_mem _ hs), fun s hs => h.rd s (List.mem_cons_of_mem _ hs), h.ocap, h.ord⟩
theorem Read.toM {w : World} {hi : Nat} {A B : Option Addr} {c k : Nat} {xs : List Int} {rs : List Row} (h : Read w hi (⟨A, c, xs⟩ :: rs) [⟨B, k, rs.map Row.v⟩]) (hl : xs.length ≤ 1048576) (hl' : rs.length + sizeR rs ≤ 1048576) (hB : hi ≤ w.heap.size) : InM w A c xs B k rs :=
  ⟨h.mem (r := ⟨A, c, xs⟩) List.mem_cons_self hl hB, h.tail.toL hl' hB⟩
set_option maxHeartbeats 1000000 in
theorem toM_any (A B : Option Addr) (c k : Nat) (xs : List Int) (rs : List Row) (w : World) (hx : In w A c xs) (hy : InL w B k rs) :
    Calls Try.prog 19 #[.agg #[.slice A xs.length c, .slice B rs.length k]] w fun e w' => ∃ A' B' c' k' rs', e = .returned (.agg #[.slice A' xs.length c', .slice B' rs'.length k']) ∧ rs'.map Row.xs = rs.map Row.xs ∧
      Own w' w.heap.size w'.heap.size (⟨A', c', xs⟩ :: rs') [⟨B', k', rs'.map Row.v⟩] ∧ Below w.heap.size w w' := by
  go_enter Try.func19, Try.ntmps19
  have hb0 : Below w.heap.size w (((w.alloc (Obj.cells #[Value.slice A xs.length c, Value.slice B rs.length k] 35)).alloc (Obj.cells #[Value.slice none 0 0, Value.slice none 0 0] 37)).alloc (Obj.cells #[Value.slice none 0 0, Value.slice none 0 0] 37)) :=
    (((Below.refl _ _).alloc (Nat.le_refl _) _).alloc (by simp) _).alloc (by simp; omega) _
  go_wp2_with fail
  generalize hw0 : (((w.alloc (Obj.cells #[Value.slice A xs.length c, Value.slice B rs.length k] 35)).alloc (Obj.cells #[Value.slice none 0 0, Value.slice none 0 0] 37)).alloc (Obj.cells #[Value.slice none 0 0, Value.slice none 0 0] 37)) = w0 at hb0 ⊢
  have hz : w0.heap.size = w.heap.size + 1 + 1 + 1 := by rw [← hw0]; simp
  have o0 : w0.heap[w.heap.size]? = some (Obj.cells #[Value.slice A xs.length c, Value.slice B rs.length k] 35) := by
    rw [← hw0]; exact obj_alloc (obj_alloc (obj_new w _) _) _
  have o1 : w0.heap[w.heap.size + 1]? = some (Obj.cells #[Value.slice none 0 0, Value.slice none 0 0] 37) := by
    rw [← hw0]; have := obj_new (w.alloc (Obj.cells #[Value.slice A xs.length c, Value.slice B rs.length k] 35)) (Obj.cells #[Value.slice none 0 0, Value.slice none 0 0] 37); simp only [World.size_alloc] at this; exact obj_alloc this _
  have o2 : w0.heap[w.heap.size + 1 + 1]? = some (Obj.cells #[Value.slice none 0 0, Value.slice none 0 0] 37) := by
    rw [← hw0]; have := obj_new ((w.alloc (Obj.cells #[Value.slice A xs.length c, Value.slice B rs.length k] 35)).alloc (Obj.cells #[Value.slice none 0 0, Value.slice none 0 0] 37)) (Obj.cells #[Value.slice none 0 0, Value.slice none 0 0] 37); simp only [World.size_alloc] at this; exact this
  clear hw0
  (with_reducible refine (toIntS_any A c xs w0 hx.len (hx.next hb0).rd).mono ?_)
  rintro e w1 ⟨A1, c1, rfl, _, _, own1, hb1⟩
  have s1 := hb1.size
  have o0 := obj_below o0 hb1 (by omega)
  have o1 := obj_below o1 hb1 (by omega)
  have o2 := obj_below o2 hb1 (by omega)
  have hb01 := hb0.trans (hb1.mono hb0.size)
  have f4 : w1.cell? ⟨w.heap.size + 1 + 1, 0, none⟩ = some (Value.slice none 0 0) := (obj_cell o2).trans rfl
  have f5 : w1.frozen? ⟨w.heap.size + 1 + 1, 0, none⟩ = false := obj_frozen o2
  have own1 := (Own.one own1 (Nat.le_refl _)).wider (Nat.le_refl _) (Nat.le_refl _)
  have p2 := obj_set (i := 0) o2 (Value.slice A1 xs.length c1)
  have p1 := obj_other (g' := w.heap.size + 1 + 1) (i := 0) o1 (by omega) (Value.slice A1 xs.length c1)
  have p0 := obj_other (g' := w.heap.size + 1 + 1) (i := 0) o0 (by omega) (Value.slice A1 xs.length c1)
  have own1 := own1.span (Span.set (lo := w.heap.size) (hi := w0.heap.size) (p := ⟨w.heap.size + 1 + 1, 0, none⟩) (by simp; omega) (by simp; omega) (Value.slice A1 xs.length c1)) (.inr (Nat.le_refl _))
  have hb2 := hb01.setCell (p := ⟨w.heap.size + 1 + 1, 0, none⟩) (by simp; omega) (Value.slice A1 xs.length c1)
  have s2 : (w1.setCell ⟨w.heap.size + 1 + 1, 0, none⟩ (Value.slice A1 xs.length c1)).heap.size = w1.heap.size := by simp [World.setCell]
  have f6 : (w1.setCell ⟨w.heap.size + 1 + 1, 0, none⟩ (Value.slice A1 xs.length c1)).cell? ⟨w.heap.size, 1, none⟩ = some (Value.slice B rs.length k) := (obj_cell p0).trans rfl
  clear o0 o1 o2 hb01
  go_wp2_with fail
  generalize w1.setCell ⟨w.heap.size + 1 + 1, 0, none⟩ (Value.slice A1 xs.length c1) = w2 at own1 p0 p1 p2 f6 hb2 s2 ⊢
  (with_reducible refine (toL_R B k rs w2 (hy.next hb2)).mono ?_)
  rintro e w3 ⟨A2, c2, rs2, rfl, eq2, own2, hb3⟩
  have EQ2 := Lib.hid eq2
  clear eq2
  have s3 := hb3.size
  have o1 := obj_below p1 hb3 (by omega)
  have o2 := obj_below p2 hb3 (by omega)
  have own1 := own1.below hb3
  have hb03 := hb2.trans (hb3.mono hb2.size)
  have f4 : w3.cell? ⟨w.heap.size + 1 + 1, 1, none⟩ = some (Value.slice none 0 0) := (obj_cell o2).trans rfl
  have f5 : w3.frozen? ⟨w.heap.size + 1 + 1, 1, none⟩ = false := obj_frozen o2
  have q2 := obj_set (i := 1) o2 (Value.slice A2 rs2.length c2)
  have q1 := obj_other (g' := w.heap.size + 1 + 1) (i := 1) o1 (by omega) (Value.slice A2 rs2.length c2)
  have hsp : Span w.heap.size w0.heap.size w3 (w3.setCell ⟨w.heap.size + 1 + 1, 1, none⟩ (Value.slice A2 rs2.length c2)) := Span.set (by simp; omega) (by simp; omega) _
  have own1 := own1.span hsp (.inr (Nat.le_refl _))
  have own2 := own2.span hsp (.inr (by omega))
  have hb4 := hb03.setCell (p := ⟨w.heap.size + 1 + 1, 1, none⟩) (by simp; omega) (Value.slice A2 rs2.length c2)
  have s4 : (w3.setCell ⟨w.heap.size + 1 + 1, 1, none⟩ (Value.slice A2 rs2.length c2)).heap.size = w3.heap.size := by simp [World.setCell]
  clear hsp
  have g0 : (w3.setCell ⟨w.heap.size + 1 + 1, 1, none⟩ (Value.slice A2 rs2.length c2)).cell? ⟨w.heap.size + 1 + 1, 0, none⟩ = some (Value.slice A1 xs.length c1) := (obj_cell q2).trans rfl
  have g1 : (w3.setCell ⟨w.heap.size + 1 + 1, 1, none⟩ (Value.slice A2 rs2.length c2)).cell? ⟨w.heap.size + 1 + 1, 1, none⟩ = some (Value.slice A2 rs2.length c2) := (obj_cell q2).trans rfl
  have g2 : (w3.setCell ⟨w.heap.size + 1 + 1, 1, none⟩ (Value.slice A2 rs2.length c2)).cell? ⟨w.heap.size + 1, 0, none⟩ = some (Value.slice none 0 0) := (obj_cell q1).trans rfl
  have g3 : (w3.setCell ⟨w.heap.size + 1 + 1, 1, none⟩ (Value.slice A2 rs2.length c2)).cell? ⟨w.heap.size + 1, 1, none⟩ = some (Value.slice none 0 0) := (obj_cell q1).trans rfl
  have g4 : (w3.setCell ⟨w.heap.size + 1 + 1, 1, none⟩ (Value.slice A2 rs2.length c2)).frozen? ⟨w.heap.size + 1, 0, none⟩ = false := obj_frozen q1
  have g5 : (w3.setCell ⟨w.heap.size + 1 + 1, 1, none⟩ (Value.slice A2 rs2.length c2)).frozen? ⟨w.heap.size + 1, 1, none⟩ = false := obj_frozen q1
  have r1 := obj_set (i := 1) (obj_set (i := 0) q1 (Value.slice A1 xs.length c1)) (Value.slice A2 rs2.length c2)
  have hsp : Span w.heap.size w0.heap.size (w3.setCell ⟨w.heap.size + 1 + 1, 1, none⟩ (Value.slice A2 rs2.length c2)) (((w3.setCell ⟨w.heap.size + 1 + 1, 1, none⟩ (Value.slice A2 rs2.length c2)).setCell ⟨w.heap.size + 1, 0, none⟩ (Value.slice A1 xs.length c1)).setCell ⟨w.heap.size + 1, 1, none⟩ (Value.slice A2 rs2.length c2)) :=
    (Span.set (by simp) (by simp; omega) _).trans (Span.set (by simp) (by simp; omega) _)
  have own1 := own1.span hsp (.inr (Nat.le_refl _))
  have own2 := own2.span hsp (.inr (by omega))
  have hb5 := (hb4.setCell (p := ⟨w.heap.size + 1, 0, none⟩) (by simp) (Value.slice A1 xs.length c1)).setCell (p := ⟨w.heap.size + 1, 1, none⟩) (by simp) (Value.slice A2 rs2.length c2)
  have s5 := hsp.size
  have l0 : (((w3.setCell ⟨w.heap.size + 1 + 1, 1, none⟩ (Value.slice A2 rs2.length c2)).setCell ⟨w.heap.size + 1, 0, none⟩ (Value.slice A1 xs.length c1)).setCell ⟨w.heap.size + 1, 1, none⟩ (Value.slice A2 rs2.length c2)).cell? ⟨w.heap.size + 1, 0, none⟩ = some (Value.slice A1 xs.length c1) := (obj_cell r1).trans rfl
  have l1 : (((w3.setCell ⟨w.heap.size + 1 + 1, 1, none⟩ (Value.slice A2 rs2.length c2)).setCell ⟨w.heap.size + 1, 0, none⟩ (Value.slice A1 xs.length c1)).setCell ⟨w.heap.size + 1, 1, none⟩ (Value.slice A2 rs2.length c2)).cell? ⟨w.heap.size + 1, 1, none⟩ = some (Value.slice A2 rs2.length c2) := (obj_cell r1).trans rfl
  clear hsp
  go_wp2_with fail
  refine bodyPost_ret (v := .agg #[.slice A1 xs.length c1, .slice A2 rs2.length c2]) (by simp [results, Try.results19, go_sem, l0, l1]) rfl ?_
  exact ⟨_, _, _, _, _, rfl, EQ2.out, (own1.wider (by omega) (Nat.le_refl _)).app (own2.wider (by omega) (by omega)) (by omega) (by omega), hb5⟩
theorem eqMesh_same (A A' B B' : Option Addr) (c c' k k' : Nat) (xs : List Int) (rs rs' : List Row) (w : World) (hx : In w A c xs) (hy : InL w B k rs) (hx' : In w A' c' xs) (hy' : InL w B' k' rs') (he : rs.map Row.xs = rs'.map Row.xs) :
    Calls Try.prog 21 #[.agg #[.slice A xs.length c, .slice B rs.length k], .agg #[.slice A' xs.length c', .slice B' rs'.length k']] w (Rb w (.bool true)) := by
  have HE := Lib.hid he
  clear he
  go_enter Try.func21, Try.ntmps21
  have hlx := hx.len
  have hb0 : Below w.heap.size w ((w.alloc (Obj.cells #[Value.slice A xs.length c, Value.slice B rs.length k] 37)).alloc (Obj.cells #[Value.slice A' xs.length c', Value.slice B' rs'.length k'] 37)) :=
    ((Below.refl _ _).alloc (Nat.le_refl _) _).alloc (by simp) _
  go_wp2_with fail
  generalize hw0 : ((w.alloc (Obj.cells #[Value.slice A xs.length c, Value.slice B rs.length k] 37)).alloc (Obj.cells #[Value.slice A' xs.length c', Value.slice B' rs'.length k'] 37)) = w0 at hb0 ⊢
  have hz : w0.heap.size = w.heap.size + 1 + 1 := by rw [← hw0]; simp
  have o0 : w0.heap[w.heap.size]? = some (Obj.cells #[Value.slice A xs.length c, Value.slice B rs.length k] 37) := by
    rw [← hw0]; exact obj_alloc (obj_new w _) _
  have o1 : w0.heap[w.heap.size + 1]? = some (Obj.cells #[Value.slice A' xs.length c', Value.slice B' rs'.length k'] 37) := by
    rw [← hw0]; have := obj_new (w.alloc (Obj.cells #[Value.slice A xs.length c, Value.slice B rs.length k] 37)) (Obj.cells #[Value.slice A' xs.length c', Value.slice B' rs'.length k'] 37); simp only [World.size_alloc] at this; exact this
  clear hw0
  (with_reducible refine (eqIntS_same A A' c c' xs w0 (by omega) (hx.next hb0).rd (hx'.next hb0).rd).mono ?_)
  rintro e w1 ⟨rfl, hb1⟩
  have s1 := hb1.size
  have o0 := obj_below o0 hb1 (by omega)
  have o1 := obj_below o1 hb1 (by omega)
  have hb01 := hb0.trans (hb1.mono hb0.size)
  have f0 : w1.cell? ⟨w.heap.size, 1, none⟩ = some (Value.slice B rs.length k) := (obj_cell o0).trans rfl
  have f1 : w1.cell? ⟨w.heap.size + 1, 1, none⟩ = some (Value.slice B' rs'.length k') := (obj_cell o1).trans rfl
  go_wp2_with fail
  (with_reducible refine (eqL_R B B' k k' rs rs' w1 (hy.next hb01) (hy'.next hb01) HE.out).mono ?_)
  rintro e w2 ⟨rfl, hb2⟩
  go_wp2
  go_ret
  exact ⟨rfl, hb01.trans (hb2.mono hb01.size)⟩

theorem markMesh_any (A B : Option Addr) (c k lo hi : Nat) (xs : List Int) (rs : List Row) (q : Int) (w : World) (hq : 0 ≤ q ∧ q ≤ 1048576) (hx : xs.length ≤ 1048576) (hy : rs.length + sizeR rs ≤ 1048576) (hh : hi ≤ w.heap.size)
    (h : Own w lo hi (⟨A, c, xs⟩ :: rs) [⟨B, k, rs.map Row.v⟩]) :
    Calls Try.prog 22 #[.agg #[.slice A xs.length c, .slice B rs.length k], .int .i64 q] w fun e w' => e = .returned (.int .i64 (q + xs.length + (sizeR rs : Nat))) ∧
      Own w' lo hi (⟨A, c, marks q xs.length⟩ :: marked (q + xs.length) rs) [⟨B, k, rs.map Row.v⟩] ∧ Span lo hi w w' := by
  go_enter Try.func22, Try.ntmps22
  have hb0 : Below w.heap.size w (w.alloc (Obj.cells #[Value.slice A xs.length c, Value.slice B rs.length k] 37)) := (Below.refl _ _).alloc (Nat.le_refl _) _
  go_wp2_with fail
  have o0 := obj_new w (Obj.cells #[Value.slice A xs.length c, Value.slice B rs.length k] 37)
  have hz : (w.alloc (Obj.cells #[Value.slice A xs.length c, Value.slice B rs.length k] 37)).heap.size = w.heap.size + 1 := by simp
  generalize (w.alloc (Obj.cells #[Value.slice A xs.length c, Value.slice B rs.length k] 37)) = w0 at hb0 o0 hz ⊢
  have h0 := h.below hb0
  have hr0 : w0.ownsRow lo 3 1 (.slice A xs.length c) xs.length (xs.map (Value.int .i64)) := h0.rows ⟨A, c, xs⟩ List.mem_cons_self
  (with_reducible refine (markIntS_any A c lo xs q w0 (by omega) (by omega) hr0).mono ?_)
  rintro e w1 ⟨rfl, om, hg⟩
  have h1 := Own.mark (rs1 := []) h0 hg om
  have hsp1 := Span.of_grown (lo := lo) (hi := hi) hg (fun g hgg => ⟨(hr0.lt g hgg).1, h0.lt ⟨A, c, xs⟩ List.mem_cons_self g hgg⟩)
  simp only [List.nil_append] at h1
  have hsp0 := (Span.of_below (lo := lo) (hi := hi) hb0).trans hsp1
  have o1 : w1.heap[w.heap.size]? = some (Obj.cells #[Value.slice A xs.length c, Value.slice B rs.length k] 37) := (hsp1.block _ (by omega) (.inr (by omega))).trans o0
  have s1 := hsp1.size
  have f0 : w1.cell? ⟨w.heap.size, 1, none⟩ = some (Value.slice B rs.length k) := (obj_cell o1).trans rfl
  have h1' : Own w1 lo hi ([⟨A, c, marks q xs.length⟩] ++ rs) [⟨B, k, rs.map Row.v⟩] := h1
  clear hg om hsp1 o0 hr0
  go_wp2_with fail
  (with_reducible refine (markIntSS_any B k lo hi rs [⟨A, c, marks q xs.length⟩] [⟨B, k, rs.map Row.v⟩] (q + xs.length) w1 (by omega) (by omega) (by omega) (by omega) h1' (List.mem_singleton.2 rfl)).mono ?_)
  rintro e w2 ⟨rfl, h2, hsp2⟩
  go_wp2
  go_ret
  exact ⟨rfl, h2, hsp0.trans hsp2⟩

theorem heldMesh_marks (A B : Option Addr) (c k hi : Nat) (q : Int) (n : Nat) (rs : List Row) (w : World) (hq : 0 ≤ q ∧ q ≤ 1048576) (hx : n ≤ 1048576) (hy : rs.length + sizeR rs ≤ 1048576) (hh : hi ≤ w.heap.size)
    (h : Read w hi (⟨A, c, marks q n⟩ :: marked (q + n) rs) [⟨B, k, rs.map Row.v⟩]) :
    Calls Try.prog 23 #[.agg #[.slice A n c, .slice B rs.length k], .int .i64 q] w (Rb w (.int .i64 (q + n + (sizeR rs : Nat)))) := by
  go_enter Try.func23, Try.ntmps23
  have hb0 : Below w.heap.size w (w.alloc (Obj.cells #[Value.slice A n c, Value.slice B rs.length k] 37)) := (Below.refl _ _).alloc (Nat.le_refl _) _
  go_wp2_with fail
  have f1 : (w.alloc (Obj.cells #[Value.slice A n c, Value.slice B rs.length k] 37)).cell? ⟨w.heap.size, 1, none⟩ = some (Value.slice B rs.length k) := by simp
  have hs0 := hb0.size
  generalize (w.alloc (Obj.cells #[Value.slice A n c, Value.slice B rs.length k] 37)) = w0 at hb0 f1 hs0 ⊢
  have h0 := (h.more hh).below hb0
  have hrd : Rd (Value.int .i64) w0 w0.heap.size A (marks q n) := (h0.rd ⟨A, c, marks q n⟩ List.mem_cons_self).more hs0
  (with_reducible refine (heldIntS_marks A c q n w0 (by omega) hrd).mono ?_)
  rintro e w1 ⟨rfl, rfl⟩
  go_wp2_with fail
  (with_reducible refine (heldIntSS_marks B k w.heap.size (q + n) rs _ (by omega) (by omega) (by omega) hs0 h0.tail).mono ?_)
  rintro e w1 ⟨rfl, hb1⟩
  go_wp2
  go_ret
  exact ⟨rfl, hb0.trans (hb1.mono hs0)⟩


theorem Arg.tail {w : World} {r : Row} {rs : List Row} {os : List Outer} (h : Arg w (r :: rs) os) : Arg w rs os := ⟨h.read.tail, fun s hs => h.rcap s (List.mem_cons_of_mem _ hs), h.ocap⟩
theorem szM_ok (A B : Option Addr) (c k : Nat) (xs : List Int) (rs : List Row) (l : Int) (w : World) (ha : Arg w (⟨A, c, xs⟩ :: rs) [⟨B, k, rs.map Row.v⟩]) (hl : 0 ≤ l ∧ l ≤ 1048576) (hn : ((xs.length + (rs.length + sizeR rs) : Nat) : Int) ≤ l) :
    Calls Try.prog 17 #[.agg #[.slice A xs.length c, .slice B rs.length k], .int .i64 l] w (Rb w (.int .i64 (l - ((xs.length + (rs.length + sizeR rs) : Nat) : Int)))) := by
  go_enter Try.func17, Try.ntmps17
  have hb0 : Below w.heap.size w (w.alloc (Obj.cells #[Value.slice A xs.length c, Value.slice B rs.length k] 35)) := (Below.refl _ _).alloc (Nat.le_refl _) _
  go_wp2_with fail
  (with_reducible refine (szIntS_ok A c xs.length l _ (by omega) (by omega)).mono ?_)
  rintro e w1 ⟨rfl, rfl⟩
  go_wp2_with fail
  (with_reducible refine (szL_ok B k rs (l - xs.length) _ (ha.tail.below hb0) (by omega) (by omega)).mono ?_)
  rintro e w1 ⟨rfl, hb1⟩
  go_wp2
  go_ret
  exact ⟨ret_int (by omega), hb0.trans (hb1.mono hb0.size)⟩
theorem szM_no (A B : Option Addr) (c k : Nat) (xs : List Int) (rs : List Row) (l : Int) (w : World) (ha : Arg w (⟨A, c, xs⟩ :: rs) [⟨B, k, rs.map Row.v⟩]) (hl : 0 ≤ l ∧ l ≤ 1048576) (hn : l < ((xs.length + (rs.length + sizeR rs) : Nat) : Int)) :
    Calls Try.prog 17 #[.agg #[.slice A xs.length c, .slice B rs.length k], .int .i64 l] w (Rb w (.int .i64 (-1))) := by
  have hc : xs.length ≤ 9223372036854775807 := by
    have h1 := ha.read.cap _ List.mem_cons_self
    have h2 := ha.rcap _ List.mem_cons_self
    unfold maxLen at h2
    simp only at h1 h2
    omega
  go_enter Try.func17, Try.ntmps17
  have hb0 : Below w.heap.size w (w.alloc (Obj.cells #[Value.slice A xs.length c, Value.slice B rs.length k] 35)) := (Below.refl _ _).alloc (Nat.le_refl _) _
  rcases Int.lt_or_le l (xs.length : Int) with h1 | h1
  · go_wp2_with fail
    (with_reducible refine (szIntS_no A c xs.length l _ (by omega) hc h1).mono ?_)
    rintro e w1 ⟨rfl, rfl⟩
    go_wp2
    go_ret
    exact ⟨rfl, hb0⟩
  · go_wp2_with fail
    (with_reducible refine (szIntS_ok A c xs.length l _ (by omega) h1).mono ?_)
    rintro e w1 ⟨rfl, rfl⟩
    go_wp2_with fail
    (with_reducible refine (szL_no B k rs (l - xs.length) _ (ha.tail.below hb0) (by omega) (by omega)).mono ?_)
    rintro e w1 ⟨rfl, hb1⟩
    go_wp2
    go_ret
    exact ⟨rfl, hb0.trans (hb1.mono hb0.size)⟩

theorem toM_R (A B : Option Addr) (c k : Nat) (xs : List Int) (rs : List Row) (w : World) (h : InM w A c xs B k rs) :
    Calls Try.prog 19 #[.agg #[.slice A xs.length c, .slice B rs.length k]] w fun e w' => ∃ A' B' c' k' rs', e = .returned (.agg #[.slice A' xs.length c', .slice B' rs'.length k']) ∧ rs'.map Row.xs = rs.map Row.xs ∧
      Own w' w.heap.size w'.heap.size (⟨A', c', xs⟩ :: rs') [⟨B', k', rs'.map Row.v⟩] ∧ Below w.heap.size w w' := toM_any A B c k xs rs w h.1 h.2
theorem eqM_R (A A' B B' : Option Addr) (c c' k k' : Nat) (xs : List Int) (rs rs' : List Row) (w : World) (h : InM w A c xs B k rs) (h' : InM w A' c' xs B' k' rs') (he : rs.map Row.xs = rs'.map Row.xs) :
    Calls Try.prog 21 #[.agg #[.slice A xs.length c, .slice B rs.length k], .agg #[.slice A' xs.length c', .slice B' rs'.length k']] w (Rb w (.bool true)) :=
  eqMesh_same A A' B B' c c' k k' xs rs rs' w h.1 h.2 h'.1 h'.2 he
theorem markM_R (A B : Option Addr) (c k : Nat) (xs : List Int) (rs : List Row) (lo hi : Nat) (q : Int) (w : World) (hq : 0 ≤ q ∧ q ≤ 1048576) (hs : xs.length + (rs.length + sizeR rs) ≤ 1048576) (hh : hi ≤ w.heap.size)
    (h : Own w lo hi (⟨A, c, xs⟩ :: rs) [⟨B, k, rs.map Row.v⟩]) :
    Calls Try.prog 22 #[.agg #[.slice A xs.length c, .slice B rs.length k], .int .i64 q] w fun e w' => e = .returned (.int .i64 (q + (xs.length : Nat) + (sizeR rs : Nat))) ∧
      Own w' lo hi (⟨A, c, marks q xs.length⟩ :: marked (q + xs.length) rs) [⟨B, k, rs.map Row.v⟩] ∧ Span lo hi w w' := markMesh_any A B c k lo hi xs rs q w hq (by omega) (by omega) hh h
theorem heldM_R (A B : Option Addr) (c k hi : Nat) (q : Int) (n : Nat) (rs : List Row) (w : World) (hq : 0 ≤ q ∧ q ≤ 1048576) (hs : n + (rs.length + sizeR rs) ≤ 1048576) (hh : hi ≤ w.heap.size)
    (h : Read w hi (⟨A, c, marks q n⟩ :: marked (q + n) rs) [⟨B, k, rs.map Row.v⟩]) :
    Calls Try.prog 23 #[.agg #[.slice A n c, .slice B rs.length k], .int .i64 q] w (Rb w (.int .i64 (q + (n : Nat) + (sizeR rs : Nat)))) := heldMesh_marks A B c k hi q n rs w hq (by omega) (by omega) hh h
end Go.Proofs.Ythkggnmfdlggbaa
