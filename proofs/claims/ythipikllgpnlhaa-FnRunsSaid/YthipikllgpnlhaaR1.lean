/- Words for values that hold several slices: rows of whole numbers and outer slices of rows; what is read, what is owned, what a call has turned. Plain lemmas. -/
import Derived.Test.YthipikllgpnlhaaProg
import Derived.Test.YthipikllgpnlhaaBase
import Derived.Test.YthipikllgpnlhaaHlp
import Derived.Test.YthipikllgpnlhaaHlp2
namespace Go.Proofs.Ythipikllgpnlhaa
set_option maxRecDepth 100000
open Go Go.RowKit

/-- A slice of whole numbers: address, capacity, what it reads as. -/
structure Row where
  A : Option Addr
  c : Nat
  xs : List Int
def Row.v (r : Row) : Value := .slice r.A r.xs.length r.c
/-- A slice of slices: address, capacity, its cells. -/
structure Outer where
  A : Option Addr
  c : Nat
  vs : List Value
def Outer.v (o : Outer) : Value := .slice o.A o.vs.length o.c

structure Read (w : World) (B : Nat) (rs : List Row) (os : List Outer) : Prop where
  cap : ∀ r ∈ rs, r.xs.length ≤ r.c
  rd : ∀ r ∈ rs, Rd (Value.int .i64) w B r.A r.xs
  ocap : ∀ o ∈ os, o.vs.length ≤ o.c
  ord : ∀ o ∈ os, Rd id w B o.A o.vs

structure Own (w : World) (lo hi : Nat) (rs : List Row) (os : List Outer) : Prop where
  rows : ∀ r ∈ rs, w.ownsRow lo 3 1 r.v r.xs.length (r.xs.map (Value.int .i64))
  lt : ∀ r ∈ rs, ∀ g, r.v.ownBlock = some g → g < hi
  apart : rs.Pairwise fun r s => r.v.ownBlock = none ∨ r.v.ownBlock ≠ s.v.ownBlock
  outs : ∀ o ∈ os, w.ownsRow lo 24 1 o.v o.vs.length o.vs
  olt : ∀ o ∈ os, ∀ g, o.v.ownBlock = some g → g < hi

/-- A call turned nothing but blocks between lo and hi, and new ones. -/
structure Span (lo hi : Nat) (w w' : World) : Prop where
  os : w'.os = w.os
  tape : w'.tape = w.tape
  output : w'.output = w.output
  size : w.heap.size ≤ w'.heap.size
  block : ∀ k, k < w.heap.size → (k < lo ∨ hi ≤ k) → w'.heap[k]? = w.heap[k]?

theorem Span.refl (lo hi : Nat) (w : World) : Span lo hi w w := ⟨rfl, rfl, rfl, Nat.le_refl _, fun _ _ _ => rfl⟩
theorem Span.trans {lo hi : Nat} {a b c : World} (h : Span lo hi a b) (k : Span lo hi b c) : Span lo hi a c :=
  ⟨k.os.trans h.os, k.tape.trans h.tape, k.output.trans h.output, Nat.le_trans h.size k.size, fun i hi hr => (k.block i (Nat.lt_of_lt_of_le hi h.size) hr).trans (h.block i hi hr)⟩
theorem Span.of_grown {lo hi : Nat} {w w' : World} {row : Option Nat} (h : w.grownBy w' row) (hr : ∀ g, row = some g → lo ≤ g ∧ g < hi) : Span lo hi w w' :=
  ⟨h.os, h.tape, h.output, h.size, fun k hk hlh => h.block k hk fun he => by have := hr k he.symm; omega⟩
theorem Span.below {lo hi : Nat} {w w' : World} (h : Span lo hi w w') {B : Nat} (hB : B ≤ lo) (hs : B ≤ w.heap.size) : Below B w w' :=
  ⟨h.os, h.tape, h.output, h.size, fun k hk => h.block k (by omega) (.inl (by omega))⟩
theorem Span.of_below {lo hi : Nat} {w w' : World} (h : Below w.heap.size w w') : Span lo hi w w' := ⟨h.os, h.tape, h.output, h.size, fun k hk _ => h.block k hk⟩

theorem Span.set {lo hi : Nat} {w : World} {p : Addr} (h1 : lo ≤ p.block) (h2 : p.block < hi) (v : Value) : Span lo hi w (w.setCell p v) :=
  ⟨rfl, rfl, rfl, by simp [World.setCell], fun k _ hk => by simp only [World.setCell, Array.getElem?_modify]; rw [if_neg (by omega)]⟩

theorem own_span {w w' : World} {base e n lo hi : Nat} {v : Value} {vs : List Value} (h : w.ownsRow base e 1 v n vs) (hs : Span lo hi w w') (hne : ∀ g, v.ownBlock = some g → g < lo ∨ hi ≤ g) : w'.ownsRow base e 1 v n vs := by
  refine ⟨h.1, ?_⟩
  rcases h.2 with h2 | ⟨g, cap, cur, rfl, hg, hh, r⟩
  · exact .inl h2
  · refine .inr ⟨g, cap, cur, rfl, hg, ?_, r⟩
    have hlt : g < w.heap.size := by
      rcases Nat.lt_or_ge g w.heap.size with h' | h'
      · exact h'
      · rw [Array.getElem?_eq_none h'] at hh; cases hh
    rw [hs.block g hlt (hne g rfl)]
    exact hh

section
variable {w w' : World} {lo hi B B' : Nat} {rs : List Row} {os : List Outer}
theorem Read.below (h : Read w B rs os) (hb : Below B w w') : Read w' B rs os := ⟨h.cap, fun r hr => (h.rd r hr).below hb, h.ocap, fun o ho => (h.ord o ho).below hb⟩
theorem Read.more (h : Read w B rs os) (hB : B ≤ B') : Read w B' rs os := ⟨h.cap, fun r hr => (h.rd r hr).more hB, h.ocap, fun o ho => (h.ord o ho).more hB⟩
theorem Read.dr (h : Read w B rs os) (hd : Dr w w') : Read w' B rs os := ⟨h.cap, fun r hr => (h.rd r hr).dr hd, h.ocap, fun o ho => (h.ord o ho).dr hd⟩
theorem Read.span (h : Read w B rs os) (hs : Span lo hi w w') (hB : B ≤ lo) (hw : B ≤ w.heap.size) : Read w' B rs os := h.below (hs.below hB hw)
theorem Own.below (h : Own w lo hi rs os) (hb : Below w.heap.size w w') : Own w' lo hi rs os :=
  ⟨fun r hr => own_below (h.rows r hr) hb, h.lt, h.apart, fun o ho => own_below (h.outs o ho) hb, h.olt⟩
theorem Own.dr (h : Own w lo hi rs os) (hd : Dr w w') : Own w' lo hi rs os := by obtain ⟨n, rfl⟩ := hd; exact ⟨h.rows, h.lt, h.apart, h.outs, h.olt⟩
theorem Own.wider (h : Own w lo hi rs os) {lo' hi' : Nat} (hl : lo' ≤ lo) (hh : hi ≤ hi') : Own w lo' hi' rs os :=
  ⟨fun r hr => own_mono (h.rows r hr) hl, fun r hr g hg => by have := h.lt r hr g hg; omega, h.apart, fun o ho => own_mono (h.outs o ho) hl, fun o ho g hg => by have := h.olt o ho g hg; omega⟩
theorem Own.span {lo' hi' : Nat} (h : Own w lo hi rs os) (hs : Span lo' hi' w w') (hd : hi ≤ lo' ∨ hi' ≤ lo) : Own w' lo hi rs os :=
  ⟨fun r hr => own_span (h.rows r hr) hs fun g hg => by have := h.lt r hr g hg; have := (h.rows r hr).lt g hg; omega, h.lt, h.apart,
    fun o ho => own_span (h.outs o ho) hs fun g hg => by have := h.olt o ho g hg; have := (h.outs o ho).lt g hg; omega, h.olt⟩
theorem rd_lt {α : Type} {f : α → Value} {A : Option Addr} {xs : List α} {c : Nat} (h : Rd f w B A xs) (hl : ∀ g, (Value.slice A xs.length c).ownBlock = some g → g < B') : Rd f w B' A xs := fun h0 => by
  obtain ⟨b, off, rfl, hb, hc⟩ := h h0
  exact ⟨b, off, rfl, hl b rfl, hc⟩
theorem Own.read (h : Own w lo hi rs os) : Read w hi rs os :=
  ⟨fun r hr => (own_caps (h.rows r hr)).1, fun r hr => rd_lt (c := r.c) (Rd.of_own (c := r.c) (h.rows r hr)) (h.lt r hr),
    fun o ho => (own_caps (h.outs o ho)).1, fun o ho => rd_lt (c := o.c) (Rd.of_own (f := id) (e := 24) (c := o.c) (by rw [List.map_id]; exact h.outs o ho)) (h.olt o ho)⟩
theorem Own.one {A : Option Addr} {c : Nat} {xs : List Int} (h : w.ownsRow lo 3 1 (.slice A xs.length c) xs.length (xs.map (Value.int .i64))) (hh : w.heap.size ≤ hi) : Own w lo hi [⟨A, c, xs⟩] [] :=
  ⟨fun r hr => by obtain rfl := List.mem_singleton.1 hr; exact h, fun r hr g hg => by obtain rfl := List.mem_singleton.1 hr; have := (h.lt g hg).2; omega, List.pairwise_singleton _ _, fun o ho => (List.not_mem_nil ho).elim, fun o ho => (List.not_mem_nil ho).elim⟩
theorem Own.nil_ : Own w lo hi [] [] := ⟨fun _ hr => (List.not_mem_nil hr).elim, fun _ hr => (List.not_mem_nil hr).elim, List.Pairwise.nil, fun _ hr => (List.not_mem_nil hr).elim, fun _ hr => (List.not_mem_nil hr).elim⟩
theorem Read.nil_ : Read w B [] [] := ⟨fun _ hr => (List.not_mem_nil hr).elim, fun _ hr => (List.not_mem_nil hr).elim, fun _ hr => (List.not_mem_nil hr).elim, fun _ hr => (List.not_mem_nil hr).elim⟩

theorem Own.lim (h : Own w lo hi rs []) (m : Nat) (hl : ∀ r ∈ rs, ∀ g, r.v.ownBlock = some g → g < m) : Own w lo m rs [] := ⟨h.rows, hl, h.apart, h.outs, fun _ ho => (List.not_mem_nil ho).elim⟩
theorem own_off {v : Value} {lim : Nat} {row : Option Nat} (hl : ∀ q, v.ownBlock = some q → q < lim) (hr : ∀ q, row = some q → lim ≤ q) : v.ownBlock = none ∨ v.ownBlock ≠ row := by
  rcases hv : v.ownBlock with _ | k
  · exact .inl rfl
  · refine .inr fun he => ?_
    have h1 := hl k hv
    have h2 := hr k he.symm
    omega
theorem own_ne {r : Row} {o : Outer} (h : Own w lo hi rs os) (hr : r ∈ rs) (ho : o ∈ os) : ∀ g, r.v.ownBlock = some g → o.v.ownBlock ≠ some g := by
  intro g h1 h2
  rcases (h.rows r hr).2 with ⟨e, _⟩ | ⟨g1, c1, cur1, e1, _, hh1, _⟩
  · rw [e] at h1; cases h1
  rcases (h.outs o ho).2 with ⟨e, _⟩ | ⟨g2, c2, cur2, e2, _, hh2, _⟩
  · rw [e] at h2; cases h2
  rw [e1] at h1; rw [e2] at h2
  injection h1 with h1; injection h2 with h2
  simp only at h1 h2
  subst h1 h2
  rw [hh1] at hh2
  injection hh2 with hh2
  injection hh2 with _ ht _
  exact absurd ht (by decide)

/-- One row of several was written anew. -/
theorem Own.mark {rs1 rs2 : List Row} {r : Row} {k : Int} (h : Own w lo hi (rs1 ++ r :: rs2) os) (hg : w.grownBy w' r.v.ownBlock)
    (hr : w'.ownsRow lo 3 1 r.v r.xs.length ((marks k r.xs.length).map (Value.int .i64))) : Own w' lo hi (rs1 ++ ⟨r.A, r.c, marks k r.xs.length⟩ :: rs2) os := by
  have hv : (Row.mk r.A r.c (marks k r.xs.length)).v = r.v := by simp only [Row.v, marks_length]
  have hp := h.apart
  rw [List.pairwise_append] at hp
  obtain ⟨hp1, hp2, hp3⟩ := hp
  rw [List.pairwise_cons] at hp2
  have hmem : r ∈ rs1 ++ r :: rs2 := by simp
  refine ⟨fun s hs => ?_, fun s hs g hgg => ?_, ?_, fun o ho => ?_, h.olt⟩
  · rcases List.mem_append.1 hs with hs | hs
    · refine (h.rows s (by simp [hs])).kept hg ?_
      exact hp3 s hs r (by simp)
    · rcases List.mem_cons.1 hs with rfl | hs
      · rw [hv]; simp only [marks_length]; exact hr
      · refine (h.rows s (by simp [hs])).kept hg ?_
        rcases hp2.1 s hs with hn | hn
        · rw [hn]
          rcases hsv : s.v.ownBlock with _ | g
          · exact .inl rfl
          · exact .inr (by simp)
        · exact .inr fun e => hn e.symm
  · rcases List.mem_append.1 hs with hs | hs
    · exact h.lt s (by simp [hs]) g hgg
    · rcases List.mem_cons.1 hs with rfl | hs
      · rw [hv] at hgg; exact h.lt r hmem g hgg
      · exact h.lt s (by simp [hs]) g hgg
  · rw [List.pairwise_append]
    refine ⟨hp1, ?_, fun a ha b hb => ?_⟩
    · rw [List.pairwise_cons]
      refine ⟨fun s hs => ?_, hp2.2⟩
      rw [hv]; exact hp2.1 s hs
    · rcases List.mem_cons.1 hb with rfl | hb
      · rw [hv]; exact hp3 a ha r (by simp)
      · exact hp3 a ha b (by simp [hb])
  · refine (h.outs o ho).kept hg ?_
    rcases hrv : r.v.ownBlock with _ | g
    · rcases hov : o.v.ownBlock with _ | g'
      · exact .inl rfl
      · exact .inr (by simp)
    · exact .inr (own_ne h hmem ho g hrv)

/-- Two values of the call's own, the second made behind the first. -/
theorem Own.app {m : Nat} {rs' : List Row} {os' : List Outer} (h : Own w lo m rs os) (h' : Own w m hi rs' os') (hl : lo ≤ m) (hh : m ≤ hi) : Own w lo hi (rs ++ rs') (os ++ os') := by
  refine ⟨fun r hr => ?_, fun r hr g hg => ?_, ?_, fun o ho => ?_, fun o ho g hg => ?_⟩
  · rcases List.mem_append.1 hr with hr | hr
    · exact h.rows r hr
    · exact own_mono (h'.rows r hr) hl
  · rcases List.mem_append.1 hr with hr | hr
    · have := h.lt r hr g hg; omega
    · exact h'.lt r hr g hg
  · rw [List.pairwise_append]
    refine ⟨h.apart, h'.apart, fun a ha b hb => ?_⟩
    rcases hav : a.v.ownBlock with _ | g
    · exact .inl rfl
    · refine .inr fun e => ?_
      have h1 := h.lt a ha g hav
      have h2 := ((h'.rows b hb).lt g e.symm).1
      omega
  · rcases List.mem_append.1 ho with ho | ho
    · exact h.outs o ho
    · exact own_mono (h'.outs o ho) hl
  · rcases List.mem_append.1 ho with ho | ho
    · have := h.olt o ho g hg; omega
    · exact h'.olt o ho g hg
end

/-- An object of cells that nothing froze: what its cells are. -/
theorem obj_cell {w : World} {g i : Nat} {cur : Array Value} {t : TypeId} (h : w.heap[g]? = some (.cells cur t (0, 0))) : w.cell? ⟨g, i, none⟩ = cur[i]? := by
  simp [World.cell?, h]
theorem obj_frozen {w : World} {g i : Nat} {cur : Array Value} {t : TypeId} (h : w.heap[g]? = some (.cells cur t (0, 0))) : w.frozen? ⟨g, i, none⟩ = false := by
  simp [World.frozen?, h]
theorem obj_below {w w' : World} {B g : Nat} {o : Obj} (h : w.heap[g]? = some o) (hb : Below B w w') (hg : g < B) : w'.heap[g]? = some o := (hb.block g hg).trans h
theorem obj_lt {w : World} {g : Nat} {o : Obj} (h : w.heap[g]? = some o) : g < w.heap.size := by
  rcases Nat.lt_or_ge g w.heap.size with h' | h'
  · exact h'
  · rw [Array.getElem?_eq_none h'] at h; cases h
theorem obj_dr {w w' : World} {g : Nat} {o : Obj} (h : w.heap[g]? = some o) (hd : Dr w w') : w'.heap[g]? = some o := by rw [hd.heap]; exact h
theorem obj_set {w : World} {g i : Nat} {cur : Array Value} {t : TypeId} (h : w.heap[g]? = some (.cells cur t (0, 0))) (v : Value) :
    (w.setCell ⟨g, i, none⟩ v).heap[g]? = some (.cells (cur.setIfInBounds i v) t (0, 0)) := by
  simp only [World.setCell, Array.getElem?_modify, if_pos, h, Option.map_some, Option.isSome_none, Bool.false_eq_true, if_false]
theorem obj_other {w : World} {g g' i : Nat} {o : Obj} (h : w.heap[g]? = some o) (hne : g' ≠ g) (v : Value) : (w.setCell ⟨g', i, none⟩ v).heap[g]? = some o := by
  simp only [World.setCell, Array.getElem?_modify, if_neg hne]
  exact h
theorem obj_alloc {w : World} {g : Nat} {o : Obj} (h : w.heap[g]? = some o) (o' : Obj) : (w.alloc o').heap[g]? = some o := by
  have hl := obj_lt h
  show (w.heap.push o')[g]? = some o
  rw [Array.getElem?_push_lt hl, ← h, Array.getElem?_eq_getElem hl]
theorem obj_new (w : World) (o : Obj) : (w.alloc o).heap[w.heap.size]? = some o := by
  show (w.heap.push o)[w.heap.size]? = some o
  simp
/-- A struct of two cells laid into a new block. -/
theorem box_below (w : World) (z0 z1 a b : Value) (T : TypeId) :
    Below w.heap.size w (((w.alloc (Obj.cells #[z0, z1] T)).setCell ⟨w.heap.size, 0, none⟩ a).setCell ⟨w.heap.size, 1, none⟩ b) :=
  (((Below.refl _ _).alloc (Nat.le_refl _) _).setCell (p := ⟨w.heap.size, 0, none⟩) (Nat.le_refl _) a).setCell (p := ⟨w.heap.size, 1, none⟩) (Nat.le_refl _) b
theorem box_obj (w : World) (z0 z1 a b : Value) (T : TypeId) :
    (((w.alloc (Obj.cells #[z0, z1] T)).setCell ⟨w.heap.size, 0, none⟩ a).setCell ⟨w.heap.size, 1, none⟩ b).heap[w.heap.size]? = some (Obj.cells #[a, b] T) :=
  obj_set (i := 1) (obj_set (i := 0) (obj_new w (Obj.cells #[z0, z1] T)) a) b

/-- What a call is handed of a Near: both its lists. -/
structure InN (w : World) (A : Option Addr) (c : Nat) (xs : List Int) (B : Option Addr) (k : Nat) (ys : List Int) : Prop where
  fst : In w A c xs
  snd : In w B k ys
theorem InN.next {w w' : World} {A : Option Addr} {c : Nat} {xs : List Int} {B : Option Addr} {k : Nat} {ys : List Int} (h : InN w A c xs B k ys) (hb : Below w.heap.size w w') : InN w' A c xs B k ys := ⟨h.1.next hb, h.2.next hb⟩

/-- The rows marked one after the other. -/
def marked : Int → List Row → List Row
  | _, [] => []
  | k, r :: t => ⟨r.A, r.c, marks k r.xs.length⟩ :: marked (k + r.xs.length) t
def sizeR (rs : List Row) : Nat := (rs.map fun r => r.xs.length).sum
theorem sizeR_append (rs rs' : List Row) : sizeR (rs ++ rs') = sizeR rs + sizeR rs' := by simp [sizeR]
theorem marked_append (k : Int) (rs rs' : List Row) : marked k (rs ++ rs') = marked k rs ++ marked (k + sizeR rs) rs' := by
  induction rs generalizing k with
  | nil => simp [marked, sizeR]
  | cons r t ih =>
    simp only [List.cons_append, marked, ih]
    have : k + (r.xs.length : Int) + (sizeR t : Int) = k + ((sizeR (r :: t) : Nat) : Int) := by simp [sizeR]; omega
    rw [this]
theorem marked_v (k : Int) (rs : List Row) : (marked k rs).map Row.v = rs.map Row.v := by
  induction rs generalizing k with
  | nil => rfl
  | cons r t ih => simp only [marked, List.map_cons, ih, Row.v, marks_length]
theorem marked_length (k : Int) (rs : List Row) : (marked k rs).length = rs.length := by
  induction rs generalizing k with
  | nil => rfl
  | cons r t ih => simp [marked, ih]
end Go.Proofs.Ythipikllgpnlhaa
