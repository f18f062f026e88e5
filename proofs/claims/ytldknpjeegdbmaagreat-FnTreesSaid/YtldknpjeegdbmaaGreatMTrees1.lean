/- Several texts in one, each with its own head: Base, Hlp, Hlp2, R1, D1, N2, R2, C1, C2, K1, Z1, L1, L3. No program of ours. -/
import Derived.WalkKit
import Derived.Handy
import Derived.BigQuiet
import Derived.Deep.QuietTactic
import Derived.Deep.LoopGhost
import Derived.Deep.DeepMust
import Derived.Deep.DeepFit
import Derived.Deep.Draws
import Derived.Deep.AppendLies
import Derived.Lib.Hide
import Derived.Maps.AppendAt
import Derived.WalkSpells
import Derived.WalkLawsBesides
import Derived.Test.YtldknpjeegdbmaaGreatProg
/- Words for memory: what a slice reads as, what a call owns; plain lemmas on them; no program in sight. Written for this claim, after the guide's page of words. -/
namespace Go.Proofs.YtldknpjeegdbmaaGreat
set_option maxRecDepth 100000
open Go Go.RowKit

/-- The slice address A reads as the list xs, each element through f, below block B. -/
def Rd {α : Type} (f : α → Value) (w : World) (B : Nat) (A : Option Addr) (xs : List α) : Prop :=
  0 < xs.length → ∃ b off, A = some ⟨b, off, none⟩ ∧ b < B ∧ ∀ j (h : j < xs.length), w.cell? ⟨b, off + j, none⟩ = some (f xs[j])

section
variable {α : Type} {f : α → Value} {w w' : World} {B B' : Nat} {A : Option Addr} {xs : List α}
theorem Rd.nil_ : Rd f w B A [] := fun h => absurd h (by simp)
theorem Rd.keep (h : Rd f w B A xs) (hk : ∀ p : Addr, p.block < B → w'.cell? p = w.cell? p) : Rd f w' B A xs := fun h0 => by
  obtain ⟨b, off, e, hb, hc⟩ := h h0
  exact ⟨b, off, e, hb, fun j hj => (hk ⟨b, off + j, none⟩ hb).trans (hc j hj)⟩
theorem Rd.more (h : Rd f w B A xs) (hB : B ≤ B') : Rd f w B' A xs := fun h0 => by
  obtain ⟨b, off, e, hb, hc⟩ := h h0
  exact ⟨b, off, e, by omega, hc⟩
theorem Rd.below (h : Rd f w B A xs) (hb : Below B w w') : Rd f w' B A xs := h.keep fun _ hp => hb.cell hp
theorem Rd.next (h : Rd f w w.heap.size A xs) (hb : Below w.heap.size w w') : Rd f w' w'.heap.size A xs := (h.below hb).more hb.size
theorem Rd.drewN (h : Rd f w B A xs) (k : Nat) : Rd f (w.drewN k) B A xs := h
theorem Rd.drew (h : Rd f w B A xs) : Rd f w.drew B A xs := h
theorem Rd.alloc (h : Rd f w B A xs) (hB : B ≤ w.heap.size) (o : Obj) : Rd f (w.alloc o) B A xs := h.keep fun p hp => World.cell?_alloc_lt w o p (by omega)
theorem Rd.setCell (h : Rd f w B A xs) {p : Addr} (hB : B ≤ p.block) (u : Value) : Rd f (w.setCell p u) B A xs :=
  h.keep fun q hq => World.cell?_setCell_other w p q u (fun e => by subst e; omega)
theorem Rd.grown (h : Rd f w B A xs) {row : Option Nat} (hg : w.grownBy w' row) (hB : B ≤ w.heap.size) (hr : ∀ g, row = some g → B ≤ g) : Rd f w' B A xs :=
  h.keep fun p hp => World.cell?_of_block (hg.block p.block (by omega) (fun e => by have := hr _ e.symm; omega))
theorem Rd.take (h : Rd f w B A xs) (k : Nat) : Rd f w B A (xs.take k) := fun h0 => by
  have hl : (xs.take k).length ≤ xs.length := by simp; omega
  obtain ⟨b, off, e, hb, hc⟩ := h (by omega)
  exact ⟨b, off, e, hb, fun j hj => by rw [hc j (by omega)]; simp⟩
theorem Rd.drop (h : Rd f w B A xs) {k cap : Nat} (hk : k ≤ xs.length) (hc : xs.length ≤ cap) :
    Rd f w B (if cap = k then A else A.map (·.add (k * 1))) (xs.drop k) := fun h0 => by
  simp only [List.length_drop] at h0
  obtain ⟨b, off, rfl, hb, hcell⟩ := h (by omega)
  rw [if_neg (by omega)]
  refine ⟨b, off + k, by unfold Addr.add; by_cases h : k = 0 <;> simp [h], hb, fun j hj => ?_⟩
  simp only [List.length_drop] at hj
  rw [Nat.add_assoc, hcell (k + j) (by omega)]
  simp
end

theorem own_len {w : World} {base e n : Nat} {v : Value} {vs : List Value} (h : w.ownsRow base e 1 v n vs) : vs.length = n := by have := h.1; omega

/-- What the call owns, read. -/
theorem Rd.of_own {α : Type} {f : α → Value} {w : World} {base e c : Nat} {A : Option Addr} {xs : List α}
    (h : w.ownsRow base e 1 (.slice A xs.length c) xs.length (xs.map f)) : Rd f w w.heap.size A xs := by
  intro hn
  obtain ⟨g, cap, hv, _, hlt⟩ := h.form hn
  have hA : A = some ⟨g, 0, none⟩ := by injection hv
  subst hA
  refine ⟨g, 0, rfl, hlt, fun j hj => ?_⟩
  have := h.cells (g := g) rfl j (f xs[j]) (by simp [hj])
  rw [Addr.add_lit] at this
  exact this

/-- The slice value's shape, from what is owned. -/
theorem own_shape {w : World} {base e n : Nat} {v : Value} {vs : List Value} (h : w.ownsRow base e 1 v n vs) : ∃ A c, v = .slice A n c ∧ n ≤ c ∧ c ≤ maxLen := by
  rcases h.2 with ⟨rfl, rfl⟩ | ⟨g, cap, cur, rfl, _, _, hc, hm, _⟩
  · exact ⟨none, 0, rfl, Nat.le_refl _, Nat.zero_le _⟩
  · exact ⟨_, _, rfl, hc, hm⟩

/-- A call's result: a slice of its own that reads as ys (through f, cells of type e); nothing that was there has turned. -/
def Ret {α : Type} (f : α → Value) (e : TypeId) (w : World) (ys : List α) (en : Ending) (w' : World) : Prop :=
  ∃ A c, en = .returned (.slice A ys.length c) ∧ ys.length ≤ c ∧ c ≤ maxLen ∧ w'.ownsRow w.heap.size e 1 (.slice A ys.length c) ys.length (ys.map f) ∧ Below w.heap.size w w'

/-- The world moved on by draws alone. -/
def Dr (w w' : World) : Prop := ∃ n, w' = w.drewN n
theorem Dr.refl (w : World) : Dr w w := ⟨0, rfl⟩
theorem Dr.of (w : World) (n : Nat) : Dr w (w.drewN n) := ⟨n, rfl⟩
theorem Dr.drewN {w w' : World} (h : Dr w w') (m : Nat) : Dr w (w'.drewN m) := by
  obtain ⟨n, rfl⟩ := h
  exact ⟨n + m, World.drewN_drewN _ _ _⟩
theorem Dr.drew {w w' : World} (h : Dr w w') : Dr w w'.drew := h.drewN 1
theorem Dr.of2 (w : World) (n m : Nat) : Dr w ((w.drewN n).drewN m) := (Dr.of w n).drewN m
theorem Dr.of3 (w : World) (n m k : Nat) : Dr w (((w.drewN n).drewN m).drewN k) := (Dr.of2 w n m).drewN k
theorem Dr.trans {a b c : World} (h : Dr a b) (k : Dr b c) : Dr a c := by
  obtain ⟨n, rfl⟩ := k
  exact h.drewN n
theorem Dr.heap {w w' : World} (h : Dr w w') : w'.heap = w.heap := by obtain ⟨n, rfl⟩ := h; rfl
theorem Dr.cell {w w' : World} (h : Dr w w') (a : Addr) : w'.cell? a = w.cell? a := by obtain ⟨n, rfl⟩ := h; rfl
theorem Dr.frozen {w w' : World} (h : Dr w w') (a : Addr) : w'.frozen? a = w.frozen? a := by obtain ⟨n, rfl⟩ := h; rfl
theorem Dr.own {w w' : World} (h : Dr w w') {base e n : Nat} {v : Value} {vs : List Value} (ho : w.ownsRow base e 1 v n vs) : w'.ownsRow base e 1 v n vs := by obtain ⟨n, rfl⟩ := h; exact ho
theorem Rd.dr {α : Type} {f : α → Value} {w w' : World} {B : Nat} {A : Option Addr} {xs : List α} (h : Rd f w B A xs) (hd : Dr w w') : Rd f w' B A xs := by obtain ⟨n, rfl⟩ := hd; exact h
theorem below_dr {B : Nat} {a w w' : World} (h : Below B a w) (hd : Dr w w') : Below B a w' := by obtain ⟨n, rfl⟩ := hd; exact ⟨h.os, h.tape, h.output, h.size, h.block⟩
/-- A call's result that is one value, the world moved on by draws alone. -/
def Rq (w : World) (v : Value) (en : Ending) (w' : World) : Prop := en = .returned v ∧ Dr w w'
/-- A call's result that is one value; new blocks may have come. -/
def Rb (w : World) (v : Value) (en : Ending) (w' : World) : Prop := en = .returned v ∧ Below w.heap.size w w'

theorem Rq.b {w w' : World} {v : Value} {en : Ending} (h : Rq w v en w') : Rb w v en w' := by
  exact ⟨h.1, below_dr (Below.refl _ _) h.2⟩

/-- A goal laid behind a name, so that the walk stops there. -/
theorem hold {p : Prop} (h : Hid p) : p := h

theorem ret_bool {a b : Bool} (h : a = b) : Ending.returned (.bool a) = .returned (.bool b) := by rw [h]
theorem ret_int {k : IntKind} {a b : Int} (h : a = b) : Ending.returned (.int k a) = .returned (.int k b) := by rw [h]

theorem below_none {w w' : World} (h : w.grownBy w' none) : Below w.heap.size w w' := ⟨h.os, h.tape, h.output, h.size, fun k hk => h.block k hk (by simp)⟩
theorem none_below {w w' : World} (h : Below w.heap.size w w') : w.grownBy w' none := ⟨h.os, h.tape, h.output, h.size, fun k hk _ => h.block k hk⟩
theorem grown_trans {a b c : World} {row : Option Nat} (h : a.grownBy b row) (k : b.grownBy c row) : a.grownBy c row :=
  ⟨k.os.trans h.os, k.tape.trans h.tape, k.output.trans h.output, Nat.le_trans h.size k.size, fun i hi hr => (k.block i (Nat.lt_of_lt_of_le hi h.size) hr).trans (h.block i hi hr)⟩
theorem own_mono {w : World} {base base' e n : Nat} {v : Value} {vs : List Value} (h : w.ownsRow base e 1 v n vs) (hb : base' ≤ base) : w.ownsRow base' e 1 v n vs := by
  refine ⟨h.1, ?_⟩
  rcases h.2 with h2 | ⟨g, cap, cur, hv, hg, r⟩
  · exact .inl h2
  · exact .inr ⟨g, cap, cur, hv, by omega, r⟩
theorem own_below {w w' : World} {base e n : Nat} {v : Value} {vs : List Value} (h : w.ownsRow base e 1 v n vs) (hb : Below w.heap.size w w') : w'.ownsRow base e 1 v n vs :=
  h.kept (row := none) (none_below hb) (by cases hv : v.ownBlock <;> simp)
/-- A slice value of another block than g. -/
theorem own_other {w : World} {base e n g : Nat} {v : Value} {vs : List Value} (h : w.ownsRow base e 1 v n vs) (hg : g < base) : v.ownBlock = none ∨ v.ownBlock ≠ some g := by
  rcases hv : v.ownBlock with _ | k
  · exact .inl rfl
  · have := (h.lt k hv).1
    exact .inr (by simp; omega)

/-- What a call is handed: a list that is read, of no more than 2^20 elements. -/
structure In (w : World) (A : Option Addr) (c : Nat) (xs : List Int) : Prop where
  len : xs.length ≤ 1048576
  cap : xs.length ≤ c
  rd : Rd (Value.int .i64) w w.heap.size A xs
theorem In.next {w w' : World} {A : Option Addr} {c : Nat} {xs : List Int} (h : In w A c xs) (hb : Below w.heap.size w w') : In w' A c xs := ⟨h.len, h.cap, h.rd.next hb⟩
theorem In.dr {w w' : World} {A : Option Addr} {c : Nat} {xs : List Int} (h : In w A c xs) (hd : Dr w w') : In w' A c xs :=
  ⟨h.len, h.cap, by rw [show w'.heap.size = w.heap.size by rw [hd.heap]]; exact h.rd.dr hd⟩
/-- 'p[:k]', the address as the walk writes it. -/
theorem In.take {w : World} {A : Option Addr} {c : Nat} {xs : List Int} (h : In w A c xs) (k : Nat) : In w A c (xs.take k) :=
  ⟨by have := h.len; simp; omega, by have := h.cap; simp; omega, h.rd.take k⟩
theorem own_caps {w : World} {base e n c : Nat} {A : Option Addr} {vs : List Value} (h : w.ownsRow base e 1 (.slice A n c) n vs) : n ≤ c ∧ c ≤ maxLen := by
  obtain ⟨_, _, he, h1, h2⟩ := own_shape h
  injection he with _ _ hcc
  subst hcc
  exact ⟨h1, h2⟩

/-- The address of 's[k:]' at capacity c: Go does not point behind an array's end. Kept behind a name. -/
def cutA (A : Option Addr) (c k : Nat) : Option Addr := if c = k then A else A.map (·.add (k * 1))
theorem Rd.cut {α : Type} {f : α → Value} {w : World} {B : Nat} {A : Option Addr} {xs : List α} (h : Rd f w B A xs) {k c : Nat} (hk : k ≤ xs.length) (hc : xs.length ≤ c) : Rd f w B (cutA A c k) (xs.drop k) := Rd.drop h hk hc
/-- 's[i:]', 's[i:j]', the address behind the name. -/
theorem run_cut {P : Program} {t : TypeId} (ht : P.underlying t = some (.slice (P.elem t))) (hs : ∀ w : World, (sizeOf (P.elem t)).run P w = .ok 1 w) (A : Option Addr) (n c k : Nat) (i : Int) (hi : i = k) (hk : k ≤ n) (w : World) :
    (Instr.slice t (.slice A n c) (some (.int .i64 i)) none none).run P w = .ok (.slice (cutA A c k) (n - k) (c - k)) w := by
  subst hi
  rw [run_slice_l w t A n c ht .i64 k (by omega) (by omega), hs w]
  simp [Result.andThen, sliced, cutA]
theorem run_cut2 {P : Program} {t : TypeId} (ht : P.underlying t = some (.slice (P.elem t))) (hs : ∀ w : World, (sizeOf (P.elem t)).run P w = .ok 1 w) (A : Option Addr) (n c k m : Nat) (i j : Int) (hi : i = k) (hj : j = m) (hk : k ≤ m) (hm : m ≤ c) (w : World) :
    (Instr.slice t (.slice A n c) (some (.int .i64 i)) (some (.int .i64 j)) none).run P w = .ok (.slice (cutA A c k) (m - k) (c - k)) w := by
  subst hi hj
  rw [run_slice_lh w t A n c ht .i64 .i64 k m (by omega) (by omega) (by omega), hs w]
  simp [Result.andThen, sliced, cutA]
end Go.Proofs.YtldknpjeegdbmaaGreat

/- Contracts of the laws' own helpers: toIntS copies, eqIntS compares, markIntS writes numbers, heldIntS reads them. -/
namespace Go.Proofs.YtldknpjeegdbmaaGreat
set_option maxRecDepth 100000
open Go Go.RowKit

theorem infoI : (Tryz.prog.info? 3).map (fun i => (i.zero, i.size, i.bytes)) = some (some (.int .i64 0), 1, 8) := by kernel_rfl

/-! eqIntS -/
/-! heldIntS: -1, or the next number -/
def marks (k : Int) (n : Nat) : List Int := (List.range n).map fun i : Nat => k + i

theorem marks_length (k : Int) (n : Nat) : (marks k n).length = n := by simp [marks]
theorem marks_get (k : Int) (n i : Nat) (h : i < (marks k n).length) : (marks k n)[i] = k + i := by simp [marks]

end Go.Proofs.YtldknpjeegdbmaaGreat

/- Contracts of the laws' own helpers that write: toIntS copies a list into a new row, markIntS writes numbers into a row. -/
namespace Go.Proofs.YtldknpjeegdbmaaGreat
set_option maxRecDepth 100000
open Go Go.RowKit

/-- One element more has been copied. -/
theorem copied_step (xs : List Int) (k : Nat) (h : k < xs.length) :
    ((xs.take k ++ List.replicate (xs.length - k) 0).map (Value.int .i64)).set k (.int .i64 xs[k]) = (xs.take (k + 1) ++ List.replicate (xs.length - (k + 1)) 0).map (Value.int .i64) := by
  apply List.ext_getElem
  · simp; omega
  · intro i h1 h2
    simp only [List.getElem_set, List.getElem_map, List.getElem_append, List.getElem_take, List.getElem_replicate, List.length_take]
    by_cases hik : k = i
    · subst hik
      simp [show k < min (k + 1) xs.length by omega]
    · rw [if_neg hik]
      split <;> split <;> first | rfl | omega

theorem marks_succ (k : Int) (j : Nat) : marks k (j + 1) = marks k j ++ [k + j] := by simp [marks, List.range_succ]
theorem marked_step (k : Int) (xs : List Int) (j : Nat) (h : j < xs.length) :
    ((marks k j ++ xs.drop j).map (Value.int .i64)).set j (.int .i64 (k + j)) = (marks k (j + 1) ++ xs.drop (j + 1)).map (Value.int .i64) := by
  rw [List.drop_eq_getElem_cons h, marks_succ]
  simp only [List.map_append, List.map_cons, List.set_append, List.length_map, marks_length, Nat.lt_irrefl, if_false, Nat.sub_self, List.set_cons_zero, List.append_assoc, List.cons_append, List.nil_append]

/-- Two slices of the call's own, the later one made when the earlier one was there. -/
theorem own_apart {w : World} {base e n : Nat} {v : Value} {vs : List Value} (h : w.ownsRow base e 1 v n vs) {row : Option Nat} (hr : ∀ g, row = some g → g < base) : v.ownBlock = none ∨ v.ownBlock ≠ row := by
  rcases hv : v.ownBlock with _ | k
  · exact .inl rfl
  · have := (h.lt k hv).1
    refine .inr fun he => ?_
    have := hr k he.symm
    omega
end Go.Proofs.YtldknpjeegdbmaaGreat

/- Words for values that hold several slices: rows of whole numbers and outer slices of rows; what is read, what is owned, what a call has turned. Plain lemmas. -/
namespace Go.Proofs.YtldknpjeegdbmaaGreat
set_option maxRecDepth 100000
open Go Go.RowKit

/-- A slice of whole numbers: address, capacity, what it reads as. -/
structure Row where
  A : Option Addr
  c : Nat
  xs : List Int
def Row.v (r : Row) : Value := .slice r.A r.xs.length r.c
/-- A slice of slices: address, capacity, its cells. -/
structure Outer where
  A : Option Addr
  c : Nat
  vs : List Value
def Outer.v (o : Outer) : Value := .slice o.A o.vs.length o.c

structure Read (w : World) (B : Nat) (rs : List Row) (os : List Outer) : Prop where
  cap : ∀ r ∈ rs, r.xs.length ≤ r.c
  rd : ∀ r ∈ rs, Rd (Value.int .i64) w B r.A r.xs
  ocap : ∀ o ∈ os, o.vs.length ≤ o.c
  ord : ∀ o ∈ os, Rd id w B o.A o.vs

structure Own (w : World) (lo hi : Nat) (rs : List Row) (os : List Outer) : Prop where
  rows : ∀ r ∈ rs, w.ownsRow lo 3 1 r.v r.xs.length (r.xs.map (Value.int .i64))
  lt : ∀ r ∈ rs, ∀ g, r.v.ownBlock = some g → g < hi
  apart : rs.Pairwise fun r s => r.v.ownBlock = none ∨ r.v.ownBlock ≠ s.v.ownBlock
  outs : ∀ o ∈ os, w.ownsRow lo 24 1 o.v o.vs.length o.vs
  olt : ∀ o ∈ os, ∀ g, o.v.ownBlock = some g → g < hi

/-- A call turned nothing but blocks between lo and hi, and new ones. -/
structure Span (lo hi : Nat) (w w' : World) : Prop where
  os : w'.os = w.os
  tape : w'.tape = w.tape
  output : w'.output = w.output
  size : w.heap.size ≤ w'.heap.size
  block : ∀ k, k < w.heap.size → (k < lo ∨ hi ≤ k) → w'.heap[k]? = w.heap[k]?

theorem Span.refl (lo hi : Nat) (w : World) : Span lo hi w w := ⟨rfl, rfl, rfl, Nat.le_refl _, fun _ _ _ => rfl⟩
theorem Span.trans {lo hi : Nat} {a b c : World} (h : Span lo hi a b) (k : Span lo hi b c) : Span lo hi a c :=
  ⟨k.os.trans h.os, k.tape.trans h.tape, k.output.trans h.output, Nat.le_trans h.size k.size, fun i hi hr => (k.block i (Nat.lt_of_lt_of_le hi h.size) hr).trans (h.block i hi hr)⟩
theorem Span.of_grown {lo hi : Nat} {w w' : World} {row : Option Nat} (h : w.grownBy w' row) (hr : ∀ g, row = some g → lo ≤ g ∧ g < hi) : Span lo hi w w' :=
  ⟨h.os, h.tape, h.output, h.size, fun k hk hlh => h.block k hk fun he => by have := hr k he.symm; omega⟩
theorem Span.below {lo hi : Nat} {w w' : World} (h : Span lo hi w w') {B : Nat} (hB : B ≤ lo) (hs : B ≤ w.heap.size) : Below B w w' :=
  ⟨h.os, h.tape, h.output, h.size, fun k hk => h.block k (by omega) (.inl (by omega))⟩
theorem Span.of_below {lo hi : Nat} {w w' : World} (h : Below w.heap.size w w') : Span lo hi w w' := ⟨h.os, h.tape, h.output, h.size, fun k hk _ => h.block k hk⟩

theorem Span.set {lo hi : Nat} {w : World} {p : Addr} (h1 : lo ≤ p.block) (h2 : p.block < hi) (v : Value) : Span lo hi w (w.setCell p v) :=
  ⟨rfl, rfl, rfl, by simp [World.setCell], fun k _ hk => by simp only [World.setCell, Array.getElem?_modify]; rw [if_neg (by omega)]⟩

theorem own_span {w w' : World} {base e n lo hi : Nat} {v : Value} {vs : List Value} (h : w.ownsRow base e 1 v n vs) (hs : Span lo hi w w') (hne : ∀ g, v.ownBlock = some g → g < lo ∨ hi ≤ g) : w'.ownsRow base e 1 v n vs := by
  refine ⟨h.1, ?_⟩
  rcases h.2 with h2 | ⟨g, cap, cur, rfl, hg, hh, r⟩
  · exact .inl h2
  · refine .inr ⟨g, cap, cur, rfl, hg, ?_, r⟩
    have hlt : g < w.heap.size := by
      rcases Nat.lt_or_ge g w.heap.size with h' | h'
      · exact h'
      · rw [Array.getElem?_eq_none h'] at hh; cases hh
    rw [hs.block g hlt (hne g rfl)]
    exact hh

section
variable {w w' : World} {lo hi B B' : Nat} {rs : List Row} {os : List Outer}
theorem Read.below (h : Read w B rs os) (hb : Below B w w') : Read w' B rs os := ⟨h.cap, fun r hr => (h.rd r hr).below hb, h.ocap, fun o ho => (h.ord o ho).below hb⟩
theorem Read.more (h : Read w B rs os) (hB : B ≤ B') : Read w B' rs os := ⟨h.cap, fun r hr => (h.rd r hr).more hB, h.ocap, fun o ho => (h.ord o ho).more hB⟩
theorem Read.dr (h : Read w B rs os) (hd : Dr w w') : Read w' B rs os := ⟨h.cap, fun r hr => (h.rd r hr).dr hd, h.ocap, fun o ho => (h.ord o ho).dr hd⟩
theorem Read.span (h : Read w B rs os) (hs : Span lo hi w w') (hB : B ≤ lo) (hw : B ≤ w.heap.size) : Read w' B rs os := h.below (hs.below hB hw)
theorem Own.below (h : Own w lo hi rs os) (hb : Below w.heap.size w w') : Own w' lo hi rs os :=
  ⟨fun r hr => own_below (h.rows r hr) hb, h.lt, h.apart, fun o ho => own_below (h.outs o ho) hb, h.olt⟩
theorem Own.dr (h : Own w lo hi rs os) (hd : Dr w w') : Own w' lo hi rs os := by obtain ⟨n, rfl⟩ := hd; exact ⟨h.rows, h.lt, h.apart, h.outs, h.olt⟩
theorem Own.wider (h : Own w lo hi rs os) {lo' hi' : Nat} (hl : lo' ≤ lo) (hh : hi ≤ hi') : Own w lo' hi' rs os :=
  ⟨fun r hr => own_mono (h.rows r hr) hl, fun r hr g hg => by have := h.lt r hr g hg; omega, h.apart, fun o ho => own_mono (h.outs o ho) hl, fun o ho g hg => by have := h.olt o ho g hg; omega⟩
theorem Own.span {lo' hi' : Nat} (h : Own w lo hi rs os) (hs : Span lo' hi' w w') (hd : hi ≤ lo' ∨ hi' ≤ lo) : Own w' lo hi rs os :=
  ⟨fun r hr => own_span (h.rows r hr) hs fun g hg => by have := h.lt r hr g hg; have := (h.rows r hr).lt g hg; omega, h.lt, h.apart,
    fun o ho => own_span (h.outs o ho) hs fun g hg => by have := h.olt o ho g hg; have := (h.outs o ho).lt g hg; omega, h.olt⟩
theorem rd_lt {α : Type} {f : α → Value} {A : Option Addr} {xs : List α} {c : Nat} (h : Rd f w B A xs) (hl : ∀ g, (Value.slice A xs.length c).ownBlock = some g → g < B') : Rd f w B' A xs := fun h0 => by
  obtain ⟨b, off, rfl, hb, hc⟩ := h h0
  exact ⟨b, off, rfl, hl b rfl, hc⟩
theorem Own.read (h : Own w lo hi rs os) : Read w hi rs os :=
  ⟨fun r hr => (own_caps (h.rows r hr)).1, fun r hr => rd_lt (c := r.c) (Rd.of_own (c := r.c) (h.rows r hr)) (h.lt r hr),
    fun o ho => (own_caps (h.outs o ho)).1, fun o ho => rd_lt (c := o.c) (Rd.of_own (f := id) (e := 24) (c := o.c) (by rw [List.map_id]; exact h.outs o ho)) (h.olt o ho)⟩
theorem Own.one {A : Option Addr} {c : Nat} {xs : List Int} (h : w.ownsRow lo 3 1 (.slice A xs.length c) xs.length (xs.map (Value.int .i64))) (hh : w.heap.size ≤ hi) : Own w lo hi [⟨A, c, xs⟩] [] :=
  ⟨fun r hr => by obtain rfl := List.mem_singleton.1 hr; exact h, fun r hr g hg => by obtain rfl := List.mem_singleton.1 hr; have := (h.lt g hg).2; omega, List.pairwise_singleton _ _, fun o ho => (List.not_mem_nil ho).elim, fun o ho => (List.not_mem_nil ho).elim⟩
theorem Own.nil_ : Own w lo hi [] [] := ⟨fun _ hr => (List.not_mem_nil hr).elim, fun _ hr => (List.not_mem_nil hr).elim, List.Pairwise.nil, fun _ hr => (List.not_mem_nil hr).elim, fun _ hr => (List.not_mem_nil hr).elim⟩
theorem Read.nil_ : Read w B [] [] := ⟨fun _ hr => (List.not_mem_nil hr).elim, fun _ hr => (List.not_mem_nil hr).elim, fun _ hr => (List.not_mem_nil hr).elim, fun _ hr => (List.not_mem_nil hr).elim⟩

theorem Own.lim (h : Own w lo hi rs []) (m : Nat) (hl : ∀ r ∈ rs, ∀ g, r.v.ownBlock = some g → g < m) : Own w lo m rs [] := ⟨h.rows, hl, h.apart, h.outs, fun _ ho => (List.not_mem_nil ho).elim⟩
theorem own_off {v : Value} {lim : Nat} {row : Option Nat} (hl : ∀ q, v.ownBlock = some q → q < lim) (hr : ∀ q, row = some q → lim ≤ q) : v.ownBlock = none ∨ v.ownBlock ≠ row := by
  rcases hv : v.ownBlock with _ | k
  · exact .inl rfl
  · refine .inr fun he => ?_
    have h1 := hl k hv
    have h2 := hr k he.symm
    omega
theorem own_ne {r : Row} {o : Outer} (h : Own w lo hi rs os) (hr : r ∈ rs) (ho : o ∈ os) : ∀ g, r.v.ownBlock = some g → o.v.ownBlock ≠ some g := by
  intro g h1 h2
  rcases (h.rows r hr).2 with ⟨e, _⟩ | ⟨g1, c1, cur1, e1, _, hh1, _⟩
  · rw [e] at h1; cases h1
  rcases (h.outs o ho).2 with ⟨e, _⟩ | ⟨g2, c2, cur2, e2, _, hh2, _⟩
  · rw [e] at h2; cases h2
  rw [e1] at h1; rw [e2] at h2
  injection h1 with h1; injection h2 with h2
  simp only at h1 h2
  subst h1 h2
  rw [hh1] at hh2
  injection hh2 with hh2
  injection hh2 with _ ht _
  exact absurd ht (by decide)

/-- One row of several was written anew. -/
theorem Own.mark {rs1 rs2 : List Row} {r : Row} {k : Int} (h : Own w lo hi (rs1 ++ r :: rs2) os) (hg : w.grownBy w' r.v.ownBlock)
    (hr : w'.ownsRow lo 3 1 r.v r.xs.length ((marks k r.xs.length).map (Value.int .i64))) : Own w' lo hi (rs1 ++ ⟨r.A, r.c, marks k r.xs.length⟩ :: rs2) os := by
  have hv : (Row.mk r.A r.c (marks k r.xs.length)).v = r.v := by simp only [Row.v, marks_length]
  have hp := h.apart
  rw [List.pairwise_append] at hp
  obtain ⟨hp1, hp2, hp3⟩ := hp
  rw [List.pairwise_cons] at hp2
  have hmem : r ∈ rs1 ++ r :: rs2 := by simp
  refine ⟨fun s hs => ?_, fun s hs g hgg => ?_, ?_, fun o ho => ?_, h.olt⟩
  · rcases List.mem_append.1 hs with hs | hs
    · refine (h.rows s (by simp [hs])).kept hg ?_
      exact hp3 s hs r (by simp)
    · rcases List.mem_cons.1 hs with rfl | hs
      · rw [hv]; simp only [marks_length]; exact hr
      · refine (h.rows s (by simp [hs])).kept hg ?_
        rcases hp2.1 s hs with hn | hn
        · rw [hn]
          rcases hsv : s.v.ownBlock with _ | g
          · exact .inl rfl
          · exact .inr (by simp)
        · exact .inr fun e => hn e.symm
  · rcases List.mem_append.1 hs with hs | hs
    · exact h.lt s (by simp [hs]) g hgg
    · rcases List.mem_cons.1 hs with rfl | hs
      · rw [hv] at hgg; exact h.lt r hmem g hgg
      · exact h.lt s (by simp [hs]) g hgg
  · rw [List.pairwise_append]
    refine ⟨hp1, ?_, fun a ha b hb => ?_⟩
    · rw [List.pairwise_cons]
      refine ⟨fun s hs => ?_, hp2.2⟩
      rw [hv]; exact hp2.1 s hs
    · rcases List.mem_cons.1 hb with rfl | hb
      · rw [hv]; exact hp3 a ha r (by simp)
      · exact hp3 a ha b (by simp [hb])
  · refine (h.outs o ho).kept hg ?_
    rcases hrv : r.v.ownBlock with _ | g
    · rcases hov : o.v.ownBlock with _ | g'
      · exact .inl rfl
      · exact .inr (by simp)
    · exact .inr (own_ne h hmem ho g hrv)

/-- Two values of the call's own, the second made behind the first. -/
theorem Own.app {m : Nat} {rs' : List Row} {os' : List Outer} (h : Own w lo m rs os) (h' : Own w m hi rs' os') (hl : lo ≤ m) (hh : m ≤ hi) : Own w lo hi (rs ++ rs') (os ++ os') := by
  refine ⟨fun r hr => ?_, fun r hr g hg => ?_, ?_, fun o ho => ?_, fun o ho g hg => ?_⟩
  · rcases List.mem_append.1 hr with hr | hr
    · exact h.rows r hr
    · exact own_mono (h'.rows r hr) hl
  · rcases List.mem_append.1 hr with hr | hr
    · have := h.lt r hr g hg; omega
    · exact h'.lt r hr g hg
  · rw [List.pairwise_append]
    refine ⟨h.apart, h'.apart, fun a ha b hb => ?_⟩
    rcases hav : a.v.ownBlock with _ | g
    · exact .inl rfl
    · refine .inr fun e => ?_
      have h1 := h.lt a ha g hav
      have h2 := ((h'.rows b hb).lt g e.symm).1
      omega
  · rcases List.mem_append.1 ho with ho | ho
    · exact h.outs o ho
    · exact own_mono (h'.outs o ho) hl
  · rcases List.mem_append.1 ho with ho | ho
    · have := h.olt o ho g hg; omega
    · exact h'.olt o ho g hg
end

/-- An object of cells that nothing froze: what its cells are. -/
theorem obj_cell {w : World} {g i : Nat} {cur : Array Value} {t : TypeId} (h : w.heap[g]? = some (.cells cur t (0, 0))) : w.cell? ⟨g, i, none⟩ = cur[i]? := by
  simp [World.cell?, h]
theorem obj_frozen {w : World} {g i : Nat} {cur : Array Value} {t : TypeId} (h : w.heap[g]? = some (.cells cur t (0, 0))) : w.frozen? ⟨g, i, none⟩ = false := by
  simp [World.frozen?, h]
theorem obj_below {w w' : World} {B g : Nat} {o : Obj} (h : w.heap[g]? = some o) (hb : Below B w w') (hg : g < B) : w'.heap[g]? = some o := (hb.block g hg).trans h
theorem obj_lt {w : World} {g : Nat} {o : Obj} (h : w.heap[g]? = some o) : g < w.heap.size := by
  rcases Nat.lt_or_ge g w.heap.size with h' | h'
  · exact h'
  · rw [Array.getElem?_eq_none h'] at h; cases h
theorem obj_dr {w w' : World} {g : Nat} {o : Obj} (h : w.heap[g]? = some o) (hd : Dr w w') : w'.heap[g]? = some o := by rw [hd.heap]; exact h
theorem obj_set {w : World} {g i : Nat} {cur : Array Value} {t : TypeId} (h : w.heap[g]? = some (.cells cur t (0, 0))) (v : Value) :
    (w.setCell ⟨g, i, none⟩ v).heap[g]? = some (.cells (cur.setIfInBounds i v) t (0, 0)) := by
  simp only [World.setCell, Array.getElem?_modify, if_pos, h, Option.map_some, Option.isSome_none, Bool.false_eq_true, if_false]
theorem obj_other {w : World} {g g' i : Nat} {o : Obj} (h : w.heap[g]? = some o) (hne : g' ≠ g) (v : Value) : (w.setCell ⟨g', i, none⟩ v).heap[g]? = some o := by
  simp only [World.setCell, Array.getElem?_modify, if_neg hne]
  exact h
theorem obj_alloc {w : World} {g : Nat} {o : Obj} (h : w.heap[g]? = some o) (o' : Obj) : (w.alloc o').heap[g]? = some o := by
  have hl := obj_lt h
  show (w.heap.push o')[g]? = some o
  rw [Array.getElem?_push_lt hl, ← h, Array.getElem?_eq_getElem hl]
theorem obj_new (w : World) (o : Obj) : (w.alloc o).heap[w.heap.size]? = some o := by
  show (w.heap.push o)[w.heap.size]? = some o
  simp
/-- A struct of two cells laid into a new block. -/
theorem box_below (w : World) (z0 z1 a b : Value) (T : TypeId) :
    Below w.heap.size w (((w.alloc (Obj.cells #[z0, z1] T)).setCell ⟨w.heap.size, 0, none⟩ a).setCell ⟨w.heap.size, 1, none⟩ b) :=
  (((Below.refl _ _).alloc (Nat.le_refl _) _).setCell (p := ⟨w.heap.size, 0, none⟩) (Nat.le_refl _) a).setCell (p := ⟨w.heap.size, 1, none⟩) (Nat.le_refl _) b
theorem box_obj (w : World) (z0 z1 a b : Value) (T : TypeId) :
    (((w.alloc (Obj.cells #[z0, z1] T)).setCell ⟨w.heap.size, 0, none⟩ a).setCell ⟨w.heap.size, 1, none⟩ b).heap[w.heap.size]? = some (Obj.cells #[a, b] T) :=
  obj_set (i := 1) (obj_set (i := 0) (obj_new w (Obj.cells #[z0, z1] T)) a) b

/-- What a call is handed of a Near: both its lists. -/
structure InN (w : World) (A : Option Addr) (c : Nat) (xs : List Int) (B : Option Addr) (k : Nat) (ys : List Int) : Prop where
  fst : In w A c xs
  snd : In w B k ys
theorem InN.next {w w' : World} {A : Option Addr} {c : Nat} {xs : List Int} {B : Option Addr} {k : Nat} {ys : List Int} (h : InN w A c xs B k ys) (hb : Below w.heap.size w w') : InN w' A c xs B k ys := ⟨h.1.next hb, h.2.next hb⟩

/-- The rows marked one after the other. -/
def marked : Int → List Row → List Row
  | _, [] => []
  | k, r :: t => ⟨r.A, r.c, marks k r.xs.length⟩ :: marked (k + r.xs.length) t
def sizeR (rs : List Row) : Nat := (rs.map fun r => r.xs.length).sum
theorem sizeR_append (rs rs' : List Row) : sizeR (rs ++ rs') = sizeR rs + sizeR rs' := by simp [sizeR]
theorem marked_append (k : Int) (rs rs' : List Row) : marked k (rs ++ rs') = marked k rs ++ marked (k + sizeR rs) rs' := by
  induction rs generalizing k with
  | nil => simp [marked, sizeR]
  | cons r t ih =>
    simp only [List.cons_append, marked, ih]
    have : k + (r.xs.length : Int) + (sizeR t : Int) = k + ((sizeR (r :: t) : Nat) : Int) := by simp [sizeR]; omega
    rw [this]
theorem marked_v (k : Int) (rs : List Row) : (marked k rs).map Row.v = rs.map Row.v := by
  induction rs generalizing k with
  | nil => rfl
  | cons r t ih => simp only [marked, List.map_cons, ih, Row.v, marks_length]
theorem marked_length (k : Int) (rs : List Row) : (marked k rs).length = rs.length := by
  induction rs generalizing k with
  | nil => rfl
  | cons r t ih => simp [marked, ih]
end Go.Proofs.YtldknpjeegdbmaaGreat

/- The draws' numbers: a cursor over the code's bytes. Only the bounds of what is drawn are told. -/
namespace Go.Proofs.YtldknpjeegdbmaaGreat
set_option maxRecDepth 100000
open Go Go.RowKit

theorem bitsAnd_lt (x : Int) (m : Nat) (hm : m < 2 ^ 32) : 0 ≤ bits .and .i64 x m ∧ bits .and .i64 x m ≤ m := by
  have h1 : ((BitVec.ofInt 64 x) &&& (BitVec.ofInt 64 (m : Int))).toNat ≤ m := by
    rw [BitVec.toNat_and]
    refine Nat.le_trans (Nat.and_le_right) ?_
    rw [BitVec.toNat_ofInt]
    omega
  have h2 : bits .and .i64 x m = IntKind.i64.wrap (((BitVec.ofInt 64 x) &&& (BitVec.ofInt 64 (m : Int))).toNat : Nat) := rfl
  rw [h2, IntWalk.i64_in _ (by omega)]
  omega
theorem bitsAnd_255 (x : Int) : 0 ≤ bits .and .i64 x 255 ∧ bits .and .i64 x 255 < 256 := by
  have := bitsAnd_lt x 255 (by decide)
  exact ⟨this.1, Int.lt_of_le_of_lt this.2 (by decide)⟩

/-- The cursor of a draw lies in block q, the code's bytes below it. -/
structure Cur (w : World) (q : Nat) (A : Option Addr) (c : Nat) (bs : List Int) : Prop where
  len : bs.length ≤ 1048576
  ob : ∃ (i : Nat) (h : Int), i ≤ bs.length ∧ w.heap[q]? = some (Obj.cells #[.slice A bs.length c, .int .i64 i, .int .i64 h] 60)
  rd : Rd (Value.int .u8) w q A bs
theorem Cur.lt {w : World} {q : Nat} {A : Option Addr} {c : Nat} {bs : List Int} (h : Cur w q A c bs) : q < w.heap.size := by
  obtain ⟨i, k, _, ho⟩ := h.ob
  exact obj_lt ho
theorem Cur.below {w w' : World} {B q : Nat} {A : Option Addr} {c : Nat} {bs : List Int} (h : Cur w q A c bs) (hb : Below B w w') (hB : q < B) : Cur w' q A c bs := by
  obtain ⟨i, k, hi, ho⟩ := h.ob
  exact ⟨h.len, ⟨i, k, hi, obj_below ho hb hB⟩, h.rd.below (hb.mono (by omega))⟩
theorem Cur.dr {w w' : World} {q : Nat} {A : Option Addr} {c : Nat} {bs : List Int} (h : Cur w q A c bs) (hd : Dr w w') : Cur w' q A c bs := by
  obtain ⟨n, rfl⟩ := hd
  exact ⟨h.len, h.ob, h.rd⟩
theorem Span.dr {lo hi : Nat} {a w w' : World} (h : Span lo hi a w) (hd : Dr w w') : Span lo hi a w' := by
  obtain ⟨n, rfl⟩ := hd
  exact ⟨h.os, h.tape, h.output, h.size, h.block⟩

/-- A draw of the cursor turned the cursor alone. -/
structure Drawn (w w' : World) (q : Nat) (A : Option Addr) (c : Nat) (bs : List Int) : Prop where
  cur : Cur w' q A c bs
  span : Span q (q + 1) w w'
theorem Drawn.trans {a b d : World} {q : Nat} {A : Option Addr} {c : Nat} {bs : List Int} (h : Drawn a b q A c bs) (k : Drawn b d q A c bs) : Drawn a d q A c bs := ⟨k.cur, h.span.trans k.span⟩
theorem Drawn.dr {a b d : World} {q : Nat} {A : Option Addr} {c : Nat} {bs : List Int} (h : Drawn a b q A c bs) (k : Dr b d) : Drawn a d q A c bs := ⟨h.cur.dr k, h.span.dr k⟩
theorem Drawn.refl {w : World} {q : Nat} {A : Option Addr} {c : Nat} {bs : List Int} (h : Cur w q A c bs) : Drawn w w q A c bs := ⟨h, Span.refl _ _ _⟩
/-- A number between 0 and n was drawn. -/
def RetC (w : World) (q : Nat) (A : Option Addr) (c : Nat) (bs : List Int) (ok : Int → Prop) (en : Ending) (w' : World) : Prop :=
  ∃ x : Int, en = .returned (.int .i64 x) ∧ ok x ∧ Drawn w w' q A c bs

theorem cur_set {w : World} {q : Nat} {A : Option Addr} {c i : Nat} {bs : List Int} {h : Int} (hc : Cur w q A c bs) (ho : w.heap[q]? = some (Obj.cells #[.slice A bs.length c, .int .i64 i, .int .i64 h] 60)) (hi : i ≤ bs.length) (h' : Int) :
    (w.setCell ⟨q, 2, none⟩ (.int .i64 h')).heap[q]? = some (Obj.cells #[.slice A bs.length c, .int .i64 i, .int .i64 h'] 60) ∧ Drawn w (w.setCell ⟨q, 2, none⟩ (.int .i64 h')) q A c bs := by
  have h1 := obj_set (i := 2) ho (.int .i64 h')
  refine ⟨h1, ⟨hc.len, ⟨i, h', hi, h1⟩, hc.rd.setCell (Nat.le_refl _) _⟩, Span.set (p := ⟨q, _, none⟩) (Nat.le_refl q) (Nat.lt_succ_self q) _⟩
theorem cur_next {w : World} {q : Nat} {A : Option Addr} {c i : Nat} {bs : List Int} {h : Int} (hc : Cur w q A c bs) (ho : w.heap[q]? = some (Obj.cells #[.slice A bs.length c, .int .i64 i, .int .i64 h] 60)) (hi : i < bs.length) :
    Drawn w (w.setCell ⟨q, 1, none⟩ (.int .i64 ((i : Int) + 1))) q A c bs := by
  have h1 := obj_set (i := 1) ho (.int .i64 ((i : Int) + 1))
  exact ⟨⟨hc.len, ⟨i + 1, h, hi, h1⟩, hc.rd.setCell (Nat.le_refl _) _⟩, Span.set (p := ⟨q, _, none⟩) (Nat.le_refl q) (Nat.lt_succ_self q) _⟩

set_option maxHeartbeats 800000 in
theorem l1Byte_any (w : World) (q : Nat) (A : Option Addr) (c : Nat) (bs : List Int) (hc : Cur w q A c bs) :
    Calls Tryz.prog 91 #[.pointer (some ⟨q, 0, none⟩)] w (RetC w q A c bs fun x => 0 ≤ x ∧ x < 256) := by
  have hlen := hc.len
  obtain ⟨i, h, hi, ho⟩ := hc.ob
  have f0 := obj_cell (i := 0) ho
  have f1 := obj_cell (i := 1) ho
  have f2 := obj_cell (i := 2) ho
  have g2 := obj_frozen (i := 2) ho
  simp only [List.getElem?_toArray, List.getElem?_cons_zero, List.getElem?_cons_succ] at f0 f1 f2
  rcases Nat.lt_or_ge i bs.length with hlt | hge
  · have l1 : (i : Int) < (bs.length : Int) := by omega
    have e1 : IntKind.i64.wrap ((i : Int) + 1) = (i : Int) + 1 := IntWalk.i64_in _ (by omega)
    go_enter Tryz.func91, Tryz.ntmps91
    go_wp2_with fail
    clear f0 f1 f2 g2
    generalize wrap64 (wrap64 (h * 6364136223846793005) + 1442695040888963407) = hn
    obtain ⟨h1, k1⟩ := cur_set hc ho hi hn
    generalize w.setCell { block := q, off := 2 } (Value.int IntKind.i64 hn) = w1 at h1 k1 ⊢
    have f0 := obj_cell (i := 0) h1
    have f1 := obj_cell (i := 1) h1
    have f2 := obj_cell (i := 2) h1
    have g1 := obj_frozen (i := 1) h1
    simp only [List.getElem?_toArray, List.getElem?_cons_zero, List.getElem?_cons_succ] at f0 f1 f2
    obtain ⟨b, off, rfl, hb, hcell⟩ := k1.cur.rd (by omega)
    have hci := hcell i hlt
    go_quiet (fail)
    have hx := bitsAnd_255 (bits .xor .i64 (hn / 8589934592) (hn / 35184372088832))
    generalize bits .and .i64 (bits .xor .i64 (hn / 8589934592) (hn / 35184372088832)) 255 = x at hx ⊢
    go_wp2_with fail
    go_quiet (fail)
    go_wp2_with fail
    go_quiet (fail)
    go_wp2_with fail
    go_ret
    refine ⟨_, rfl, bitsAnd_255 _, ?_⟩
    exact (k1.dr (Dr.of _ _)).trans (cur_next (k1.cur.dr (Dr.of _ _)) (obj_dr h1 (Dr.of _ _)) hlt)
  · have l1 : ¬ (i : Int) < (bs.length : Int) := by omega
    go_enter Tryz.func91, Tryz.ntmps91
    go_wp2_with fail
    clear f0 f1 f2 g2
    generalize wrap64 (wrap64 (h * 6364136223846793005) + 1442695040888963407) = hn
    obtain ⟨h1, k1⟩ := cur_set hc ho hi hn
    generalize w.setCell { block := q, off := 2 } (Value.int IntKind.i64 hn) = w1 at h1 k1 ⊢
    have f0 := obj_cell (i := 0) h1
    have f1 := obj_cell (i := 1) h1
    have f2 := obj_cell (i := 2) h1
    have g1 := obj_frozen (i := 1) h1
    simp only [List.getElem?_toArray, List.getElem?_cons_zero, List.getElem?_cons_succ] at f0 f1 f2
    go_quiet (fail)
    have hx := bitsAnd_255 (bits .xor .i64 (hn / 8589934592) (hn / 35184372088832))
    generalize bits .and .i64 (bits .xor .i64 (hn / 8589934592) (hn / 35184372088832)) 255 = x at hx ⊢
    go_wp2_with fail
    go_quiet (fail)
    go_wp2_with fail
    go_ret
    exact ⟨x, rfl, hx, k1.dr (by first | with_reducible exact Dr.of _ _ | with_reducible exact Dr.of2 _ _ _ | with_reducible exact Dr.refl _ | with_reducible exact Dr.of3 _ _ _)⟩

set_option maxHeartbeats 800000 in
theorem l1Below_any (w : World) (q : Nat) (A : Option Addr) (c : Nat) (bs : List Int) (n : Int) (hn : -9223372036854775808 ≤ n ∧ n ≤ 9223372036854775807) (hc : Cur w q A c bs) :
    Calls Tryz.prog 67 #[.pointer (some ⟨q, 0, none⟩), .int .i64 n] w (RetC w q A c bs fun x => 0 ≤ x ∧ (0 < n → x < n) ∧ (n ≤ 0 → x = 0)) := by
  by_cases h0 : n ≤ 0
  · go_enter Tryz.func67, Tryz.ntmps67
    go_wp2_with fail
    go_ret
    exact ⟨0, rfl, ⟨Int.le_refl _, fun h => by omega, fun _ => rfl⟩, Drawn.refl hc⟩
  by_cases h1 : n ≤ 256
  · have HC := Lib.hid (l1Byte_any w q A c bs hc)
    go_enter Tryz.func67, Tryz.ntmps67
    go_wp2_with fail
    (with_reducible refine HC.out.mono ?_)
    rintro e w1 ⟨x, rfl, ⟨hx0, hx1⟩, k1⟩
    have hm0 := Int.emod_nonneg x (show n ≠ 0 by omega)
    have hm1 := Int.emod_lt_of_pos x (show 0 < n by omega)
    have hm2 : x.tmod n = x % n := Int.tmod_eq_emod_of_nonneg hx0
    go_wp2_with fail
    go_ret
    exact ⟨x % n, by first | rfl | (simp only [hm2]), ⟨hm0, fun _ => hm1, fun h => by omega⟩, k1⟩
  · have HC := Lib.hid (l1Byte_any w q A c bs hc)
    go_enter Tryz.func67, Tryz.ntmps67
    go_wp2_with fail
    (with_reducible refine HC.out.mono ?_)
    rintro e w1 ⟨x, rfl, hx, k1⟩
    go_wp2_with fail
    (with_reducible refine (l1Byte_any w1 q A c bs k1.cur).mono ?_)
    rintro e w2 ⟨y, rfl, hy, k2⟩
    have k2 := k1.trans k2
    go_wp2_with fail
    (with_reducible refine (l1Byte_any w2 q A c bs k2.cur).mono ?_)
    rintro e w3 ⟨z, rfl, hz, k3⟩
    have k3 := k2.trans k3
    go_wp2_with fail
    (with_reducible refine (l1Byte_any w3 q A c bs k3.cur).mono ?_)
    rintro e w4 ⟨u, rfl, hu, k4⟩
    have k4 := k3.trans k4
    have t1 : IntKind.i64.wrap (x * 16777216) = x * 16777216 := IntWalk.i64_in _ (by omega)
    have t2 : IntKind.i64.wrap (y * 65536) = y * 65536 := IntWalk.i64_in _ (by omega)
    have t3 : IntKind.i64.wrap (z * 256) = z * 256 := IntWalk.i64_in _ (by omega)
    have t4 : IntKind.i64.wrap (x * 16777216 + y * 65536) = x * 16777216 + y * 65536 := IntWalk.i64_in _ (by omega)
    have t5 : IntKind.i64.wrap (x * 16777216 + y * 65536 + z * 256) = x * 16777216 + y * 65536 + z * 256 := IntWalk.i64_in _ (by omega)
    have t6 : IntKind.i64.wrap (x * 16777216 + y * 65536 + z * 256 + u) = x * 16777216 + y * 65536 + z * 256 + u := IntWalk.i64_in _ (by omega)
    have t7 : 0 ≤ x * 16777216 + y * 65536 + z * 256 + u := by omega
    have hm0 := Int.emod_nonneg (x * 16777216 + y * 65536 + z * 256 + u) (show n ≠ 0 by omega)
    have hm1 := Int.emod_lt_of_pos (x * 16777216 + y * 65536 + z * 256 + u) (show 0 < n by omega)
    go_wp2_with fail
    go_ret
    exact ⟨(x * 16777216 + y * 65536 + z * 256 + u) % n, by first | rfl | (simp only [Int.tmod_eq_emod_of_nonneg t7]), ⟨hm0, fun _ => hm1, fun h => by omega⟩, k4⟩

set_option maxHeartbeats 800000 in
theorem l1Once_any (w : World) (q : Nat) (A : Option Addr) (c : Nat) (bs : List Int) (n : Int) (hn : -9223372036854775808 ≤ n ∧ n ≤ 9223372036854775807) (hc : Cur w q A c bs) :
    Calls Tryz.prog 31 #[.pointer (some ⟨q, 0, none⟩), .int .i64 n] w (fun en w' => ∃ b : Bool, en = .returned (.bool b) ∧ Drawn w w' q A c bs) := by
  have HC := Lib.hid (l1Below_any w q A c bs n hn hc)
  go_enter Tryz.func31, Tryz.ntmps31
  go_wp2_with fail
  (with_reducible refine HC.out.mono ?_)
  rintro e w1 ⟨x, rfl, hx, k1⟩
  go_wp2_with fail
  go_ret
  exact ⟨_, rfl, k1⟩

/-- One of a list of numbers that is read, which lies beyond the cursor or below it. -/
theorem l1PickInt_any (w : World) (q : Nat) (A : Option Addr) (c : Nat) (bs : List Int) (b : Nat) (n k : Nat) (xs : List Int) (hnl : xs.length = n) (h0 : 0 < xs.length) (hl : xs.length ≤ 256) (hb : b ≠ q) (hbw : b < w.heap.size)
    (hr : ∀ j (h : j < xs.length), w.cell? ⟨b, j, none⟩ = some (.int .i64 xs[j])) (hc : Cur w q A c bs) :
    Calls Tryz.prog 83 #[.pointer (some ⟨q, 0, none⟩), .slice (some ⟨b, 0, none⟩) n k] w (RetC w q A c bs fun x => x ∈ xs) := by
  subst hnl
  have HC := Lib.hid (l1Below_any w q A c bs (xs.length : Int) (by omega) hc)
  go_enter Tryz.func83, Tryz.ntmps83
  go_wp2_with fail
  (with_reducible refine HC.out.mono ?_)
  rintro e w1 ⟨x, rfl, hx, k1⟩
  obtain ⟨m, rfl⟩ := Int.eq_ofNat_of_zero_le hx.1
  have hm : m < xs.length := by have := hx.2.1 (by omega); omega
  have hcl : w1.cell? ⟨b, m, none⟩ = some (.int .i64 xs[m]) := by
    have h1 : w1.heap[b]? = w.heap[b]? := k1.span.block b hbw (by omega)
    rw [← hr m hm]
    exact World.cell?_of_block h1
  go_wp2_with fail
  go_ret
  exact ⟨_, rfl, List.getElem_mem hm, k1⟩

set_option maxHeartbeats 800000 in
theorem l1New_any (A : Option Addr) (c : Nat) (bs : List Int) (w : World) (hl : bs.length ≤ 1048576) (hr : Rd (Value.int .u8) w w.heap.size A bs) :
    Calls Tryz.prog 27 #[.slice A bs.length c] w (fun en w' => ∃ q, en = .returned (.pointer (some ⟨q, 0, none⟩)) ∧ w.heap.size ≤ q ∧ Cur w' q A c bs ∧ Below w.heap.size w w') := by
  go_enter Tryz.func27, Tryz.ntmps27
  have e0 : IntKind.i64.wrap ((26583 : Int) + (bs.length : Int)) = 26583 + (bs.length : Int) := IntWalk.i64_in _ (by omega)
  go_wp2_with fail
  go_loopw [3, 4] (fun v i wr => ∃ (k : Nat) (h : Int), k ≤ bs.length ∧ v = .int .i64 h ∧ i = .int .i64 k ∧ wr = w) (fun _ i _ => bs.length - (intOf i).toNat)
  case atStart => exact ⟨0, _, Nat.zero_le _, rfl, rfl, rfl⟩
  case round =>
    obtain ⟨k, h, hk, rfl, rfl, rfl⟩ := hrel
    rcases Nat.lt_or_ge k bs.length with hlt | hge
    · by_cases h4 : k < 4000
      · have l1 : (k : Int) < (bs.length : Int) := by omega
        have l2 : (k : Int) < 4000 := by omega
        have e1 : IntKind.i64.wrap ((k : Int) + 1) = (k : Int) + 1 := IntWalk.i64_in _ (by omega)
        obtain ⟨b, off, rfl, hb, hcell⟩ := hr (by omega)
        have hci := hcell k hlt
        go_wp2_with fail
        go_roundw
        case rel => exact ⟨k + 1, _, by omega, rfl, by go_num, trivial⟩
        case measure => simp [intOf]; omega
      · have l1 : (k : Int) < (bs.length : Int) := by omega
        have l2 : ¬ (k : Int) < 4000 := by omega
        go_wp2_with fail
        go_ret
        exact ⟨_, rfl, Nat.le_refl _, ⟨hl, ⟨0, h, Nat.zero_le _, obj_new _ _⟩, hr.alloc (Nat.le_refl _) _⟩, (Below.refl _ _).alloc (Nat.le_refl _) _⟩
    · have l1 : ¬ (k : Int) < (bs.length : Int) := by omega
      go_wp2_with fail
      go_ret
      exact ⟨_, rfl, Nat.le_refl _, ⟨hl, ⟨0, h, Nat.zero_le _, obj_new _ _⟩, hr.alloc (Nat.le_refl _) _⟩, (Below.refl _ _).alloc (Nat.le_refl _) _⟩
end Go.Proofs.YtldknpjeegdbmaaGreat

/- The laws' own helpers for patterns with joined places. -/
namespace Go.Proofs.YtldknpjeegdbmaaGreat
set_option maxRecDepth 100000
open Go Go.RowKit

theorem Read.mem {w : World} {B : Nat} {rs : List Row} {os : List Outer} (h : Read w B rs os) {r : Row} (hr : r ∈ rs) (hl : r.xs.length ≤ 1048576) (hB : B ≤ w.heap.size) : In w r.A r.c r.xs := ⟨hl, h.cap r hr, (h.rd r hr).more hB⟩





end Go.Proofs.YtldknpjeegdbmaaGreat

/- The laws' own helpers in the words of R1: toIntS, eqIntS, markIntS, heldIntS and those for a Near. -/
namespace Go.Proofs.YtldknpjeegdbmaaGreat
set_option maxRecDepth 100000
open Go Go.RowKit

/-- What an argument reads as when the law begins. -/
structure Arg (w : World) (rs : List Row) (os : List Outer) : Prop where
  read : Read w w.heap.size rs os
  rcap : ∀ r ∈ rs, r.c ≤ maxLen
  ocap : ∀ o ∈ os, o.c ≤ maxLen
theorem Arg.self {w : World} {rs : List Row} {os : List Outer} (h : Arg w rs os) : Arg w rs os := h
theorem Arg.below {w w' : World} {rs : List Row} {os : List Outer} (h : Arg w rs os) (hb : Below w.heap.size w w') : Arg w' rs os := ⟨(h.read.below hb).more hb.size, h.rcap, h.ocap⟩
theorem Arg.lenI {w : World} {A : Option Addr} {c : Nat} {xs : List Int} (h : Arg w [⟨A, c, xs⟩] []) : xs.length ≤ 9223372036854775807 := by
  have h1 := h.read.cap _ (List.mem_singleton.2 rfl)
  have h2 := h.rcap _ (List.mem_singleton.2 rfl)
  unfold maxLen at h2
  simp only at h1 h2
  omega
theorem Read.toI {w : World} {B : Nat} {A : Option Addr} {c : Nat} {xs : List Int} (h : Read w B [⟨A, c, xs⟩] []) (hl : xs.length ≤ 1048576) (hB : B ≤ w.heap.size) : In w A c xs :=
  h.mem (r := ⟨A, c, xs⟩) (List.mem_singleton.2 rfl) hl hB


end Go.Proofs.YtldknpjeegdbmaaGreat

/- Contracts of Choose and CountAlternating, program and reference. -/
namespace Go.Proofs.YtldknpjeegdbmaaGreat
set_option maxRecDepth 100000
open Go Go.RowKit

set_option maxHeartbeats 400000 in
theorem l1In_any (x lo hi : Int) (w : World) :
    Calls Tryz.prog 48 #[.int .i64 x, .int .i64 lo, .int .i64 hi] w fun e w' => e = .returned (.bool (decide (lo ≤ x ∧ x ≤ hi))) ∧ w = w' := by
  by_cases h1 : lo ≤ x
  · go_enter Tryz.func48, Tryz.ntmps48
    go_wp2
    go_ret
    exact ⟨ret_bool (by simp [h1]), rfl⟩
  · go_enter Tryz.func48, Tryz.ntmps48
    go_wp2
    go_ret
    exact ⟨ret_bool (by simp; omega), rfl⟩


end Go.Proofs.YtldknpjeegdbmaaGreat

/- Contracts of CountAlternating, program and reference. -/
namespace Go.Proofs.YtldknpjeegdbmaaGreat
set_option maxRecDepth 100000
open Go Go.RowKit

theorem quiet_eq {P : Program} {f : FuncId} {args : Array Value} {w : World} {n : Nat} {v : Value}
    (h : Calls P f args (w.drewN n) fun e w' => e = .returned v ∧ w.drewN n = w') : Calls P f args (w.drewN n) fun e w'' => e = .returned v ∧ ∃ m, w'' = w.drewN m :=
  h.mono fun _ _ ⟨he, hm⟩ => ⟨he, n, hm.symm⟩
theorem quiet_rq {P : Program} {f : FuncId} {args : Array Value} {w : World} {n : Nat} {v : Value}
    (h : Calls P f args (w.drewN n) (Rq (w.drewN n) v)) : Calls P f args (w.drewN n) fun e w'' => e = .returned v ∧ ∃ m, w'' = w.drewN m :=
  h.mono fun _ _ ⟨he, m, hm⟩ => ⟨he, n + m, by rw [hm, World.drewN_drewN]⟩


end Go.Proofs.YtldknpjeegdbmaaGreat

/- Comparisons: cmp.Compare, slices.Compare, the reference's l2Before. -/
namespace Go.Proofs.YtldknpjeegdbmaaGreat
set_option maxRecDepth 100000
open Go Go.RowKit

/-- The order of two numbers. -/
def cmpI (x y : Int) : Int := if x < y then -1 else if y < x then 1 else 0
/-- The order of two lists, letter by letter. -/
def cmpL : List Int → List Int → Int
  | [], [] => 0
  | [], _ :: _ => -1
  | _ :: _, [] => 1
  | x :: s, y :: t => if x < y then -1 else if y < x then 1 else cmpL s t
theorem cmpL_drop (xs ys : List Int) (k : Nat) (h : xs.take k = ys.take k) (hk : k ≤ xs.length) (hk' : k ≤ ys.length) : cmpL xs ys = cmpL (xs.drop k) (ys.drop k) := by
  induction k generalizing xs ys with
  | zero => simp
  | succ k ih =>
    match xs, ys with
    | [], _ => simp at hk
    | _ :: _, [] => simp at hk'
    | x :: s, y :: t =>
      simp only [List.take_succ_cons, List.cons.injEq] at h
      obtain ⟨rfl, h⟩ := h
      simp only [cmpL, Int.lt_irrefl, if_false, List.drop_succ_cons]
      exact ih s t h (by simpa using hk) (by simpa using hk')
theorem cmpL_at (xs ys : List Int) (k : Nat) (h : xs.take k = ys.take k) (hk : k < xs.length) (hk' : k < ys.length) (hne : xs[k] ≠ ys[k]) : cmpL xs ys = cmpI xs[k] ys[k] := by
  rw [cmpL_drop xs ys k h (by omega) (by omega), List.drop_eq_getElem_cons hk, List.drop_eq_getElem_cons hk', cmpL, cmpI]
  split
  · rfl
  · split
    · rfl
    · omega

theorem isNaN_any (x : Int) (w : World) : Calls Tryz.prog 117 #[.int .i64 x] w fun e w' => e = .returned (.bool false) ∧ w = w' := by
  go_enter Tryz.func117, Tryz.ntmps117
  go_wp2
  go_ret
  exact ⟨ret_bool (by simp), rfl⟩
theorem compare_any (x y : Int) (w : World) : Calls Tryz.prog 100 #[.int .i64 x, .int .i64 y] w fun e w' => e = .returned (.int .i64 (cmpI x y)) ∧ w = w' := by
  rcases Int.lt_or_le x y with h | h
  · have H := Lib.hid (show cmpI x y = -1 by unfold cmpI; rw [if_pos h])
    have d1 : decide (x < y) = true := decide_eq_true h
    clear h
    go_enter Tryz.func100, Tryz.ntmps100
    go_wp2_with (go_at_call 117; refine (isNaN_any _ _).mono ?_; rintro e w' ⟨rfl, rfl⟩)
    go_ret
    exact ⟨ret_int H.out.symm, rfl⟩
  · have d1 : decide (x < y) = false := decide_eq_false (by omega)
    rcases Int.lt_or_le y x with h' | h'
    · have H := Lib.hid (show cmpI x y = 1 by unfold cmpI; rw [if_neg (by omega), if_pos h'])
      have d2 : decide (y < x) = true := decide_eq_true h'
      have d2' : decide (x > y) = true := decide_eq_true h'
      clear h h'
      go_enter Tryz.func100, Tryz.ntmps100
      go_wp2_with (go_at_call 117; refine (isNaN_any _ _).mono ?_; rintro e w' ⟨rfl, rfl⟩)
      go_ret
      exact ⟨ret_int H.out.symm, rfl⟩
    · have H := Lib.hid (show cmpI x y = 0 by unfold cmpI; rw [if_neg (by omega), if_neg (by omega)])
      have d2 : decide (y < x) = false := decide_eq_false (by omega)
      have d2' : decide (x > y) = false := decide_eq_false (by omega)
      clear h h'
      go_enter Tryz.func100, Tryz.ntmps100
      go_wp2_with (go_at_call 117; refine (isNaN_any _ _).mono ?_; rintro e w' ⟨rfl, rfl⟩)
      go_ret
      exact ⟨ret_int H.out.symm, rfl⟩
theorem cmpI_zero (x y : Int) : cmpI x y = 0 ↔ x = y := by
  unfold cmpI; split
  · constructor <;> intro h <;> omega
  · split
    · constructor <;> intro h <;> omega
    · constructor <;> intro h <;> omega

set_option maxHeartbeats 1000000 in
theorem compareS_any (A A' : Option Addr) (c c' n m : Nat) (xs ys : List Int) (w : World) (hn : xs.length = n) (hm : ys.length = m) (hl : n ≤ 4611686018427387904) (hl' : m ≤ 4611686018427387904)
    (hx : Rd (Value.int .i64) w w.heap.size A xs) (hy : Rd (Value.int .i64) w w.heap.size A' ys) :
    Calls Tryz.prog 101 #[.slice A n c, .slice A' m c'] w fun e w' => e = .returned (.int .i64 (cmpL xs ys)) ∧ w = w' := by
  subst hn hm
  go_enter Tryz.func101, Tryz.ntmps101
  go_wp2
  go_loop [11] (fun i => ∃ k : Nat, k ≤ xs.length ∧ k ≤ ys.length ∧ i = .int .i64 k ∧ xs.take k = ys.take k) (fun i => xs.length - (intOf i).toNat)
  case atStart => exact ⟨0, Nat.zero_le _, Nat.zero_le _, rfl, rfl⟩
  case round =>
    obtain ⟨k, hk, hk', rfl, ht⟩ := hrel
    by_cases hlt : k < xs.length
    · by_cases hlt' : k < ys.length
      · obtain ⟨b, off, rfl, _, hc⟩ := hx (by omega)
        obtain ⟨b', off', rfl, _, hc'⟩ := hy (by omega)
        have c1 := hc k hlt
        have c2 := hc' k hlt'
        clear hc hc'
        have HT := Lib.hid ht
        clear ht
        by_cases he : xs[k] = ys[k]
        · have hz : (cmpI xs[k] ys[k] != 0) = false := by simp [(cmpI_zero _ _).2 he]
          have HE := Lib.hid he
          clear he
          go_wp2_with (go_at_call 100; refine (compare_any _ _ _).mono ?_; rintro e w' ⟨rfl, rfl⟩)
          go_round
          case rel => exact ⟨k + 1, by omega, by omega, by go_num, by rw [List.take_succ_eq_append_getElem hlt, List.take_succ_eq_append_getElem hlt', HT.out, HE.out]⟩
          case measure => simp [intOf]; omega
        · have hz : (cmpI xs[k] ys[k] != 0) = true := by simp; exact fun h => he ((cmpI_zero _ _).1 h)
          have HC := Lib.hid (cmpL_at xs ys k HT.out hlt hlt' he)
          clear he
          go_wp2_with (go_at_call 100; refine (compare_any _ _ _).mono ?_; rintro e w' ⟨rfl, rfl⟩)
          go_ret
          exact ⟨ret_int HC.out.symm, rfl⟩
      · obtain ⟨b, off, rfl, _, hc⟩ := hx (by omega)
        have c1 := hc k hlt
        have HC := Lib.hid (show cmpL xs ys = 1 by
          rw [cmpL_drop xs ys k ht hk hk', List.drop_eq_getElem_cons hlt, (show ys.drop k = [] from List.drop_eq_nil_of_le (by omega))]; rfl)
        clear hc ht
        go_wp2
        go_ret
        exact ⟨ret_int HC.out.symm, rfl⟩
    · by_cases hlt' : k < ys.length
      · have HC := Lib.hid (show cmpL xs ys = -1 by
          rw [cmpL_drop xs ys k ht hk hk', List.drop_eq_getElem_cons hlt', (show xs.drop k = [] from List.drop_eq_nil_of_le (by omega))]; rfl)
        have d1 : decide ((xs.length : Int) < ys.length) = true := decide_eq_true (by omega)
        clear ht
        go_wp2
        go_ret
        exact ⟨ret_int HC.out.symm, rfl⟩
      · have HC := Lib.hid (show cmpL xs ys = 0 by
          rw [cmpL_drop xs ys k ht hk hk', (show xs.drop k = [] from List.drop_eq_nil_of_le (by omega)), (show ys.drop k = [] from List.drop_eq_nil_of_le (by omega))]; rfl)
        have d1 : decide ((xs.length : Int) < ys.length) = false := decide_eq_false (by omega)
        clear ht
        go_wp2
        go_ret
        exact ⟨ret_int HC.out.symm, rfl⟩
theorem compareS_q (A A' : Option Addr) (c c' n m : Nat) (xs ys : List Int) (w : World) (hn : xs.length = n) (hm : ys.length = m) (hl : n ≤ 4611686018427387904) (hl' : m ≤ 4611686018427387904)
    (hx : Rd (Value.int .i64) w w.heap.size A xs) (hy : Rd (Value.int .i64) w w.heap.size A' ys) :
    Calls Tryz.prog 101 #[.slice A n c, .slice A' m c'] w (Rq w (.int .i64 (cmpL xs ys))) :=
  (compareS_any A A' c c' n m xs ys w hn hm hl hl' hx hy).mono fun _ _ ⟨he, hw⟩ => ⟨he, by subst hw; exact Dr.refl _⟩

/-- The reference's order: the shorter first, then letter by letter. -/
def before (xs ys : List Int) : Bool := if xs.length = ys.length then decide (cmpL xs ys < 0) else decide (xs.length < ys.length)
set_option maxHeartbeats 1000000 in
theorem l2Before_any (A A' : Option Addr) (c c' n m : Nat) (xs ys : List Int) (w : World) (hn : xs.length = n) (hm : ys.length = m) (hl : n ≤ 4611686018427387904) (hl' : m ≤ 4611686018427387904)
    (hx : Rd (Value.int .i64) w w.heap.size A xs) (hy : Rd (Value.int .i64) w w.heap.size A' ys) :
    Calls Tryz.prog 102 #[.slice A n c, .slice A' m c'] w (Rq w (.bool (before xs ys))) := by
  subst hn hm
  by_cases hne : xs.length = ys.length
  · have HB := Lib.hid (show before xs ys = decide (cmpL xs ys < 0) by unfold before; rw [if_pos hne])
    go_enter Tryz.func102, Tryz.ntmps102
    have hb : ((xs.length : Int) != (ys.length : Int)) = false := by simp [hne]
    have HN := Lib.hid hne
    clear hne
    go_wp2
    go_loopw [5] (fun i wr => ∃ k : Nat, k ≤ xs.length ∧ i = .int .i64 k ∧ xs.take k = ys.take k ∧ Dr w wr) (fun i _ => xs.length - (intOf i).toNat)
    case atStart => exact ⟨0, Nat.zero_le _, rfl, rfl, Dr.refl _⟩
    case round =>
      obtain ⟨k, hk, rfl, ht, hd⟩ := hrel
      by_cases hlt : k < xs.length
      · have hlt' : k < ys.length := by have := HN.out; omega
        obtain ⟨b, off, rfl, _, hc⟩ := hx (by omega)
        obtain ⟨b', off', rfl, _, hc'⟩ := hy (by omega)
        have c1 : wr.cell? ⟨b, off + k, none⟩ = some (.int .i64 xs[k]) := (hd.cell _).trans (hc k hlt)
        have c2 : wr.cell? ⟨b', off' + k, none⟩ = some (.int .i64 ys[k]) := (hd.cell _).trans (hc' k hlt')
        have HT := Lib.hid ht
        clear hc hc' ht
        by_cases he : xs[k] = ys[k]
        · have hz : (xs[k] != ys[k]) = false := by simp [he]
          have HE := Lib.hid he
          clear he
          go_wp2
          go_quiet (fail)
          go_wp2
          go_roundw
          case rel => exact ⟨k + 1, by omega, by go_num, by rw [List.take_succ_eq_append_getElem hlt, List.take_succ_eq_append_getElem hlt', HT.out, HE.out], (by first | with_reducible assumption | with_reducible exact hd | with_reducible exact Dr.drewN hd _ | with_reducible exact Dr.drewN (Dr.drewN hd _) _ | with_reducible exact Dr.drew hd)⟩
          case measure => simp [intOf]; omega
        · have hz : (xs[k] != ys[k]) = true := by simp [he]
          have HC := Lib.hid (show before xs ys = decide (xs[k] < ys[k]) by
            rw [HB.out, cmpL_at xs ys k HT.out hlt hlt' he, Bool.eq_iff_iff, decide_eq_true_eq, decide_eq_true_eq]
            unfold cmpI; split
            · constructor <;> intro h <;> omega
            · split
              · constructor <;> intro h <;> omega
              · constructor <;> intro h <;> omega)
          clear he
          go_wp2
          go_quiet (fail)
          go_wp2
          go_quiet (fail)
          go_wp2
          go_ret
          exact ⟨ret_bool HC.out.symm, (by first | with_reducible assumption | with_reducible exact hd | with_reducible exact Dr.drewN hd _ | with_reducible exact Dr.drewN (Dr.drewN hd _) _ | with_reducible exact Dr.drew hd)⟩
      · have HC := Lib.hid (show before xs ys = false by
          have := HN.out
          rw [HB.out, cmpL_drop xs ys k ht hk (by omega), (show xs.drop k = [] from List.drop_eq_nil_of_le (by omega)), (show ys.drop k = [] from List.drop_eq_nil_of_le (by omega))]; rfl)
        clear ht
        go_wp2
        go_ret
        exact ⟨ret_bool HC.out.symm, hd⟩
  · have HB := Lib.hid (show before xs ys = decide (xs.length < ys.length) by unfold before; rw [if_neg hne])
    have hb : ((xs.length : Int) != (ys.length : Int)) = true := by simp; omega
    go_enter Tryz.func102, Tryz.ntmps102
    go_wp2
    go_ret
    exact ⟨ret_bool (by rw [HB.out]), Dr.refl _⟩
end Go.Proofs.YtldknpjeegdbmaaGreat

/- The order of lists: a strict total order; ordered lists without repeats; plain maths. -/
namespace Go.Proofs.YtldknpjeegdbmaaGreat
set_option maxRecDepth 100000
open Go Go.RowKit

theorem cmpL_refl (x : List Int) : cmpL x x = 0 := by
  induction x with
  | nil => rfl
  | cons a t ih => simp only [cmpL, Int.lt_irrefl, if_false]; exact ih
theorem cmpL_eq {x y : List Int} (h : cmpL x y = 0) : x = y := by
  induction x generalizing y with
  | nil => cases y with
    | nil => rfl
    | cons b s => simp [cmpL] at h
  | cons a t ih => cases y with
    | nil => simp [cmpL] at h
    | cons b s =>
      simp only [cmpL] at h
      split at h
      · omega
      · split at h
        · omega
        · rw [ih h, show a = b by omega]
theorem cmpL_neg (x y : List Int) : cmpL y x = - cmpL x y := by
  induction x generalizing y with
  | nil => cases y <;> simp [cmpL]
  | cons a t ih => cases y with
    | nil => simp [cmpL]
    | cons b s =>
      simp only [cmpL]
      by_cases h1 : a < b
      · rw [if_neg (show ¬ b < a by omega), if_pos h1, if_pos h1]; rfl
      · by_cases h2 : b < a
        · rw [if_pos h2, if_neg h1, if_pos h2]
        · rw [if_neg h1, if_neg h2, if_neg h2, if_neg h1]; exact ih s
theorem cmpL_lt_trans {x y z : List Int} (h1 : cmpL x y < 0) (h2 : cmpL y z < 0) : cmpL x z < 0 := by
  induction x generalizing y z with
  | nil => cases z with
    | nil => cases y <;> simp [cmpL] at h1 h2
    | cons c u => simp [cmpL]
  | cons a t ih => cases y with
    | nil => simp [cmpL] at h1
    | cons b s => cases z with
      | nil => simp [cmpL] at h2
      | cons c u =>
        simp only [cmpL] at h1 h2 ⊢
        by_cases hab : a < b
        · by_cases hbc : b < c
          · rw [if_pos (show a < c by omega)]; decide
          · by_cases hcb : c < b
            · rw [if_neg hbc, if_pos hcb] at h2; exact absurd h2 (by decide)
            · rw [if_pos (show a < c by omega)]; decide
        · by_cases hba : b < a
          · rw [if_neg hab, if_pos hba] at h1; exact absurd h1 (by decide)
          · obtain rfl : a = b := by omega
            rw [if_neg hab, if_neg hba] at h1
            by_cases hbc : a < c
            · rw [if_pos hbc]; decide
            · by_cases hcb : c < a
              · rw [if_neg hbc, if_pos hcb] at h2; exact absurd h2 (by decide)
              · rw [if_neg hbc, if_neg hcb] at h2 ⊢
                exact ih h1 h2

theorem before_irrefl (x : List Int) : before x x = false := by unfold before; rw [if_pos rfl, cmpL_refl]; rfl
theorem before_trans {x y z : List Int} (h1 : before x y = true) (h2 : before y z = true) : before x z = true := by
  unfold before at *
  by_cases e1 : x.length = y.length
  · rw [if_pos e1] at h1
    by_cases e2 : y.length = z.length
    · rw [if_pos e2] at h2
      rw [if_pos (e1.trans e2)]
      exact decide_eq_true (cmpL_lt_trans (of_decide_eq_true h1) (of_decide_eq_true h2))
    · rw [if_neg e2] at h2
      have := of_decide_eq_true h2
      rw [if_neg (by omega)]
      exact decide_eq_true (by omega)
  · rw [if_neg e1] at h1
    have h1 := of_decide_eq_true h1
    by_cases e2 : y.length = z.length
    · rw [if_neg (by omega)]
      exact decide_eq_true (by omega)
    · rw [if_neg e2] at h2
      have := of_decide_eq_true h2
      rw [if_neg (by omega)]
      exact decide_eq_true (by omega)
theorem before_total {x y : List Int} (h1 : before x y = false) (h2 : before y x = false) : x = y := by
  unfold before at *
  by_cases e1 : x.length = y.length
  · rw [if_pos e1] at h1
    rw [if_pos e1.symm, cmpL_neg x y] at h2
    have h1 := of_decide_eq_false h1
    have h2 := of_decide_eq_false h2
    exact cmpL_eq (by omega)
  · rw [if_neg e1] at h1
    rw [if_neg (fun h => e1 h.symm)] at h2
    have h1 := of_decide_eq_false h1
    have h2 := of_decide_eq_false h2
    omega
theorem before_asymm {x y : List Int} (h : before x y = true) : before y x = false := by
  cases h2 : before y x with
  | false => rfl
  | true => have := before_trans h h2; rw [before_irrefl] at this; cases this
/-- An ordered list without repeats. -/
def Srt (X : List (List Int)) : Prop := X.Pairwise fun x y => before x y = true
theorem srt_ext {X Y : List (List Int)} (hX : Srt X) (hY : Srt Y) (h : ∀ x, x ∈ X ↔ x ∈ Y) : X = Y := by
  induction X generalizing Y with
  | nil => cases Y with
    | nil => rfl
    | cons b t => exact absurd ((h b).2 (by simp)) (by simp)
  | cons a s ih => cases Y with
    | nil => exact absurd ((h a).1 (by simp)) (by simp)
    | cons b t =>
      unfold Srt at hX hY
      rw [List.pairwise_cons] at hX hY
      have hab : a = b := by
        rcases List.mem_cons.1 ((h a).1 (by simp)) with e | ha
        · exact e
        · rcases List.mem_cons.1 ((h b).2 (by simp)) with e | hb
          · exact e.symm
          · have h1 := hX.1 b hb
            have h2 := hY.1 a ha
            rw [before_asymm h1] at h2; cases h2
      subst hab
      rw [ih hX.2 hY.2 (fun x => ?_)]
      have hx := h x
      rw [List.mem_cons, List.mem_cons] at hx
      constructor
      · intro hs
        rcases hx.1 (.inr hs) with rfl | h'
        · have := hX.1 _ hs; rw [before_irrefl] at this; cases this
        · exact h'
      · intro ht
        rcases hx.2 (.inr ht) with rfl | h'
        · have := hY.1 _ ht; rw [before_irrefl] at this; cases this
        · exact h'

/-- The place at which l3Put puts a list. -/
def putAt (X : List (List Int)) (p : List Int) : Nat → Nat
  | 0 => 0
  | k + 1 => if before p (X[k]?.getD []) = true then putAt X p k else k + 1
def putL (X : List (List Int)) (p : List Int) : List (List Int) :=
  if 0 < putAt X p X.length ∧ X[putAt X p X.length - 1]?.getD [] = p then X else X.take (putAt X p X.length) ++ p :: X.drop (putAt X p X.length)
theorem putAt_le (X : List (List Int)) (p : List Int) (k : Nat) : putAt X p k ≤ k := by
  induction k with
  | zero => exact Nat.le_refl _
  | succ k ih => unfold putAt; split <;> omega
theorem putAt_above (X : List (List Int)) (p : List Int) (k j : Nat) (h1 : putAt X p k ≤ j) (h2 : j < k) : before p (X[j]?.getD []) = true := by
  induction k with
  | zero => omega
  | succ k ih =>
    unfold putAt at h1
    by_cases h : before p (X[k]?.getD []) = true
    · rw [if_pos h] at h1
      by_cases e : j = k
      · subst e; exact h
      · exact ih h1 (by omega)
    · rw [if_neg h] at h1; omega
theorem putAt_below (X : List (List Int)) (p : List Int) (k : Nat) (h : 0 < putAt X p k) : before p (X[putAt X p k - 1]?.getD []) = false := by
  induction k with
  | zero => exact absurd h (by simp [putAt])
  | succ k ih =>
    by_cases hb : before p (X[k]?.getD []) = true
    · have e : putAt X p (k + 1) = putAt X p k := by rw [putAt, if_pos hb]
      rw [e] at h ⊢; exact ih h
    · have e : putAt X p (k + 1) = k + 1 := by rw [putAt, if_neg hb]
      rw [e, Nat.add_sub_cancel]; simpa using hb
theorem getX_lt {X : List (List Int)} {j : Nat} (h : j < X.length) : X[j]?.getD [] = X[j] := by rw [List.getElem?_eq_getElem h]; rfl
theorem putL_mem (X : List (List Int)) (p q : List Int) : q ∈ putL X p ↔ q = p ∨ q ∈ X := by
  unfold putL
  have hle := putAt_le X p X.length
  split
  · rename_i h
    constructor
    · exact .inr
    · rintro (rfl | h')
      · have := h.2
        rw [getX_lt (by omega)] at this
        rw [← this]; exact List.getElem_mem _
      · exact h'
  · rw [List.mem_append, List.mem_cons]
    have : q ∈ X ↔ q ∈ X.take (putAt X p X.length) ∨ q ∈ X.drop (putAt X p X.length) := by rw [← List.mem_append, List.take_append_drop]
    rw [this]
    constructor
    · rintro (h | h | h)
      · exact .inr (.inl h)
      · exact .inl h
      · exact .inr (.inr h)
    · rintro (h | h | h)
      · exact .inr (.inl h)
      · exact .inl h
      · exact .inr (.inr h)
theorem putL_srt {X : List (List Int)} (hX : Srt X) (p : List Int) : Srt (putL X p) := by
  unfold putL
  have hle := putAt_le X p X.length
  split
  · exact hX
  · rename_i h
    have hp : ∀ i (hi : i < putAt X p X.length), before (X[i]'(by omega)) p = true := by
      intro i hi
      have h0 : 0 < putAt X p X.length := by omega
      have h1 := putAt_below X p X.length h0
      rw [getX_lt (by omega)] at h1
      have h2 : X[putAt X p X.length - 1] ≠ p := fun e => h ⟨h0, by rw [getX_lt (by omega)]; exact e⟩
      have h3 : before (X[putAt X p X.length - 1]'(by omega)) p = true := by
        cases hb : before (X[putAt X p X.length - 1]'(by omega)) p with
        | true => rfl
        | false => exact absurd (before_total hb h1) h2
      by_cases e : i = putAt X p X.length - 1
      · subst e; exact h3
      · exact before_trans (List.pairwise_iff_getElem.1 hX i (putAt X p X.length - 1) (by omega) (by omega) (by omega)) h3
    have hd : ∀ y ∈ X.drop (putAt X p X.length), before p y = true := by
      intro y hy
      obtain ⟨j, hj, rfl⟩ := List.mem_iff_getElem.1 hy
      rw [List.length_drop] at hj
      rw [List.getElem_drop]
      have := putAt_above X p X.length (putAt X p X.length + j) (by omega) (by omega)
      rwa [getX_lt (by omega)] at this
    have ht : ∀ y ∈ X.take (putAt X p X.length), before y p = true := by
      intro y hy
      obtain ⟨j, hj, rfl⟩ := List.mem_iff_getElem.1 hy
      rw [List.length_take] at hj
      rw [List.getElem_take]
      exact hp j (by omega)
    have hX' := hX
    unfold Srt at hX' ⊢
    rw [← List.take_append_drop (putAt X p X.length) X, List.pairwise_append] at hX'
    rw [List.pairwise_append]
    refine ⟨hX'.1, List.pairwise_cons.2 ⟨hd, hX'.2.1⟩, fun a ha b hb => ?_⟩
    rcases List.mem_cons.1 hb with rfl | hb
    · exact ht a ha
    · exact hX'.2.2 a ha b hb
theorem putL_old {X : List (List Int)} (hX : Srt X) {p : List Int} (hp : p ∈ X) : putL X p = X :=
  srt_ext (putL_srt hX p) hX fun x => by
    rw [putL_mem]
    constructor
    · rintro (rfl | h)
      · exact hp
      · exact h
    · exact .inr
theorem putL_new {X : List (List Int)} {p : List Int} (hp : p ∉ X) : putL X p = X.take (putAt X p X.length) ++ p :: X.drop (putAt X p X.length) := by
  unfold putL
  rw [if_neg]
  rintro ⟨h0, he⟩
  have hle := putAt_le X p X.length
  rw [getX_lt (by omega)] at he
  exact hp (by rw [← he]; exact List.getElem_mem _)
theorem putL_len (X : List (List Int)) (p : List Int) : (putL X p).length ≤ X.length + 1 := by
  unfold putL
  split
  · omega
  · simp; have := putAt_le X p X.length; omega
theorem putL_len_new {X : List (List Int)} {p : List Int} (hp : p ∉ X) : (putL X p).length = X.length + 1 := by
  rw [putL_new hp]
  have := putAt_le X p X.length
  simp; omega
/-- Lists put in order, each once. -/
def ordL (X : List (List Int)) : List (List Int) := X.foldl putL []
theorem foldl_putL (X Y : List (List Int)) (hY : Srt Y) : Srt (X.foldl putL Y) ∧ ∀ q, q ∈ X.foldl putL Y ↔ q ∈ Y ∨ q ∈ X := by
  induction X generalizing Y with
  | nil => exact ⟨hY, fun q => by simp⟩
  | cons a t ih =>
    obtain ⟨h1, h2⟩ := ih (putL Y a) (putL_srt hY a)
    refine ⟨h1, fun q => ?_⟩
    rw [List.foldl_cons, h2, putL_mem, List.mem_cons]
    constructor
    · rintro ((h | h) | h)
      · exact .inr (.inl h)
      · exact .inl h
      · exact .inr (.inr h)
    · rintro (h | h | h)
      · exact .inl (.inr h)
      · exact .inl (.inl h)
      · exact .inr h
theorem ordL_srt (X : List (List Int)) : Srt (ordL X) := (foldl_putL X [] List.Pairwise.nil).1
theorem ordL_mem (X : List (List Int)) (q : List Int) : q ∈ ordL X ↔ q ∈ X := by
  have := (foldl_putL X [] List.Pairwise.nil).2 q
  rw [List.mem_nil_iff, false_or] at this
  exact this
theorem ordL_take (X : List (List Int)) (k : Nat) (h : k < X.length) : ordL (X.take (k + 1)) = putL (ordL (X.take k)) X[k] := by
  unfold ordL; rw [List.take_succ_eq_append_getElem h, List.foldl_append]; rfl
theorem ordL_len (X : List (List Int)) : (ordL X).length ≤ X.length := by
  have : ∀ (X Y : List (List Int)), (X.foldl putL Y).length ≤ Y.length + X.length := by
    intro X
    induction X with
    | nil => intro Y; simp
    | cons a t ih => intro Y; have h1 := ih (putL Y a); have h2 := putL_len Y a; rw [List.foldl_cons, List.length_cons]; omega
  have := this X []
  simpa [ordL] using this

/-- Of equal neighbors the first one is kept. -/
def compL : List (List Int) → List (List Int)
  | [] => []
  | [x] => [x]
  | x :: y :: t => if x = y then compL (y :: t) else x :: compL (y :: t)
theorem compL_mem (X : List (List Int)) (q : List Int) : q ∈ compL X ↔ q ∈ X := by
  match X with
  | [] => simp [compL]
  | [x] => simp [compL]
  | x :: y :: t =>
    have ih := compL_mem (y :: t) q
    unfold compL
    split
    · rename_i h; subst h; rw [ih]; simp
    · rw [List.mem_cons, ih, List.mem_cons (b := x)]
theorem compL_srt (X : List (List Int)) (h : X.Pairwise fun x y => before y x = false) : Srt (compL X) := by
  match X with
  | [] => exact List.Pairwise.nil
  | [x] => exact List.pairwise_singleton _ _
  | x :: y :: t =>
    rw [List.pairwise_cons] at h
    have ih := compL_srt (y :: t) h.2
    unfold compL
    split
    · exact ih
    · rename_i hne
      refine List.pairwise_cons.2 ⟨fun z hz => ?_, ih⟩
      rw [compL_mem] at hz
      have hxy : before x y = true := by
        cases hb : before x y with
        | true => rfl
        | false => exact absurd (before_total hb (h.1 y (by simp))) hne
      rcases List.mem_cons.1 hz with rfl | hz
      · exact hxy
      · have h2 := (List.pairwise_cons.1 h.2).1 z hz
        cases hb : before y z with
        | true => exact before_trans hxy hb
        | false => rw [← before_total hb h2]; exact hxy
/-- Sorting and taking of equals one is what putting one after the other gives. -/
theorem comp_ord {S X : List (List Int)} (hs : S.Pairwise fun x y => before y x = false) (hm : ∀ q, q ∈ S ↔ q ∈ X) : compL S = ordL X :=
  srt_ext (compL_srt S hs) (ordL_srt X) fun q => by rw [compL_mem, ordL_mem, hm]
theorem ordL_self {X : List (List Int)} (h : Srt X) : ordL X = X := srt_ext (ordL_srt X) h fun q => ordL_mem X q
theorem ordL_congr {X Y : List (List Int)} (h : ∀ q, q ∈ X ↔ q ∈ Y) : ordL X = ordL Y := srt_ext (ordL_srt X) (ordL_srt Y) fun q => by rw [ordL_mem, ordL_mem, h]
end Go.Proofs.YtldknpjeegdbmaaGreat

/- Lists of rows: the laws' own helpers toIntSS, eqIntSS, markIntSS, heldIntSS, szIntSS. -/
namespace Go.Proofs.YtldknpjeegdbmaaGreat
set_option maxRecDepth 100000
open Go Go.RowKit

theorem infoL : (Tryz.prog.info? 24).map (fun i => (i.zero, i.size, i.bytes)) = some (some (.slice none 0 0), 1, 24) := by kernel_rfl

def sizeX (X : List (List Int)) : Nat := (X.map List.length).sum
theorem sizeR_eq (rs : List Row) : sizeR rs = sizeX (rs.map Row.xs) := by simp only [sizeR, sizeX, List.map_map]; rfl
theorem map_len {rs rs' : List Row} (h : rs'.map Row.xs = rs.map Row.xs) : rs'.length = rs.length := by have := congrArg List.length h; simpa using this
theorem map_size {rs rs' : List Row} (h : rs'.map Row.xs = rs.map Row.xs) : sizeR rs' = sizeR rs := by rw [sizeR_eq, sizeR_eq, h]
theorem map_len1 {rs : List Row} {X : List (List Int)} (h : rs.map Row.xs = X) : rs.length = X.length := by rw [← h, List.length_map]
theorem map_size1 {rs : List Row} {X : List (List Int)} (h : rs.map Row.xs = X) : sizeR rs = sizeX X := by rw [sizeR_eq, h]
theorem sizeR_mem {rs : List Row} {r : Row} (h : r ∈ rs) : r.xs.length ≤ sizeR rs := by
  induction rs with
  | nil => cases h
  | cons a t ih =>
    have e : sizeR (a :: t) = a.xs.length + sizeR t := by simp [sizeR]
    rcases List.mem_cons.1 h with rfl | h
    · omega
    · have := ih h; omega
theorem sizeR_take (rs : List Row) (j : Nat) (h : j < rs.length) : sizeR (rs.take (j + 1)) = sizeR (rs.take j) + rs[j].xs.length := by
  rw [List.take_succ_eq_append_getElem h, sizeR_append]; simp [sizeR]
theorem sizeR_take_le (rs : List Row) (j : Nat) : sizeR (rs.take j) ≤ sizeR rs := by
  have := sizeR_append (rs.take j) (rs.drop j)
  rw [List.take_append_drop] at this
  omega

/-- What a call is handed of a list of rows. -/
structure InL (w : World) (A : Option Addr) (c : Nat) (rs : List Row) : Prop where
  len : rs.length + sizeR rs ≤ 1048576
  read : Read w w.heap.size rs [⟨A, c, rs.map Row.v⟩]
theorem InL.next {w w' : World} {A : Option Addr} {c : Nat} {rs : List Row} (h : InL w A c rs) (hb : Below w.heap.size w w') : InL w' A c rs := ⟨h.len, (h.read.below hb).more hb.size⟩
theorem InL.dr {w w' : World} {A : Option Addr} {c : Nat} {rs : List Row} (h : InL w A c rs) (hd : Dr w w') : InL w' A c rs := ⟨h.len, (h.read.dr hd).more (by rw [hd.heap]; exact Nat.le_refl _)⟩
theorem Read.toL {w : World} {hi : Nat} {A : Option Addr} {c : Nat} {rs : List Row} (h : Read w hi rs [⟨A, c, rs.map Row.v⟩]) (hl : rs.length + sizeR rs ≤ 1048576) (hB : hi ≤ w.heap.size) : InL w A c rs := ⟨hl, h.more hB⟩
theorem InL.row {w : World} {A : Option Addr} {c : Nat} {rs : List Row} (h : InL w A c rs) {r : Row} (hr : r ∈ rs) : In w r.A r.c r.xs :=
  h.read.mem hr (by have := sizeR_mem hr; have := h.len; omega) (Nat.le_refl _)
theorem Read.at {w : World} {B : Nat} {A : Option Addr} {c : Nat} {rs : List Row} (h : Read w B rs [⟨A, c, rs.map Row.v⟩]) (h0 : 0 < rs.length) :
    ∃ b off, A = some ⟨b, off, none⟩ ∧ b < B ∧ ∀ j (hj : j < rs.length), w.cell? ⟨b, off + j, none⟩ = some (Value.slice rs[j].A rs[j].xs.length rs[j].c) := by
  obtain ⟨b, off, he, hb, hc⟩ := h.ord _ (List.mem_singleton.2 rfl) (by simpa using h0)
  refine ⟨b, off, he, hb, fun j hj => ?_⟩
  have := hc j (by simpa using hj)
  rw [this]
  simp [Row.v]
theorem Read.atN {w : World} {B : Nat} {A : Option Addr} {c : Nat} {rs : List Row} {X : List Value} (h : Read w B rs [⟨A, c, X⟩]) (h0 : 0 < X.length) :
    ∃ b off, A = some ⟨b, off, none⟩ ∧ b < B ∧ ∀ j (hj : j < X.length), w.cell? ⟨b, off + j, none⟩ = some X[j] := h.ord _ (List.mem_singleton.2 rfl) h0






end Go.Proofs.YtldknpjeegdbmaaGreat

/- Lists of rows that a call makes and lets grow. -/
namespace Go.Proofs.YtldknpjeegdbmaaGreat
set_option maxRecDepth 100000
open Go Go.RowKit

/-- append onto a row of the call's own, at an operation whose guard is met. -/
theorem wpList_append_own_g {P : Program} (w : World) {ops : Array Oper} {rest : List Oper} {o : Oper} {a : Act} {Q : Exit → Act → World → Prop} (hgd : Region.wanted o (yielded ops a.tmps) = true) (s x : Operand) (t : TypeId)
    (ho : o.op = .call { callee := .builtin .append, args := #[s, x], argTypes := #[t, t] })
    (base : Nat) (e : TypeId) (i : TypeInfo) (z : Value) (size bytes : Nat) (ht : P.underlying t = some (.slice e)) (hi : P.info? e = some i) (hz : i.zero = some z)
    (hsize : i.size = size) (hby : i.bytes = bytes) (hzs : z.cells.size = size) (hsz : 0 < size)
    (v : Value) (n : Nat) (xs : List Value) (hs : a.eval s = v) (hown : w.ownsRow base e size v n xs)
    (ad : Addr) (m c : Nat) (news : List Value) (hx : a.eval x = .slice (some ad) m c) (hl : news.length = m * size) (hnews : ∀ j u, news[j]? = some u → w.cell? (ad.add j) = some u) (h1 : ∀ u ∈ news, u.oneCell' = true)
    (h63 : n + m ≤ maxLen) (hbytes : (n + m) * bytes ≤ 140737488355328) (hbase : base ≤ w.heap.size)
    (h : ∀ v' w', w'.ownsRow base e size v' (n + m) (xs ++ news) → w.grownBy w' v.ownBlock → (v' = .slice none 0 0 ↔ v = .slice none 0 0 ∧ m = 0) → wpList P ops Q rest (a.put o.dst v') w') : wpList P ops Q (o :: rest) a w := by
  show if Region.wanted o (yielded ops a.tmps) = true then _ else _
  rw [if_pos hgd]
  exact Or.inl (wp_append_own w s x t ho base e i z size bytes ht hi hz hsize hby hzs hsz v n xs hs hown ad m c news hx hl hnews h1 h63 hbytes hbase h)
theorem cell_one_at {w : World} {H : Nat} (v : Value) (t : TypeId) (h : w.heap.size = H) : ∀ (j : Nat) (u : Value), [v][j]? = some u → (w.alloc (.cells #[v] t)).cell? ((⟨H, 0, none⟩ : Addr).add j) = some u := by
  subst h
  exact cell_one_new w v t

/-- A call's result of two: a slice of the call's own, and a bool. -/
def Ret2 {α : Type} (f : α → Value) (e : TypeId) (w : World) (ys : List α) (b : Bool) (en : Ending) (w' : World) : Prop :=
  ∃ A c, en = .returned (.tuple #[.slice A ys.length c, .bool b]) ∧ ys.length ≤ c ∧ c ≤ maxLen ∧ w'.ownsRow w.heap.size e 1 (.slice A ys.length c) ys.length (ys.map f) ∧ Below w.heap.size w w'
/-- A call's result: a list of rows of its own. -/
def RetL (w : World) (L : List (List Int)) (e : Ending) (w' : World) : Prop :=
  ∃ A c rs, e = .returned (.slice A rs.length c) ∧ rs.map Row.xs = L ∧ Own w' w.heap.size w'.heap.size rs [⟨A, c, rs.map Row.v⟩] ∧ Below w.heap.size w w'

section
variable {w w' : World} {lo hi m : Nat} {rs rs' : List Row} {os os' : List Outer}
theorem Own.perm (h : Own w lo hi rs os) (hp : rs.Perm rs') : Own w lo hi rs' os :=
  ⟨fun r hr => h.rows r (hp.mem_iff.2 hr), fun r hr => h.lt r (hp.mem_iff.2 hr), hp.pairwise h.apart (fun {a b} hab => by
    rcases ha : a.v.ownBlock with _ | g
    · rcases hb : b.v.ownBlock with _ | g'
      · exact .inl rfl
      · exact .inr (by simp)
    · rcases hab with e | e
      · rw [ha] at e; cases e
      · exact .inr fun e' => e (by rw [ha, e'])), h.outs, h.olt⟩
theorem Own.sub (h : Own w lo hi rs os) (hs : rs'.Sublist rs) : Own w lo hi rs' os :=
  ⟨fun r hr => h.rows r (hs.subset hr), fun r hr => h.lt r (hs.subset hr), h.apart.sublist hs, h.outs, h.olt⟩
/-- The outer slices put aside. -/
theorem Own.bare (h : Own w lo hi rs os) : Own w lo hi rs [] := ⟨h.rows, h.lt, h.apart, fun _ ho => (List.not_mem_nil ho).elim, fun _ ho => (List.not_mem_nil ho).elim⟩
theorem Own.with_ {A : Option Addr} {c : Nat} {vs : List Value} (h : Own w lo hi rs []) (ho : w.ownsRow lo 24 1 (.slice A vs.length c) vs.length vs) (hh : w.heap.size ≤ hi) : Own w lo hi rs [⟨A, c, vs⟩] := by
  refine ⟨h.rows, h.lt, h.apart, fun o hq => ?_, fun o hq g hg => ?_⟩
  · obtain rfl := List.mem_singleton.1 hq
    exact ho
  · obtain rfl := List.mem_singleton.1 hq
    have := (ho.lt g hg).2
    omega
theorem Own.out {A : Option Addr} {c : Nat} {vs : List Value} (h : Own w lo hi rs [⟨A, c, vs⟩]) : w.ownsRow lo 24 1 (.slice A vs.length c) vs.length vs := h.outs _ (List.mem_singleton.2 rfl)
theorem Own.outN {A : Option Addr} {c n : Nat} {vs : List Value} (h : Own w lo hi rs [⟨A, c, vs⟩]) (hn : vs.length = n) : w.ownsRow lo 24 1 (.slice A n c) n vs := by subst hn; exact h.out
theorem Own.nil_list (w : World) (lo hi : Nat) : Own w lo hi [] [⟨none, 0, []⟩] :=
  ⟨fun _ hr => (List.not_mem_nil hr).elim, fun _ hr => (List.not_mem_nil hr).elim, List.Pairwise.nil, fun o ho => by obtain rfl := List.mem_singleton.1 ho; exact ⟨rfl, .inl ⟨rfl, rfl⟩⟩, fun o ho g hg => by obtain rfl := List.mem_singleton.1 ho; cases hg⟩
/-- The empty list that a call lays down. -/
theorem Own.lit (w : World) (hl : lo ≤ w.heap.size) : Own (w.alloc (.cells #[] 24)) lo (w.alloc (.cells #[] 24)).heap.size [] [⟨some ⟨w.heap.size, 0, none⟩, 0, []⟩] :=
  Own.with_ Own.nil_ (World.ownsRow_lit w #[] 0 hl (by unfold maxLen; omega) rfl) (Nat.le_refl _)
/-- A row of the call's own, made behind all others. -/
theorem Own.add {r : Row} (h : Own w lo m rs os) (hr : w.ownsRow m 3 1 r.v r.xs.length (r.xs.map (Value.int .i64))) (hm : m ≤ w.heap.size) (hl : lo ≤ m) : Own w lo w.heap.size (rs ++ [r]) os := by
  have := h.app (m := m) (hi := w.heap.size) (rs' := [r]) (os' := []) (Own.one (A := r.A) (c := r.c) (xs := r.xs) hr (Nat.le_refl _)) hl hm
  simpa using this
/-- The outer slice grows by a cell; the rows stay. -/
theorem Own.grow {A : Option Addr} {c n : Nat} {u v1 : Value} {o : Obj} {vs : List Value} (h : Own w lo hi rs [⟨A, c, vs⟩]) (hh : hi ≤ w.heap.size) (hn : vs.length = n)
    (h1 : w'.ownsRow lo 24 1 v1 (n + 1) (vs ++ [u])) (hg : (w.alloc o).grownBy w' (Value.slice A n c).ownBlock) :
    ∃ A1 c1, v1 = .slice A1 (n + 1) c1 ∧ Own w' lo w'.heap.size rs [⟨A1, c1, vs ++ [u]⟩] ∧ w.grownBy w' (Value.slice A n c).ownBlock := by
  subst hn
  obtain ⟨A1, c1, rfl, _, _⟩ := own_shape h1
  have hsz : w.heap.size ≤ w'.heap.size := by have := hg.size; simp at this; omega
  have hb : Below w.heap.size w (w.alloc o) := (Below.refl _ _).alloc (Nat.le_refl _) _
  have h0 := h.below hb
  refine ⟨A1, c1, rfl, ?_, grown_trans (World.grownBy_alloc w o _) hg⟩
  have hk : Own w' lo w'.heap.size rs [] := ⟨fun r hr => (h0.rows r hr).kept hg (by
      rcases hv : r.v.ownBlock with _ | g
      · exact .inl rfl
      · exact .inr fun e => own_ne h hr (List.mem_singleton.2 rfl) g hv e.symm), fun r hr g hg => by have := h.lt r hr g hg; omega, h.apart, fun _ ho => (List.not_mem_nil ho).elim, fun _ ho => (List.not_mem_nil ho).elim⟩
  exact hk.with_ (by simpa using h1) (Nat.le_refl _)
theorem Own.olim {A : Option Addr} {c n : Nat} {vs : List Value} (h : Own w lo hi rs [⟨A, c, vs⟩]) (hn : vs.length = n) : ∀ g, (Value.slice A n c).ownBlock = some g → lo ≤ g ∧ g < hi := fun g hg => by
  subst hn
  exact ⟨((h.outs _ (List.mem_singleton.2 rfl)).lt g hg).1, h.olt _ (List.mem_singleton.2 rfl) g hg⟩
theorem Below.grownA {B : Nat} {w0 w w' : World} {row : Option Nat} (h : Below B w0 w) (hB : B ≤ w.heap.size) (hg : w.grownBy w' row) (hr : ∀ g, row = some g → B ≤ g) : Below B w0 w' := h.grown hg hB hr
end
end Go.Proofs.YtldknpjeegdbmaaGreat
