/- Several texts in one, each with its own head: Base, Hlp, Hlp2, R1, D1, N2, R2, C1, C2, K1. No program of ours. -/
import Derived.WalkKit
import Derived.Handy
import Derived.BigQuiet
import Derived.Deep.QuietTactic
import Derived.Deep.LoopGhost
import Derived.Deep.DeepMust
import Derived.Deep.DeepFit
import Derived.Deep.Draws
import Derived.Deep.AppendLies
import Derived.Lib.Hide
import Derived.Maps.AppendAt
import Derived.WalkSpells
import Derived.WalkLawsBesides
import Derived.Test.YthipikllgpnlhaaProg
/- Words for memory: what a slice reads as, what a call owns; plain lemmas on them; no program in sight. Written for this claim, after the guide's page of words. -/
namespace Go.Proofs.Ythipikllgpnlhaa
set_option maxRecDepth 100000
open Go Go.RowKit

/-- The slice address A reads as the list xs, each element through f, below block B. -/
def Rd {α : Type} (f : α → Value) (w : World) (B : Nat) (A : Option Addr) (xs : List α) : Prop :=
  0 < xs.length → ∃ b off, A = some ⟨b, off, none⟩ ∧ b < B ∧ ∀ j (h : j < xs.length), w.cell? ⟨b, off + j, none⟩ = some (f xs[j])

section
variable {α : Type} {f : α → Value} {w w' : World} {B B' : Nat} {A : Option Addr} {xs : List α}
theorem Rd.nil_ : Rd f w B A [] := fun h => absurd h (by simp)
theorem Rd.keep (h : Rd f w B A xs) (hk : ∀ p : Addr, p.block < B → w'.cell? p = w.cell? p) : Rd f w' B A xs := fun h0 => by
  obtain ⟨b, off, e, hb, hc⟩ := h h0
  exact ⟨b, off, e, hb, fun j hj => (hk ⟨b, off + j, none⟩ hb).trans (hc j hj)⟩
theorem Rd.more (h : Rd f w B A xs) (hB : B ≤ B') : Rd f w B' A xs := fun h0 => by
  obtain ⟨b, off, e, hb, hc⟩ := h h0
  exact ⟨b, off, e, by omega, hc⟩
theorem Rd.below (h : Rd f w B A xs) (hb : Below B w w') : Rd f w' B A xs := h.keep fun _ hp => hb.cell hp
theorem Rd.next (h : Rd f w w.heap.size A xs) (hb : Below w.heap.size w w') : Rd f w' w'.heap.size A xs := (h.below hb).more hb.size
theorem Rd.drewN (h : Rd f w B A xs) (k : Nat) : Rd f (w.drewN k) B A xs := h
theorem Rd.drew (h : Rd f w B A xs) : Rd f w.drew B A xs := h
theorem Rd.alloc (h : Rd f w B A xs) (hB : B ≤ w.heap.size) (o : Obj) : Rd f (w.alloc o) B A xs := h.keep fun p hp => World.cell?_alloc_lt w o p (by omega)
theorem Rd.setCell (h : Rd f w B A xs) {p : Addr} (hB : B ≤ p.block) (u : Value) : Rd f (w.setCell p u) B A xs :=
  h.keep fun q hq => World.cell?_setCell_other w p q u (fun e => by subst e; omega)
theorem Rd.grown (h : Rd f w B A xs) {row : Option Nat} (hg : w.grownBy w' row) (hB : B ≤ w.heap.size) (hr : ∀ g, row = some g → B ≤ g) : Rd f w' B A xs :=
  h.keep fun p hp => World.cell?_of_block (hg.block p.block (by omega) (fun e => by have := hr _ e.symm; omega))
theorem Rd.take (h : Rd f w B A xs) (k : Nat) : Rd f w B A (xs.take k) := fun h0 => by
  have hl : (xs.take k).length ≤ xs.length := by simp; omega
  obtain ⟨b, off, e, hb, hc⟩ := h (by omega)
  exact ⟨b, off, e, hb, fun j hj => by rw [hc j (by omega)]; simp⟩
theorem Rd.drop (h : Rd f w B A xs) {k cap : Nat} (hk : k ≤ xs.length) (hc : xs.length ≤ cap) :
    Rd f w B (if cap = k then A else A.map (·.add (k * 1))) (xs.drop k) := fun h0 => by
  simp only [List.length_drop] at h0
  obtain ⟨b, off, rfl, hb, hcell⟩ := h (by omega)
  rw [if_neg (by omega)]
  refine ⟨b, off + k, by unfold Addr.add; by_cases h : k = 0 <;> simp [h], hb, fun j hj => ?_⟩
  simp only [List.length_drop] at hj
  rw [Nat.add_assoc, hcell (k + j) (by omega)]
  simp
end

theorem own_len {w : World} {base e n : Nat} {v : Value} {vs : List Value} (h : w.ownsRow base e 1 v n vs) : vs.length = n := by have := h.1; omega

/-- What the call owns, read. -/
theorem Rd.of_own {α : Type} {f : α → Value} {w : World} {base e c : Nat} {A : Option Addr} {xs : List α}
    (h : w.ownsRow base e 1 (.slice A xs.length c) xs.length (xs.map f)) : Rd f w w.heap.size A xs := by
  intro hn
  obtain ⟨g, cap, hv, _, hlt⟩ := h.form hn
  have hA : A = some ⟨g, 0, none⟩ := by injection hv
  subst hA
  refine ⟨g, 0, rfl, hlt, fun j hj => ?_⟩
  have := h.cells (g := g) rfl j (f xs[j]) (by simp [hj])
  rw [Addr.add_lit] at this
  exact this

/-- The slice value's shape, from what is owned. -/
theorem own_shape {w : World} {base e n : Nat} {v : Value} {vs : List Value} (h : w.ownsRow base e 1 v n vs) : ∃ A c, v = .slice A n c ∧ n ≤ c ∧ c ≤ maxLen := by
  rcases h.2 with ⟨rfl, rfl⟩ | ⟨g, cap, cur, rfl, _, _, hc, hm, _⟩
  · exact ⟨none, 0, rfl, Nat.le_refl _, Nat.zero_le _⟩
  · exact ⟨_, _, rfl, hc, hm⟩

/-- A call's result: a slice of its own that reads as ys (through f, cells of type e); nothing that was there has turned. -/
def Ret {α : Type} (f : α → Value) (e : TypeId) (w : World) (ys : List α) (en : Ending) (w' : World) : Prop :=
  ∃ A c, en = .returned (.slice A ys.length c) ∧ ys.length ≤ c ∧ c ≤ maxLen ∧ w'.ownsRow w.heap.size e 1 (.slice A ys.length c) ys.length (ys.map f) ∧ Below w.heap.size w w'

/-- The world moved on by draws alone. -/
def Dr (w w' : World) : Prop := ∃ n, w' = w.drewN n
theorem Dr.refl (w : World) : Dr w w := ⟨0, rfl⟩
theorem Dr.of (w : World) (n : Nat) : Dr w (w.drewN n) := ⟨n, rfl⟩
theorem Dr.drewN {w w' : World} (h : Dr w w') (m : Nat) : Dr w (w'.drewN m) := by
  obtain ⟨n, rfl⟩ := h
  exact ⟨n + m, World.drewN_drewN _ _ _⟩
theorem Dr.drew {w w' : World} (h : Dr w w') : Dr w w'.drew := h.drewN 1
theorem Dr.of2 (w : World) (n m : Nat) : Dr w ((w.drewN n).drewN m) := (Dr.of w n).drewN m
theorem Dr.of3 (w : World) (n m k : Nat) : Dr w (((w.drewN n).drewN m).drewN k) := (Dr.of2 w n m).drewN k
theorem Dr.trans {a b c : World} (h : Dr a b) (k : Dr b c) : Dr a c := by
  obtain ⟨n, rfl⟩ := k
  exact h.drewN n
theorem Dr.heap {w w' : World} (h : Dr w w') : w'.heap = w.heap := by obtain ⟨n, rfl⟩ := h; rfl
theorem Dr.cell {w w' : World} (h : Dr w w') (a : Addr) : w'.cell? a = w.cell? a := by obtain ⟨n, rfl⟩ := h; rfl
theorem Dr.frozen {w w' : World} (h : Dr w w') (a : Addr) : w'.frozen? a = w.frozen? a := by obtain ⟨n, rfl⟩ := h; rfl
theorem Dr.own {w w' : World} (h : Dr w w') {base e n : Nat} {v : Value} {vs : List Value} (ho : w.ownsRow base e 1 v n vs) : w'.ownsRow base e 1 v n vs := by obtain ⟨n, rfl⟩ := h; exact ho
theorem Rd.dr {α : Type} {f : α → Value} {w w' : World} {B : Nat} {A : Option Addr} {xs : List α} (h : Rd f w B A xs) (hd : Dr w w') : Rd f w' B A xs := by obtain ⟨n, rfl⟩ := hd; exact h
theorem below_dr {B : Nat} {a w w' : World} (h : Below B a w) (hd : Dr w w') : Below B a w' := by obtain ⟨n, rfl⟩ := hd; exact ⟨h.os, h.tape, h.output, h.size, h.block⟩
/-- A call's result that is one value, the world moved on by draws alone. -/
def Rq (w : World) (v : Value) (en : Ending) (w' : World) : Prop := en = .returned v ∧ Dr w w'
/-- A call's result that is one value; new blocks may have come. -/
def Rb (w : World) (v : Value) (en : Ending) (w' : World) : Prop := en = .returned v ∧ Below w.heap.size w w'

theorem Rq.b {w w' : World} {v : Value} {en : Ending} (h : Rq w v en w') : Rb w v en w' := by
  exact ⟨h.1, below_dr (Below.refl _ _) h.2⟩

/-- A goal laid behind a name, so that the walk stops there. -/
theorem hold {p : Prop} (h : Hid p) : p := h

theorem ret_bool {a b : Bool} (h : a = b) : Ending.returned (.bool a) = .returned (.bool b) := by rw [h]
theorem ret_int {k : IntKind} {a b : Int} (h : a = b) : Ending.returned (.int k a) = .returned (.int k b) := by rw [h]

theorem below_none {w w' : World} (h : w.grownBy w' none) : Below w.heap.size w w' := ⟨h.os, h.tape, h.output, h.size, fun k hk => h.block k hk (by simp)⟩
theorem none_below {w w' : World} (h : Below w.heap.size w w') : w.grownBy w' none := ⟨h.os, h.tape, h.output, h.size, fun k hk _ => h.block k hk⟩
theorem grown_trans {a b c : World} {row : Option Nat} (h : a.grownBy b row) (k : b.grownBy c row) : a.grownBy c row :=
  ⟨k.os.trans h.os, k.tape.trans h.tape, k.output.trans h.output, Nat.le_trans h.size k.size, fun i hi hr => (k.block i (Nat.lt_of_lt_of_le hi h.size) hr).trans (h.block i hi hr)⟩
theorem own_mono {w : World} {base base' e n : Nat} {v : Value} {vs : List Value} (h : w.ownsRow base e 1 v n vs) (hb : base' ≤ base) : w.ownsRow base' e 1 v n vs := by
  refine ⟨h.1, ?_⟩
  rcases h.2 with h2 | ⟨g, cap, cur, hv, hg, r⟩
  · exact .inl h2
  · exact .inr ⟨g, cap, cur, hv, by omega, r⟩
theorem own_below {w w' : World} {base e n : Nat} {v : Value} {vs : List Value} (h : w.ownsRow base e 1 v n vs) (hb : Below w.heap.size w w') : w'.ownsRow base e 1 v n vs :=
  h.kept (row := none) (none_below hb) (by cases hv : v.ownBlock <;> simp)
/-- A slice value of another block than g. -/
theorem own_other {w : World} {base e n g : Nat} {v : Value} {vs : List Value} (h : w.ownsRow base e 1 v n vs) (hg : g < base) : v.ownBlock = none ∨ v.ownBlock ≠ some g := by
  rcases hv : v.ownBlock with _ | k
  · exact .inl rfl
  · have := (h.lt k hv).1
    exact .inr (by simp; omega)

/-- What a call is handed: a list that is read, of no more than 2^20 elements. -/
structure In (w : World) (A : Option Addr) (c : Nat) (xs : List Int) : Prop where
  len : xs.length ≤ 1048576
  cap : xs.length ≤ c
  rd : Rd (Value.int .i64) w w.heap.size A xs
theorem In.next {w w' : World} {A : Option Addr} {c : Nat} {xs : List Int} (h : In w A c xs) (hb : Below w.heap.size w w') : In w' A c xs := ⟨h.len, h.cap, h.rd.next hb⟩
theorem In.dr {w w' : World} {A : Option Addr} {c : Nat} {xs : List Int} (h : In w A c xs) (hd : Dr w w') : In w' A c xs :=
  ⟨h.len, h.cap, by rw [show w'.heap.size = w.heap.size by rw [hd.heap]]; exact h.rd.dr hd⟩
/-- 'p[:k]', the address as the walk writes it. -/
theorem In.take {w : World} {A : Option Addr} {c : Nat} {xs : List Int} (h : In w A c xs) (k : Nat) : In w A c (xs.take k) :=
  ⟨by have := h.len; simp; omega, by have := h.cap; simp; omega, h.rd.take k⟩
theorem own_caps {w : World} {base e n c : Nat} {A : Option Addr} {vs : List Value} (h : w.ownsRow base e 1 (.slice A n c) n vs) : n ≤ c ∧ c ≤ maxLen := by
  obtain ⟨_, _, he, h1, h2⟩ := own_shape h
  injection he with _ _ hcc
  subst hcc
  exact ⟨h1, h2⟩

/-- The address of 's[k:]' at capacity c: Go does not point behind an array's end. Kept behind a name. -/
def cutA (A : Option Addr) (c k : Nat) : Option Addr := if c = k then A else A.map (·.add (k * 1))
theorem Rd.cut {α : Type} {f : α → Value} {w : World} {B : Nat} {A : Option Addr} {xs : List α} (h : Rd f w B A xs) {k c : Nat} (hk : k ≤ xs.length) (hc : xs.length ≤ c) : Rd f w B (cutA A c k) (xs.drop k) := Rd.drop h hk hc
/-- 's[i:]', 's[i:j]', the address behind the name. -/
theorem run_cut {P : Program} {t : TypeId} (ht : P.underlying t = some (.slice (P.elem t))) (hs : ∀ w : World, (sizeOf (P.elem t)).run P w = .ok 1 w) (A : Option Addr) (n c k : Nat) (i : Int) (hi : i = k) (hk : k ≤ n) (w : World) :
    (Instr.slice t (.slice A n c) (some (.int .i64 i)) none none).run P w = .ok (.slice (cutA A c k) (n - k) (c - k)) w := by
  subst hi
  rw [run_slice_l w t A n c ht .i64 k (by omega) (by omega), hs w]
  simp [Result.andThen, sliced, cutA]
theorem run_cut2 {P : Program} {t : TypeId} (ht : P.underlying t = some (.slice (P.elem t))) (hs : ∀ w : World, (sizeOf (P.elem t)).run P w = .ok 1 w) (A : Option Addr) (n c k m : Nat) (i j : Int) (hi : i = k) (hj : j = m) (hk : k ≤ m) (hm : m ≤ c) (w : World) :
    (Instr.slice t (.slice A n c) (some (.int .i64 i)) (some (.int .i64 j)) none).run P w = .ok (.slice (cutA A c k) (m - k) (c - k)) w := by
  subst hi hj
  rw [run_slice_lh w t A n c ht .i64 .i64 k m (by omega) (by omega) (by omega), hs w]
  simp [Result.andThen, sliced, cutA]
end Go.Proofs.Ythipikllgpnlhaa

/- Contracts of the laws' own helpers: toIntS copies, eqIntS compares, markIntS writes numbers, heldIntS reads them. -/
namespace Go.Proofs.Ythipikllgpnlhaa
set_option maxRecDepth 100000
open Go Go.RowKit

theorem infoI : (Try.prog.info? 3).map (fun i => (i.zero, i.size, i.bytes)) = some (some (.int .i64 0), 1, 8) := by kernel_rfl

/-! eqIntS -/
/-! heldIntS: -1, or the next number -/
def marks (k : Int) (n : Nat) : List Int := (List.range n).map fun i : Nat => k + i

theorem marks_length (k : Int) (n : Nat) : (marks k n).length = n := by simp [marks]
theorem marks_get (k : Int) (n i : Nat) (h : i < (marks k n).length) : (marks k n)[i] = k + i := by simp [marks]

end Go.Proofs.Ythipikllgpnlhaa

/- Contracts of the laws' own helpers that write: toIntS copies a list into a new row, markIntS writes numbers into a row. -/
namespace Go.Proofs.Ythipikllgpnlhaa
set_option maxRecDepth 100000
open Go Go.RowKit

/-- One element more has been copied. -/
theorem copied_step (xs : List Int) (k : Nat) (h : k < xs.length) :
    ((xs.take k ++ List.replicate (xs.length - k) 0).map (Value.int .i64)).set k (.int .i64 xs[k]) = (xs.take (k + 1) ++ List.replicate (xs.length - (k + 1)) 0).map (Value.int .i64) := by
  apply List.ext_getElem
  · simp; omega
  · intro i h1 h2
    simp only [List.getElem_set, List.getElem_map, List.getElem_append, List.getElem_take, List.getElem_replicate, List.length_take]
    by_cases hik : k = i
    · subst hik
      simp [show k < min (k + 1) xs.length by omega]
    · rw [if_neg hik]
      split <;> split <;> first | rfl | omega

theorem marks_succ (k : Int) (j : Nat) : marks k (j + 1) = marks k j ++ [k + j] := by simp [marks, List.range_succ]
theorem marked_step (k : Int) (xs : List Int) (j : Nat) (h : j < xs.length) :
    ((marks k j ++ xs.drop j).map (Value.int .i64)).set j (.int .i64 (k + j)) = (marks k (j + 1) ++ xs.drop (j + 1)).map (Value.int .i64) := by
  rw [List.drop_eq_getElem_cons h, marks_succ]
  simp only [List.map_append, List.map_cons, List.set_append, List.length_map, marks_length, Nat.lt_irrefl, if_false, Nat.sub_self, List.set_cons_zero, List.append_assoc, List.cons_append, List.nil_append]

/-- Two slices of the call's own, the later one made when the earlier one was there. -/
theorem own_apart {w : World} {base e n : Nat} {v : Value} {vs : List Value} (h : w.ownsRow base e 1 v n vs) {row : Option Nat} (hr : ∀ g, row = some g → g < base) : v.ownBlock = none ∨ v.ownBlock ≠ row := by
  rcases hv : v.ownBlock with _ | k
  · exact .inl rfl
  · have := (h.lt k hv).1
    refine .inr fun he => ?_
    have := hr k he.symm
    omega
end Go.Proofs.Ythipikllgpnlhaa

/- Words for values that hold several slices: rows of whole numbers and outer slices of rows; what is read, what is owned, what a call has turned. Plain lemmas. -/
namespace Go.Proofs.Ythipikllgpnlhaa
set_option maxRecDepth 100000
open Go Go.RowKit

/-- A slice of whole numbers: address, capacity, what it reads as. -/
structure Row where
  A : Option Addr
  c : Nat
  xs : List Int
def Row.v (r : Row) : Value := .slice r.A r.xs.length r.c
/-- A slice of slices: address, capacity, its cells. -/
structure Outer where
  A : Option Addr
  c : Nat
  vs : List Value
def Outer.v (o : Outer) : Value := .slice o.A o.vs.length o.c

structure Read (w : World) (B : Nat) (rs : List Row) (os : List Outer) : Prop where
  cap : ∀ r ∈ rs, r.xs.length ≤ r.c
  rd : ∀ r ∈ rs, Rd (Value.int .i64) w B r.A r.xs
  ocap : ∀ o ∈ os, o.vs.length ≤ o.c
  ord : ∀ o ∈ os, Rd id w B o.A o.vs

structure Own (w : World) (lo hi : Nat) (rs : List Row) (os : List Outer) : Prop where
  rows : ∀ r ∈ rs, w.ownsRow lo 3 1 r.v r.xs.length (r.xs.map (Value.int .i64))
  lt : ∀ r ∈ rs, ∀ g, r.v.ownBlock = some g → g < hi
  apart : rs.Pairwise fun r s => r.v.ownBlock = none ∨ r.v.ownBlock ≠ s.v.ownBlock
  outs : ∀ o ∈ os, w.ownsRow lo 24 1 o.v o.vs.length o.vs
  olt : ∀ o ∈ os, ∀ g, o.v.ownBlock = some g → g < hi

/-- A call turned nothing but blocks between lo and hi, and new ones. -/
structure Span (lo hi : Nat) (w w' : World) : Prop where
  os : w'.os = w.os
  tape : w'.tape = w.tape
  output : w'.output = w.output
  size : w.heap.size ≤ w'.heap.size
  block : ∀ k, k < w.heap.size → (k < lo ∨ hi ≤ k) → w'.heap[k]? = w.heap[k]?

theorem Span.refl (lo hi : Nat) (w : World) : Span lo hi w w := ⟨rfl, rfl, rfl, Nat.le_refl _, fun _ _ _ => rfl⟩
theorem Span.trans {lo hi : Nat} {a b c : World} (h : Span lo hi a b) (k : Span lo hi b c) : Span lo hi a c :=
  ⟨k.os.trans h.os, k.tape.trans h.tape, k.output.trans h.output, Nat.le_trans h.size k.size, fun i hi hr => (k.block i (Nat.lt_of_lt_of_le hi h.size) hr).trans (h.block i hi hr)⟩
theorem Span.of_grown {lo hi : Nat} {w w' : World} {row : Option Nat} (h : w.grownBy w' row) (hr : ∀ g, row = some g → lo ≤ g ∧ g < hi) : Span lo hi w w' :=
  ⟨h.os, h.tape, h.output, h.size, fun k hk hlh => h.block k hk fun he => by have := hr k he.symm; omega⟩
theorem Span.below {lo hi : Nat} {w w' : World} (h : Span lo hi w w') {B : Nat} (hB : B ≤ lo) (hs : B ≤ w.heap.size) : Below B w w' :=
  ⟨h.os, h.tape, h.output, h.size, fun k hk => h.block k (by omega) (.inl (by omega))⟩
theorem Span.of_below {lo hi : Nat} {w w' : World} (h : Below w.heap.size w w') : Span lo hi w w' := ⟨h.os, h.tape, h.output, h.size, fun k hk _ => h.block k hk⟩

theorem Span.set {lo hi : Nat} {w : World} {p : Addr} (h1 : lo ≤ p.block) (h2 : p.block < hi) (v : Value) : Span lo hi w (w.setCell p v) :=
  ⟨rfl, rfl, rfl, by simp [World.setCell], fun k _ hk => by simp only [World.setCell, Array.getElem?_modify]; rw [if_neg (by omega)]⟩

theorem own_span {w w' : World} {base e n lo hi : Nat} {v : Value} {vs : List Value} (h : w.ownsRow base e 1 v n vs) (hs : Span lo hi w w') (hne : ∀ g, v.ownBlock = some g → g < lo ∨ hi ≤ g) : w'.ownsRow base e 1 v n vs := by
  refine ⟨h.1, ?_⟩
  rcases h.2 with h2 | ⟨g, cap, cur, rfl, hg, hh, r⟩
  · exact .inl h2
  · refine .inr ⟨g, cap, cur, rfl, hg, ?_, r⟩
    have hlt : g < w.heap.size := by
      rcases Nat.lt_or_ge g w.heap.size with h' | h'
      · exact h'
      · rw [Array.getElem?_eq_none h'] at hh; cases hh
    rw [hs.block g hlt (hne g rfl)]
    exact hh

section
variable {w w' : World} {lo hi B B' : Nat} {rs : List Row} {os : List Outer}
theorem Read.below (h : Read w B rs os) (hb : Below B w w') : Read w' B rs os := ⟨h.cap, fun r hr => (h.rd r hr).below hb, h.ocap, fun o ho => (h.ord o ho).below hb⟩
theorem Read.more (h : Read w B rs os) (hB : B ≤ B') : Read w B' rs os := ⟨h.cap, fun r hr => (h.rd r hr).more hB, h.ocap, fun o ho => (h.ord o ho).more hB⟩
theorem Read.dr (h : Read w B rs os) (hd : Dr w w') : Read w' B rs os := ⟨h.cap, fun r hr => (h.rd r hr).dr hd, h.ocap, fun o ho => (h.ord o ho).dr hd⟩
theorem Read.span (h : Read w B rs os) (hs : Span lo hi w w') (hB : B ≤ lo) (hw : B ≤ w.heap.size) : Read w' B rs os := h.below (hs.below hB hw)
theorem Own.below (h : Own w lo hi rs os) (hb : Below w.heap.size w w') : Own w' lo hi rs os :=
  ⟨fun r hr => own_below (h.rows r hr) hb, h.lt, h.apart, fun o ho => own_below (h.outs o ho) hb, h.olt⟩
theorem Own.dr (h : Own w lo hi rs os) (hd : Dr w w') : Own w' lo hi rs os := by obtain ⟨n, rfl⟩ := hd; exact ⟨h.rows, h.lt, h.apart, h.outs, h.olt⟩
theorem Own.wider (h : Own w lo hi rs os) {lo' hi' : Nat} (hl : lo' ≤ lo) (hh : hi ≤ hi') : Own w lo' hi' rs os :=
  ⟨fun r hr => own_mono (h.rows r hr) hl, fun r hr g hg => by have := h.lt r hr g hg; omega, h.apart, fun o ho => own_mono (h.outs o ho) hl, fun o ho g hg => by have := h.olt o ho g hg; omega⟩
theorem Own.span {lo' hi' : Nat} (h : Own w lo hi rs os) (hs : Span lo' hi' w w') (hd : hi ≤ lo' ∨ hi' ≤ lo) : Own w' lo hi rs os :=
  ⟨fun r hr => own_span (h.rows r hr) hs fun g hg => by have := h.lt r hr g hg; have := (h.rows r hr).lt g hg; omega, h.lt, h.apart,
    fun o ho => own_span (h.outs o ho) hs fun g hg => by have := h.olt o ho g hg; have := (h.outs o ho).lt g hg; omega, h.olt⟩
theorem rd_lt {α : Type} {f : α → Value} {A : Option Addr} {xs : List α} {c : Nat} (h : Rd f w B A xs) (hl : ∀ g, (Value.slice A xs.length c).ownBlock = some g → g < B') : Rd f w B' A xs := fun h0 => by
  obtain ⟨b, off, rfl, hb, hc⟩ := h h0
  exact ⟨b, off, rfl, hl b rfl, hc⟩
theorem Own.read (h : Own w lo hi rs os) : Read w hi rs os :=
  ⟨fun r hr => (own_caps (h.rows r hr)).1, fun r hr => rd_lt (c := r.c) (Rd.of_own (c := r.c) (h.rows r hr)) (h.lt r hr),
    fun o ho => (own_caps (h.outs o ho)).1, fun o ho => rd_lt (c := o.c) (Rd.of_own (f := id) (e := 24) (c := o.c) (by rw [List.map_id]; exact h.outs o ho)) (h.olt o ho)⟩
theorem Own.one {A : Option Addr} {c : Nat} {xs : List Int} (h : w.ownsRow lo 3 1 (.slice A xs.length c) xs.length (xs.map (Value.int .i64))) (hh : w.heap.size ≤ hi) : Own w lo hi [⟨A, c, xs⟩] [] :=
  ⟨fun r hr => by obtain rfl := List.mem_singleton.1 hr; exact h, fun r hr g hg => by obtain rfl := List.mem_singleton.1 hr; have := (h.lt g hg).2; omega, List.pairwise_singleton _ _, fun o ho => (List.not_mem_nil ho).elim, fun o ho => (List.not_mem_nil ho).elim⟩
theorem Own.nil_ : Own w lo hi [] [] := ⟨fun _ hr => (List.not_mem_nil hr).elim, fun _ hr => (List.not_mem_nil hr).elim, List.Pairwise.nil, fun _ hr => (List.not_mem_nil hr).elim, fun _ hr => (List.not_mem_nil hr).elim⟩
theorem Read.nil_ : Read w B [] [] := ⟨fun _ hr => (List.not_mem_nil hr).elim, fun _ hr => (List.not_mem_nil hr).elim, fun _ hr => (List.not_mem_nil hr).elim, fun _ hr => (List.not_mem_nil hr).elim⟩

theorem Own.lim (h : Own w lo hi rs []) (m : Nat) (hl : ∀ r ∈ rs, ∀ g, r.v.ownBlock = some g → g < m) : Own w lo m rs [] := ⟨h.rows, hl, h.apart, h.outs, fun _ ho => (List.not_mem_nil ho).elim⟩
theorem own_off {v : Value} {lim : Nat} {row : Option Nat} (hl : ∀ q, v.ownBlock = some q → q < lim) (hr : ∀ q, row = some q → lim ≤ q) : v.ownBlock = none ∨ v.ownBlock ≠ row := by
  rcases hv : v.ownBlock with _ | k
  · exact .inl rfl
  · refine .inr fun he => ?_
    have h1 := hl k hv
    have h2 := hr k he.symm
    omega
theorem own_ne {r : Row} {o : Outer} (h : Own w lo hi rs os) (hr : r ∈ rs) (ho : o ∈ os) : ∀ g, r.v.ownBlock = some g → o.v.ownBlock ≠ some g := by
  intro g h1 h2
  rcases (h.rows r hr).2 with ⟨e, _⟩ | ⟨g1, c1, cur1, e1, _, hh1, _⟩
  · rw [e] at h1; cases h1
  rcases (h.outs o ho).2 with ⟨e, _⟩ | ⟨g2, c2, cur2, e2, _, hh2, _⟩
  · rw [e] at h2; cases h2
  rw [e1] at h1; rw [e2] at h2
  injection h1 with h1; injection h2 with h2
  simp only at h1 h2
  subst h1 h2
  rw [hh1] at hh2
  injection hh2 with hh2
  injection hh2 with _ ht _
  exact absurd ht (by decide)

/-- One row of several was written anew. -/
theorem Own.mark {rs1 rs2 : List Row} {r : Row} {k : Int} (h : Own w lo hi (rs1 ++ r :: rs2) os) (hg : w.grownBy w' r.v.ownBlock)
    (hr : w'.ownsRow lo 3 1 r.v r.xs.length ((marks k r.xs.length).map (Value.int .i64))) : Own w' lo hi (rs1 ++ ⟨r.A, r.c, marks k r.xs.length⟩ :: rs2) os := by
  have hv : (Row.mk r.A r.c (marks k r.xs.length)).v = r.v := by simp only [Row.v, marks_length]
  have hp := h.apart
  rw [List.pairwise_append] at hp
  obtain ⟨hp1, hp2, hp3⟩ := hp
  rw [List.pairwise_cons] at hp2
  have hmem : r ∈ rs1 ++ r :: rs2 := by simp
  refine ⟨fun s hs => ?_, fun s hs g hgg => ?_, ?_, fun o ho => ?_, h.olt⟩
  · rcases List.mem_append.1 hs with hs | hs
    · refine (h.rows s (by simp [hs])).kept hg ?_
      exact hp3 s hs r (by simp)
    · rcases List.mem_cons.1 hs with rfl | hs
      · rw [hv]; simp only [marks_length]; exact hr
      · refine (h.rows s (by simp [hs])).kept hg ?_
        rcases hp2.1 s hs with hn | hn
        · rw [hn]
          rcases hsv : s.v.ownBlock with _ | g
          · exact .inl rfl
          · exact .inr (by simp)
        · exact .inr fun e => hn e.symm
  · rcases List.mem_append.1 hs with hs | hs
    · exact h.lt s (by simp [hs]) g hgg
    · rcases List.mem_cons.1 hs with rfl | hs
      · rw [hv] at hgg; exact h.lt r hmem g hgg
      · exact h.lt s (by simp [hs]) g hgg
  · rw [List.pairwise_append]
    refine ⟨hp1, ?_, fun a ha b hb => ?_⟩
    · rw [List.pairwise_cons]
      refine ⟨fun s hs => ?_, hp2.2⟩
      rw [hv]; exact hp2.1 s hs
    · rcases List.mem_cons.1 hb with rfl | hb
      · rw [hv]; exact hp3 a ha r (by simp)
      · exact hp3 a ha b (by simp [hb])
  · refine (h.outs o ho).kept hg ?_
    rcases hrv : r.v.ownBlock with _ | g
    · rcases hov : o.v.ownBlock with _ | g'
      · exact .inl rfl
      · exact .inr (by simp)
    · exact .inr (own_ne h hmem ho g hrv)

/-- Two values of the call's own, the second made behind the first. -/
theorem Own.app {m : Nat} {rs' : List Row} {os' : List Outer} (h : Own w lo m rs os) (h' : Own w m hi rs' os') (hl : lo ≤ m) (hh : m ≤ hi) : Own w lo hi (rs ++ rs') (os ++ os') := by
  refine ⟨fun r hr => ?_, fun r hr g hg => ?_, ?_, fun o ho => ?_, fun o ho g hg => ?_⟩
  · rcases List.mem_append.1 hr with hr | hr
    · exact h.rows r hr
    · exact own_mono (h'.rows r hr) hl
  · rcases List.mem_append.1 hr with hr | hr
    · have := h.lt r hr g hg; omega
    · exact h'.lt r hr g hg
  · rw [List.pairwise_append]
    refine ⟨h.apart, h'.apart, fun a ha b hb => ?_⟩
    rcases hav : a.v.ownBlock with _ | g
    · exact .inl rfl
    · refine .inr fun e => ?_
      have h1 := h.lt a ha g hav
      have h2 := ((h'.rows b hb).lt g e.symm).1
      omega
  · rcases List.mem_append.1 ho with ho | ho
    · exact h.outs o ho
    · exact own_mono (h'.outs o ho) hl
  · rcases List.mem_append.1 ho with ho | ho
    · have := h.olt o ho g hg; omega
    · exact h'.olt o ho g hg
end

/-- An object of cells that nothing froze: what its cells are. -/
theorem obj_cell {w : World} {g i : Nat} {cur : Array Value} {t : TypeId} (h : w.heap[g]? = some (.cells cur t (0, 0))) : w.cell? ⟨g, i, none⟩ = cur[i]? := by
  simp [World.cell?, h]
theorem obj_frozen {w : World} {g i : Nat} {cur : Array Value} {t : TypeId} (h : w.heap[g]? = some (.cells cur t (0, 0))) : w.frozen? ⟨g, i, none⟩ = false := by
  simp [World.frozen?, h]
theorem obj_below {w w' : World} {B g : Nat} {o : Obj} (h : w.heap[g]? = some o) (hb : Below B w w') (hg : g < B) : w'.heap[g]? = some o := (hb.block g hg).trans h
theorem obj_lt {w : World} {g : Nat} {o : Obj} (h : w.heap[g]? = some o) : g < w.heap.size := by
  rcases Nat.lt_or_ge g w.heap.size with h' | h'
  · exact h'
  · rw [Array.getElem?_eq_none h'] at h; cases h
theorem obj_dr {w w' : World} {g : Nat} {o : Obj} (h : w.heap[g]? = some o) (hd : Dr w w') : w'.heap[g]? = some o := by rw [hd.heap]; exact h
theorem obj_set {w : World} {g i : Nat} {cur : Array Value} {t : TypeId} (h : w.heap[g]? = some (.cells cur t (0, 0))) (v : Value) :
    (w.setCell ⟨g, i, none⟩ v).heap[g]? = some (.cells (cur.setIfInBounds i v) t (0, 0)) := by
  simp only [World.setCell, Array.getElem?_modify, if_pos, h, Option.map_some, Option.isSome_none, Bool.false_eq_true, if_false]
theorem obj_other {w : World} {g g' i : Nat} {o : Obj} (h : w.heap[g]? = some o) (hne : g' ≠ g) (v : Value) : (w.setCell ⟨g', i, none⟩ v).heap[g]? = some o := by
  simp only [World.setCell, Array.getElem?_modify, if_neg hne]
  exact h
theorem obj_alloc {w : World} {g : Nat} {o : Obj} (h : w.heap[g]? = some o) (o' : Obj) : (w.alloc o').heap[g]? = some o := by
  have hl := obj_lt h
  show (w.heap.push o')[g]? = some o
  rw [Array.getElem?_push_lt hl, ← h, Array.getElem?_eq_getElem hl]
theorem obj_new (w : World) (o : Obj) : (w.alloc o).heap[w.heap.size]? = some o := by
  show (w.heap.push o)[w.heap.size]? = some o
  simp
/-- A struct of two cells laid into a new block. -/
theorem box_below (w : World) (z0 z1 a b : Value) (T : TypeId) :
    Below w.heap.size w (((w.alloc (Obj.cells #[z0, z1] T)).setCell ⟨w.heap.size, 0, none⟩ a).setCell ⟨w.heap.size, 1, none⟩ b) :=
  (((Below.refl _ _).alloc (Nat.le_refl _) _).setCell (p := ⟨w.heap.size, 0, none⟩) (Nat.le_refl _) a).setCell (p := ⟨w.heap.size, 1, none⟩) (Nat.le_refl _) b
theorem box_obj (w : World) (z0 z1 a b : Value) (T : TypeId) :
    (((w.alloc (Obj.cells #[z0, z1] T)).setCell ⟨w.heap.size, 0, none⟩ a).setCell ⟨w.heap.size, 1, none⟩ b).heap[w.heap.size]? = some (Obj.cells #[a, b] T) :=
  obj_set (i := 1) (obj_set (i := 0) (obj_new w (Obj.cells #[z0, z1] T)) a) b

/-- What a call is handed of a Near: both its lists. -/
structure InN (w : World) (A : Option Addr) (c : Nat) (xs : List Int) (B : Option Addr) (k : Nat) (ys : List Int) : Prop where
  fst : In w A c xs
  snd : In w B k ys
theorem InN.next {w w' : World} {A : Option Addr} {c : Nat} {xs : List Int} {B : Option Addr} {k : Nat} {ys : List Int} (h : InN w A c xs B k ys) (hb : Below w.heap.size w w') : InN w' A c xs B k ys := ⟨h.1.next hb, h.2.next hb⟩

/-- The rows marked one after the other. -/
def marked : Int → List Row → List Row
  | _, [] => []
  | k, r :: t => ⟨r.A, r.c, marks k r.xs.length⟩ :: marked (k + r.xs.length) t
def sizeR (rs : List Row) : Nat := (rs.map fun r => r.xs.length).sum
theorem sizeR_append (rs rs' : List Row) : sizeR (rs ++ rs') = sizeR rs + sizeR rs' := by simp [sizeR]
theorem marked_append (k : Int) (rs rs' : List Row) : marked k (rs ++ rs') = marked k rs ++ marked (k + sizeR rs) rs' := by
  induction rs generalizing k with
  | nil => simp [marked, sizeR]
  | cons r t ih =>
    simp only [List.cons_append, marked, ih]
    have : k + (r.xs.length : Int) + (sizeR t : Int) = k + ((sizeR (r :: t) : Nat) : Int) := by simp [sizeR]; omega
    rw [this]
theorem marked_v (k : Int) (rs : List Row) : (marked k rs).map Row.v = rs.map Row.v := by
  induction rs generalizing k with
  | nil => rfl
  | cons r t ih => simp only [marked, List.map_cons, ih, Row.v, marks_length]
theorem marked_length (k : Int) (rs : List Row) : (marked k rs).length = rs.length := by
  induction rs generalizing k with
  | nil => rfl
  | cons r t ih => simp [marked, ih]
end Go.Proofs.Ythipikllgpnlhaa

/- The draws' numbers: a cursor over the code's bytes. Only the bounds of what is drawn are told. -/
namespace Go.Proofs.Ythipikllgpnlhaa
set_option maxRecDepth 100000
open Go Go.RowKit

theorem bitsAnd_lt (x : Int) (m : Nat) (hm : m < 2 ^ 32) : 0 ≤ bits .and .i64 x m ∧ bits .and .i64 x m ≤ m := by
  have h1 : ((BitVec.ofInt 64 x) &&& (BitVec.ofInt 64 (m : Int))).toNat ≤ m := by
    rw [BitVec.toNat_and]
    refine Nat.le_trans (Nat.and_le_right) ?_
    rw [BitVec.toNat_ofInt]
    omega
  have h2 : bits .and .i64 x m = IntKind.i64.wrap (((BitVec.ofInt 64 x) &&& (BitVec.ofInt 64 (m : Int))).toNat : Nat) := rfl
  rw [h2, IntWalk.i64_in _ (by omega)]
  omega
theorem bitsAnd_255 (x : Int) : 0 ≤ bits .and .i64 x 255 ∧ bits .and .i64 x 255 < 256 := by
  have := bitsAnd_lt x 255 (by decide)
  exact ⟨this.1, Int.lt_of_le_of_lt this.2 (by decide)⟩

/-- The cursor of a draw lies in block q, the code's bytes below it. -/
structure Cur (w : World) (q : Nat) (A : Option Addr) (c : Nat) (bs : List Int) : Prop where
  len : bs.length ≤ 1048576
  ob : ∃ (i : Nat) (h : Int), i ≤ bs.length ∧ w.heap[q]? = some (Obj.cells #[.slice A bs.length c, .int .i64 i, .int .i64 h] 88)
  rd : Rd (Value.int .u8) w q A bs
theorem Cur.lt {w : World} {q : Nat} {A : Option Addr} {c : Nat} {bs : List Int} (h : Cur w q A c bs) : q < w.heap.size := by
  obtain ⟨i, k, _, ho⟩ := h.ob
  exact obj_lt ho
theorem Cur.below {w w' : World} {B q : Nat} {A : Option Addr} {c : Nat} {bs : List Int} (h : Cur w q A c bs) (hb : Below B w w') (hB : q < B) : Cur w' q A c bs := by
  obtain ⟨i, k, hi, ho⟩ := h.ob
  exact ⟨h.len, ⟨i, k, hi, obj_below ho hb hB⟩, h.rd.below (hb.mono (by omega))⟩
theorem Cur.dr {w w' : World} {q : Nat} {A : Option Addr} {c : Nat} {bs : List Int} (h : Cur w q A c bs) (hd : Dr w w') : Cur w' q A c bs := by
  obtain ⟨n, rfl⟩ := hd
  exact ⟨h.len, h.ob, h.rd⟩
theorem Span.dr {lo hi : Nat} {a w w' : World} (h : Span lo hi a w) (hd : Dr w w') : Span lo hi a w' := by
  obtain ⟨n, rfl⟩ := hd
  exact ⟨h.os, h.tape, h.output, h.size, h.block⟩

/-- A draw of the cursor turned the cursor alone. -/
structure Drawn (w w' : World) (q : Nat) (A : Option Addr) (c : Nat) (bs : List Int) : Prop where
  cur : Cur w' q A c bs
  span : Span q (q + 1) w w'
theorem Drawn.trans {a b d : World} {q : Nat} {A : Option Addr} {c : Nat} {bs : List Int} (h : Drawn a b q A c bs) (k : Drawn b d q A c bs) : Drawn a d q A c bs := ⟨k.cur, h.span.trans k.span⟩
theorem Drawn.dr {a b d : World} {q : Nat} {A : Option Addr} {c : Nat} {bs : List Int} (h : Drawn a b q A c bs) (k : Dr b d) : Drawn a d q A c bs := ⟨h.cur.dr k, h.span.dr k⟩
theorem Drawn.refl {w : World} {q : Nat} {A : Option Addr} {c : Nat} {bs : List Int} (h : Cur w q A c bs) : Drawn w w q A c bs := ⟨h, Span.refl _ _ _⟩
/-- A number between 0 and n was drawn. -/
def RetC (w : World) (q : Nat) (A : Option Addr) (c : Nat) (bs : List Int) (ok : Int → Prop) (en : Ending) (w' : World) : Prop :=
  ∃ x : Int, en = .returned (.int .i64 x) ∧ ok x ∧ Drawn w w' q A c bs

theorem cur_set {w : World} {q : Nat} {A : Option Addr} {c i : Nat} {bs : List Int} {h : Int} (hc : Cur w q A c bs) (ho : w.heap[q]? = some (Obj.cells #[.slice A bs.length c, .int .i64 i, .int .i64 h] 88)) (hi : i ≤ bs.length) (h' : Int) :
    (w.setCell ⟨q, 2, none⟩ (.int .i64 h')).heap[q]? = some (Obj.cells #[.slice A bs.length c, .int .i64 i, .int .i64 h'] 88) ∧ Drawn w (w.setCell ⟨q, 2, none⟩ (.int .i64 h')) q A c bs := by
  have h1 := obj_set (i := 2) ho (.int .i64 h')
  refine ⟨h1, ⟨hc.len, ⟨i, h', hi, h1⟩, hc.rd.setCell (Nat.le_refl _) _⟩, Span.set (p := ⟨q, _, none⟩) (Nat.le_refl q) (Nat.lt_succ_self q) _⟩
theorem cur_next {w : World} {q : Nat} {A : Option Addr} {c i : Nat} {bs : List Int} {h : Int} (hc : Cur w q A c bs) (ho : w.heap[q]? = some (Obj.cells #[.slice A bs.length c, .int .i64 i, .int .i64 h] 88)) (hi : i < bs.length) :
    Drawn w (w.setCell ⟨q, 1, none⟩ (.int .i64 ((i : Int) + 1))) q A c bs := by
  have h1 := obj_set (i := 1) ho (.int .i64 ((i : Int) + 1))
  exact ⟨⟨hc.len, ⟨i + 1, h, hi, h1⟩, hc.rd.setCell (Nat.le_refl _) _⟩, Span.set (p := ⟨q, _, none⟩) (Nat.le_refl q) (Nat.lt_succ_self q) _⟩

set_option maxHeartbeats 800000 in
theorem l1Byte_any (w : World) (q : Nat) (A : Option Addr) (c : Nat) (bs : List Int) (hc : Cur w q A c bs) :
    Calls Try.prog 129 #[.pointer (some ⟨q, 0, none⟩)] w (RetC w q A c bs fun x => 0 ≤ x ∧ x < 256) := by
  have hlen := hc.len
  obtain ⟨i, h, hi, ho⟩ := hc.ob
  have f0 := obj_cell (i := 0) ho
  have f1 := obj_cell (i := 1) ho
  have f2 := obj_cell (i := 2) ho
  have g2 := obj_frozen (i := 2) ho
  simp only [List.getElem?_toArray, List.getElem?_cons_zero, List.getElem?_cons_succ] at f0 f1 f2
  rcases Nat.lt_or_ge i bs.length with hlt | hge
  · have l1 : (i : Int) < (bs.length : Int) := by omega
    have e1 : IntKind.i64.wrap ((i : Int) + 1) = (i : Int) + 1 := IntWalk.i64_in _ (by omega)
    go_enter Try.func129, Try.ntmps129
    go_wp2_with fail
    clear f0 f1 f2 g2
    generalize wrap64 (wrap64 (h * 6364136223846793005) + 1442695040888963407) = hn
    obtain ⟨h1, k1⟩ := cur_set hc ho hi hn
    generalize w.setCell { block := q, off := 2 } (Value.int IntKind.i64 hn) = w1 at h1 k1 ⊢
    have f0 := obj_cell (i := 0) h1
    have f1 := obj_cell (i := 1) h1
    have f2 := obj_cell (i := 2) h1
    have g1 := obj_frozen (i := 1) h1
    simp only [List.getElem?_toArray, List.getElem?_cons_zero, List.getElem?_cons_succ] at f0 f1 f2
    obtain ⟨b, off, rfl, hb, hcell⟩ := k1.cur.rd (by omega)
    have hci := hcell i hlt
    go_quiet (fail)
    have hx := bitsAnd_255 (bits .xor .i64 (hn / 8589934592) (hn / 35184372088832))
    generalize bits .and .i64 (bits .xor .i64 (hn / 8589934592) (hn / 35184372088832)) 255 = x at hx ⊢
    go_wp2_with fail
    go_quiet (fail)
    go_wp2_with fail
    go_quiet (fail)
    go_wp2_with fail
    go_ret
    refine ⟨_, rfl, bitsAnd_255 _, ?_⟩
    exact (k1.dr (Dr.of _ _)).trans (cur_next (k1.cur.dr (Dr.of _ _)) (obj_dr h1 (Dr.of _ _)) hlt)
  · have l1 : ¬ (i : Int) < (bs.length : Int) := by omega
    go_enter Try.func129, Try.ntmps129
    go_wp2_with fail
    clear f0 f1 f2 g2
    generalize wrap64 (wrap64 (h * 6364136223846793005) + 1442695040888963407) = hn
    obtain ⟨h1, k1⟩ := cur_set hc ho hi hn
    generalize w.setCell { block := q, off := 2 } (Value.int IntKind.i64 hn) = w1 at h1 k1 ⊢
    have f0 := obj_cell (i := 0) h1
    have f1 := obj_cell (i := 1) h1
    have f2 := obj_cell (i := 2) h1
    have g1 := obj_frozen (i := 1) h1
    simp only [List.getElem?_toArray, List.getElem?_cons_zero, List.getElem?_cons_succ] at f0 f1 f2
    go_quiet (fail)
    have hx := bitsAnd_255 (bits .xor .i64 (hn / 8589934592) (hn / 35184372088832))
    generalize bits .and .i64 (bits .xor .i64 (hn / 8589934592) (hn / 35184372088832)) 255 = x at hx ⊢
    go_wp2_with fail
    go_quiet (fail)
    go_wp2_with fail
    go_ret
    exact ⟨x, rfl, hx, k1.dr (by first | with_reducible exact Dr.of _ _ | with_reducible exact Dr.of2 _ _ _ | with_reducible exact Dr.refl _ | with_reducible exact Dr.of3 _ _ _)⟩

set_option maxHeartbeats 800000 in
theorem l1Below_any (w : World) (q : Nat) (A : Option Addr) (c : Nat) (bs : List Int) (n : Int) (hn : -9223372036854775808 ≤ n ∧ n ≤ 9223372036854775807) (hc : Cur w q A c bs) :
    Calls Try.prog 93 #[.pointer (some ⟨q, 0, none⟩), .int .i64 n] w (RetC w q A c bs fun x => 0 ≤ x ∧ (0 < n → x < n) ∧ (n ≤ 0 → x = 0)) := by
  by_cases h0 : n ≤ 0
  · go_enter Try.func93, Try.ntmps93
    go_wp2_with fail
    go_ret
    exact ⟨0, rfl, ⟨Int.le_refl _, fun h => by omega, fun _ => rfl⟩, Drawn.refl hc⟩
  by_cases h1 : n ≤ 256
  · have HC := Lib.hid (l1Byte_any w q A c bs hc)
    go_enter Try.func93, Try.ntmps93
    go_wp2_with fail
    (with_reducible refine HC.out.mono ?_)
    rintro e w1 ⟨x, rfl, ⟨hx0, hx1⟩, k1⟩
    have hm0 := Int.emod_nonneg x (show n ≠ 0 by omega)
    have hm1 := Int.emod_lt_of_pos x (show 0 < n by omega)
    have hm2 : x.tmod n = x % n := Int.tmod_eq_emod_of_nonneg hx0
    go_wp2_with fail
    go_ret
    exact ⟨x % n, by first | rfl | (simp only [hm2]), ⟨hm0, fun _ => hm1, fun h => by omega⟩, k1⟩
  · have HC := Lib.hid (l1Byte_any w q A c bs hc)
    go_enter Try.func93, Try.ntmps93
    go_wp2_with fail
    (with_reducible refine HC.out.mono ?_)
    rintro e w1 ⟨x, rfl, hx, k1⟩
    go_wp2_with fail
    (with_reducible refine (l1Byte_any w1 q A c bs k1.cur).mono ?_)
    rintro e w2 ⟨y, rfl, hy, k2⟩
    have k2 := k1.trans k2
    go_wp2_with fail
    (with_reducible refine (l1Byte_any w2 q A c bs k2.cur).mono ?_)
    rintro e w3 ⟨z, rfl, hz, k3⟩
    have k3 := k2.trans k3
    go_wp2_with fail
    (with_reducible refine (l1Byte_any w3 q A c bs k3.cur).mono ?_)
    rintro e w4 ⟨u, rfl, hu, k4⟩
    have k4 := k3.trans k4
    have t1 : IntKind.i64.wrap (x * 16777216) = x * 16777216 := IntWalk.i64_in _ (by omega)
    have t2 : IntKind.i64.wrap (y * 65536) = y * 65536 := IntWalk.i64_in _ (by omega)
    have t3 : IntKind.i64.wrap (z * 256) = z * 256 := IntWalk.i64_in _ (by omega)
    have t4 : IntKind.i64.wrap (x * 16777216 + y * 65536) = x * 16777216 + y * 65536 := IntWalk.i64_in _ (by omega)
    have t5 : IntKind.i64.wrap (x * 16777216 + y * 65536 + z * 256) = x * 16777216 + y * 65536 + z * 256 := IntWalk.i64_in _ (by omega)
    have t6 : IntKind.i64.wrap (x * 16777216 + y * 65536 + z * 256 + u) = x * 16777216 + y * 65536 + z * 256 + u := IntWalk.i64_in _ (by omega)
    have t7 : 0 ≤ x * 16777216 + y * 65536 + z * 256 + u := by omega
    have hm0 := Int.emod_nonneg (x * 16777216 + y * 65536 + z * 256 + u) (show n ≠ 0 by omega)
    have hm1 := Int.emod_lt_of_pos (x * 16777216 + y * 65536 + z * 256 + u) (show 0 < n by omega)
    go_wp2_with fail
    go_ret
    exact ⟨(x * 16777216 + y * 65536 + z * 256 + u) % n, by first | rfl | (simp only [Int.tmod_eq_emod_of_nonneg t7]), ⟨hm0, fun _ => hm1, fun h => by omega⟩, k4⟩

set_option maxHeartbeats 800000 in
theorem l1Once_any (w : World) (q : Nat) (A : Option Addr) (c : Nat) (bs : List Int) (n : Int) (hn : -9223372036854775808 ≤ n ∧ n ≤ 9223372036854775807) (hc : Cur w q A c bs) :
    Calls Try.prog 103 #[.pointer (some ⟨q, 0, none⟩), .int .i64 n] w (fun en w' => ∃ b : Bool, en = .returned (.bool b) ∧ Drawn w w' q A c bs) := by
  have HC := Lib.hid (l1Below_any w q A c bs n hn hc)
  go_enter Try.func103, Try.ntmps103
  go_wp2_with fail
  (with_reducible refine HC.out.mono ?_)
  rintro e w1 ⟨x, rfl, hx, k1⟩
  go_wp2_with fail
  go_ret
  exact ⟨_, rfl, k1⟩

/-- One of a list of numbers that is read, which lies beyond the cursor or below it. -/
theorem l1PickInt_any (w : World) (q : Nat) (A : Option Addr) (c : Nat) (bs : List Int) (b : Nat) (n k : Nat) (xs : List Int) (hnl : xs.length = n) (h0 : 0 < xs.length) (hl : xs.length ≤ 256) (hb : b ≠ q) (hbw : b < w.heap.size)
    (hr : ∀ j (h : j < xs.length), w.cell? ⟨b, j, none⟩ = some (.int .i64 xs[j])) (hc : Cur w q A c bs) :
    Calls Try.prog 107 #[.pointer (some ⟨q, 0, none⟩), .slice (some ⟨b, 0, none⟩) n k] w (RetC w q A c bs fun x => x ∈ xs) := by
  subst hnl
  have HC := Lib.hid (l1Below_any w q A c bs (xs.length : Int) (by omega) hc)
  go_enter Try.func107, Try.ntmps107
  go_wp2_with fail
  (with_reducible refine HC.out.mono ?_)
  rintro e w1 ⟨x, rfl, hx, k1⟩
  obtain ⟨m, rfl⟩ := Int.eq_ofNat_of_zero_le hx.1
  have hm : m < xs.length := by have := hx.2.1 (by omega); omega
  have hcl : w1.cell? ⟨b, m, none⟩ = some (.int .i64 xs[m]) := by
    have h1 : w1.heap[b]? = w.heap[b]? := k1.span.block b hbw (by omega)
    rw [← hr m hm]
    exact World.cell?_of_block h1
  go_wp2_with fail
  go_ret
  exact ⟨_, rfl, List.getElem_mem hm, k1⟩

set_option maxHeartbeats 800000 in
theorem l1New_any (A : Option Addr) (c : Nat) (bs : List Int) (w : World) (hl : bs.length ≤ 1048576) (hr : Rd (Value.int .u8) w w.heap.size A bs) :
    Calls Try.prog 71 #[.slice A bs.length c] w (fun en w' => ∃ q, en = .returned (.pointer (some ⟨q, 0, none⟩)) ∧ w.heap.size ≤ q ∧ Cur w' q A c bs ∧ Below w.heap.size w w') := by
  go_enter Try.func71, Try.ntmps71
  have e0 : IntKind.i64.wrap ((26583 : Int) + (bs.length : Int)) = 26583 + (bs.length : Int) := IntWalk.i64_in _ (by omega)
  go_wp2_with fail
  go_loopw [3, 4] (fun v i wr => ∃ (k : Nat) (h : Int), k ≤ bs.length ∧ v = .int .i64 h ∧ i = .int .i64 k ∧ wr = w) (fun _ i _ => bs.length - (intOf i).toNat)
  case atStart => exact ⟨0, _, Nat.zero_le _, rfl, rfl, rfl⟩
  case round =>
    obtain ⟨k, h, hk, rfl, rfl, rfl⟩ := hrel
    rcases Nat.lt_or_ge k bs.length with hlt | hge
    · by_cases h4 : k < 4000
      · have l1 : (k : Int) < (bs.length : Int) := by omega
        have l2 : (k : Int) < 4000 := by omega
        have e1 : IntKind.i64.wrap ((k : Int) + 1) = (k : Int) + 1 := IntWalk.i64_in _ (by omega)
        obtain ⟨b, off, rfl, hb, hcell⟩ := hr (by omega)
        have hci := hcell k hlt
        go_wp2_with fail
        go_roundw
        case rel => exact ⟨k + 1, _, by omega, rfl, by go_num, trivial⟩
        case measure => simp [intOf]; omega
      · have l1 : (k : Int) < (bs.length : Int) := by omega
        have l2 : ¬ (k : Int) < 4000 := by omega
        go_wp2_with fail
        go_ret
        exact ⟨_, rfl, Nat.le_refl _, ⟨hl, ⟨0, h, Nat.zero_le _, obj_new _ _⟩, hr.alloc (Nat.le_refl _) _⟩, (Below.refl _ _).alloc (Nat.le_refl _) _⟩
    · have l1 : ¬ (k : Int) < (bs.length : Int) := by omega
      go_wp2_with fail
      go_ret
      exact ⟨_, rfl, Nat.le_refl _, ⟨hl, ⟨0, h, Nat.zero_le _, obj_new _ _⟩, hr.alloc (Nat.le_refl _) _⟩, (Below.refl _ _).alloc (Nat.le_refl _) _⟩
end Go.Proofs.Ythipikllgpnlhaa

/- The laws' own helpers for patterns with joined places. -/
namespace Go.Proofs.Ythipikllgpnlhaa
set_option maxRecDepth 100000
open Go Go.RowKit

theorem Read.mem {w : World} {B : Nat} {rs : List Row} {os : List Outer} (h : Read w B rs os) {r : Row} (hr : r ∈ rs) (hl : r.xs.length ≤ 1048576) (hB : B ≤ w.heap.size) : In w r.A r.c r.xs := ⟨hl, h.cap r hr, (h.rd r hr).more hB⟩





end Go.Proofs.Ythipikllgpnlhaa

/- The laws' own helpers in the words of R1: toIntS, eqIntS, markIntS, heldIntS and those for a Near. -/
namespace Go.Proofs.Ythipikllgpnlhaa
set_option maxRecDepth 100000
open Go Go.RowKit

/-- What an argument reads as when the law begins. -/
structure Arg (w : World) (rs : List Row) (os : List Outer) : Prop where
  read : Read w w.heap.size rs os
  rcap : ∀ r ∈ rs, r.c ≤ maxLen
  ocap : ∀ o ∈ os, o.c ≤ maxLen
theorem Arg.self {w : World} {rs : List Row} {os : List Outer} (h : Arg w rs os) : Arg w rs os := h
theorem Arg.below {w w' : World} {rs : List Row} {os : List Outer} (h : Arg w rs os) (hb : Below w.heap.size w w') : Arg w' rs os := ⟨(h.read.below hb).more hb.size, h.rcap, h.ocap⟩
theorem Arg.lenI {w : World} {A : Option Addr} {c : Nat} {xs : List Int} (h : Arg w [⟨A, c, xs⟩] []) : xs.length ≤ 9223372036854775807 := by
  have h1 := h.read.cap _ (List.mem_singleton.2 rfl)
  have h2 := h.rcap _ (List.mem_singleton.2 rfl)
  unfold maxLen at h2
  simp only at h1 h2
  omega
theorem Read.toI {w : World} {B : Nat} {A : Option Addr} {c : Nat} {xs : List Int} (h : Read w B [⟨A, c, xs⟩] []) (hl : xs.length ≤ 1048576) (hB : B ≤ w.heap.size) : In w A c xs :=
  h.mem (r := ⟨A, c, xs⟩) (List.mem_singleton.2 rfl) hl hB


theorem Read.toN {w : World} {hi : Nat} {A B : Option Addr} {c k : Nat} {xs ys : List Int} (h : Read w hi [⟨A, c, xs⟩, ⟨B, k, ys⟩] []) (hl : xs.length ≤ 1048576) (hl' : ys.length ≤ 1048576) (hB : hi ≤ w.heap.size) : InN w A c xs B k ys :=
  ⟨h.mem (r := ⟨A, c, xs⟩) (by simp) hl hB, h.mem (r := ⟨B, k, ys⟩) (by simp) hl' hB⟩
end Go.Proofs.Ythipikllgpnlhaa

/- Contracts of Choose and CountAlternating, program and reference. -/
namespace Go.Proofs.Ythipikllgpnlhaa
set_option maxRecDepth 100000
open Go Go.RowKit

set_option maxHeartbeats 400000 in
theorem l1In_any (x lo hi : Int) (w : World) :
    Calls Try.prog 87 #[.int .i64 x, .int .i64 lo, .int .i64 hi] w fun e w' => e = .returned (.bool (decide (lo ≤ x ∧ x ≤ hi))) ∧ w = w' := by
  by_cases h1 : lo ≤ x
  · go_enter Try.func87, Try.ntmps87
    go_wp2
    go_ret
    exact ⟨ret_bool (by simp [h1]), rfl⟩
  · go_enter Try.func87, Try.ntmps87
    go_wp2
    go_ret
    exact ⟨ret_bool (by simp; omega), rfl⟩

def chooseL (n : Int) : Nat → Int
  | 0 => 1
  | k + 1 => wrap64 ((wrap64 (chooseL n k * (n - k))).tdiv (k + 1))

def chooseG (n k : Int) : Int := if 0 ≤ n ∧ n ≤ 40 ∧ 0 ≤ k ∧ k ≤ n then chooseL n k.toNat else 0

set_option maxHeartbeats 400000 in
theorem choose_spec (n k : Int) (w : World) :
    Calls Try.prog 65 #[.int .i64 n, .int .i64 k] w fun e w' => e = .returned (.int .i64 (chooseG n k)) ∧ w = w' := by
  by_cases h1 : 0 ≤ n ∧ n ≤ 40
  · by_cases h2 : 0 ≤ k ∧ k ≤ n
    · have d1 : decide (0 ≤ n ∧ n ≤ 40) = true := by simp [h1]
      have d2 : decide (0 ≤ k ∧ k ≤ n) = true := by simp [h2]
      obtain ⟨a1, a2⟩ := h1
      obtain ⟨a3, a4⟩ := h2
      have hv : chooseG n k = chooseL n k.toNat := by rw [chooseG, if_pos ⟨a1, a2, a3, a4⟩]
      obtain ⟨m, rfl⟩ := Int.eq_ofNat_of_zero_le a3
      rw [Int.toNat_natCast] at hv
      have HV := Lib.hid hv
      clear hv
      go_enter Try.func65, Try.ntmps65
      go_wp2_with (go_at_call 87; refine (l1In_any _ _ _ _).mono ?_; rintro e w' ⟨rfl, rfl⟩)
      go_loop [5, 6] (fun o i => ∃ j : Nat, j ≤ m ∧ i = .int .i64 j ∧ o = .int .i64 (chooseL n j)) (fun _ i => m - (intOf i).toNat)
      case atStart => exact ⟨0, Nat.zero_le _, rfl, rfl⟩
      case round =>
        obtain ⟨j, hj, rfl, rfl⟩ := hrel
        rcases Nat.lt_or_ge j m with hlt | hge
        · go_wp2
          go_round
          case rel => exact ⟨j + 1, by omega, by go_num, rfl⟩
          case measure => simp [intOf]; omega
        · obtain rfl : j = m := by omega
          go_wp2
          go_ret
          exact ⟨ret_int HV.out.symm, rfl⟩
    · have d1 : decide (0 ≤ n ∧ n ≤ 40) = true := by simp [h1]
      have d2 : decide (0 ≤ k ∧ k ≤ n) = false := by rw [decide_eq_false_iff_not]; exact h2
      have HV := Lib.hid (show chooseG n k = 0 by rw [chooseG, if_neg (by omega)])
      clear h1 h2
      go_enter Try.func65, Try.ntmps65
      go_wp2_with (go_at_call 87; refine (l1In_any _ _ _ _).mono ?_; rintro e w' ⟨rfl, rfl⟩)
      go_ret
      exact ⟨ret_int HV.out.symm, rfl⟩
  · have d1 : decide (0 ≤ n ∧ n ≤ 40) = false := by rw [decide_eq_false_iff_not]; exact h1
    have HV := Lib.hid (show chooseG n k = 0 by rw [chooseG, if_neg (by omega)])
    clear h1
    go_enter Try.func65, Try.ntmps65
    go_wp2_with (go_at_call 87; refine (l1In_any _ _ _ _).mono ?_; rintro e w' ⟨rfl, rfl⟩)
    go_ret
    exact ⟨ret_int HV.out.symm, rfl⟩

set_option maxHeartbeats 400000 in
theorem choose_impl (n k : Int) (w : World) :
    Calls Try.prog 64 #[.int .i64 n, .int .i64 k] w fun e w' => e = .returned (.int .i64 (chooseG n k)) ∧ w = w' := by
  by_cases h : 0 ≤ n ∧ n ≤ 40 ∧ 0 ≤ k ∧ k ≤ n
  · obtain ⟨a1, a2, a3, a4⟩ := h
    have hv : chooseG n k = chooseL n k.toNat := by rw [chooseG, if_pos ⟨a1, a2, a3, a4⟩]
    obtain ⟨m, rfl⟩ := Int.eq_ofNat_of_zero_le a3
    rw [Int.toNat_natCast] at hv
    have HV := Lib.hid hv
    clear hv
    go_enter Try.func64, Try.ntmps64
    go_wp2
    go_loop [5, 23] (fun o i => ∃ j : Nat, j ≤ m ∧ i = .int .i64 j ∧ o = .int .i64 (chooseL n j)) (fun _ i => m - (intOf i).toNat)
    case atStart => exact ⟨0, Nat.zero_le _, rfl, rfl⟩
    case round =>
      obtain ⟨j, hj, rfl, rfl⟩ := hrel
      rcases Nat.lt_or_ge j m with hlt | hge
      · go_wp2
        go_round
        case rel => exact ⟨j + 1, by omega, by go_num, rfl⟩
        case measure => simp [intOf]; omega
      · obtain rfl : j = m := by omega
        go_wp2
        go_ret
        exact ⟨ret_int HV.out.symm, rfl⟩
  · have HV := Lib.hid (show chooseG n k = 0 by rw [chooseG, if_neg h])
    by_cases h1 : n < 0
    · clear h
      go_enter Try.func64, Try.ntmps64
      go_wp2
      go_ret
      exact ⟨ret_int HV.out.symm, rfl⟩
    · by_cases h2 : 40 < n
      · clear h
        go_enter Try.func64, Try.ntmps64
        go_wp2
        go_ret
        exact ⟨ret_int HV.out.symm, rfl⟩
      · by_cases h3 : k < 0
        · clear h
          go_enter Try.func64, Try.ntmps64
          go_wp2
          go_ret
          exact ⟨ret_int HV.out.symm, rfl⟩
        · have h4 : n < k := by omega
          clear h
          go_enter Try.func64, Try.ntmps64
          go_wp2
          go_ret
          exact ⟨ret_int HV.out.symm, rfl⟩

end Go.Proofs.Ythipikllgpnlhaa

/- Contracts of CountAlternating, program and reference. -/
namespace Go.Proofs.Ythipikllgpnlhaa
set_option maxRecDepth 100000
open Go Go.RowKit

theorem quiet_eq {P : Program} {f : FuncId} {args : Array Value} {w : World} {n : Nat} {v : Value}
    (h : Calls P f args (w.drewN n) fun e w' => e = .returned v ∧ w.drewN n = w') : Calls P f args (w.drewN n) fun e w'' => e = .returned v ∧ ∃ m, w'' = w.drewN m :=
  h.mono fun _ _ ⟨he, hm⟩ => ⟨he, n, hm.symm⟩
theorem quiet_rq {P : Program} {f : FuncId} {args : Array Value} {w : World} {n : Nat} {v : Value}
    (h : Calls P f args (w.drewN n) (Rq (w.drewN n) v)) : Calls P f args (w.drewN n) fun e w'' => e = .returned v ∧ ∃ m, w'' = w.drewN m :=
  h.mono fun _ _ ⟨he, m, hm⟩ => ⟨he, n + m, by rw [hm, World.drewN_drewN]⟩

def altSum (a : List Int) (m : Nat) : Nat → Int
  | 0 => 0
  | k + 1 => wrap64 (altSum a m k + wrap64 (wrap64 (chooseG m k * (a[k]?.getD 0)) * (a[m - k]?.getD 0)))
def altRow : Nat → List Int
  | 0 => [1, 1]
  | 1 => [1, 1]
  | j + 2 => altRow (j + 1) ++ [wrap64 ((altSum (altRow (j + 1)) (j + 1) (j + 2)).tdiv 2)]
theorem altRow_succ (q : Nat) (h : 1 ≤ q) : altRow (q + 1) = altRow q ++ [wrap64 ((altSum (altRow q) q (q + 1)).tdiv 2)] := by
  obtain ⟨j, rfl⟩ : ∃ j, q = j + 1 := ⟨q - 1, by omega⟩
  rfl
theorem altRow_length : ∀ (q : Nat), 1 ≤ q → (altRow q).length = q + 1
  | 0, h => absurd h (by omega)
  | 1, _ => rfl
  | j + 2, _ => by rw [altRow_succ (j + 1) (by omega), List.length_append, altRow_length (j + 1) (by omega)]; rfl
def altG (n : Int) : Int := if 0 ≤ n ∧ n ≤ 12 then (altRow (n.toNat))[n.toNat]?.getD 0 else -1
theorem altG_eq (m : Nat) (hm : (m : Int) ≤ 12) (q : Nat) (hq : 1 ≤ q) (h1 : m ≤ q) (h2 : q = 1 ∨ q ≤ m) : altG m = (altRow q)[m]?.getD 0 := by
  rw [altG, if_pos ⟨by omega, hm⟩, Int.toNat_natCast]
  rcases h2 with rfl | h2
  · rcases Nat.eq_zero_or_pos m with rfl | h
    · rfl
    · obtain rfl : m = 1 := by omega
      rfl
  · obtain rfl : q = m := by omega
    rfl

set_option maxHeartbeats 800000 in
theorem alternating_impl (n : Int) (w : World) : Calls Try.prog 62 #[.int .i64 n] w (Rb w (.int .i64 (altG n))) := by
  obtain ⟨i0, hi, hz0, hz1, hz2⟩ := info_parts infoI
  by_cases h : 0 ≤ n ∧ n ≤ 12
  · obtain ⟨a1, a2⟩ := h
    obtain ⟨m, rfl⟩ := Int.eq_ofNat_of_zero_le a1
    go_enter Try.func62, Try.ntmps62
    go_wp2
    have hown0 : (w.alloc (.cells #[.int .i64 1, .int .i64 1] 3)).ownsRow w.heap.size 3 1 (.slice (some ⟨w.heap.size, 0, none⟩) 2 2) 2 ((altRow 1).map (Value.int .i64)) := World.ownsRow_lit w _ 2 (Nat.le_refl _) (by unfold maxLen; omega) rfl
    have hb0 := (Below.refl w.heap.size w).alloc (Nat.le_refl _) (.cells #[.int .i64 1, .int .i64 1] 3)
    go_loopw [3, 4] (fun v i wr => ∃ (q : Nat) (A : Option Addr) (c : Nat), 1 ≤ q ∧ (q = 1 ∨ q ≤ m) ∧ i = .int .i64 q ∧ v = .slice A (altRow q).length c ∧ wr.ownsRow w.heap.size 3 1 (.slice A (altRow q).length c) (altRow q).length ((altRow q).map (Value.int .i64)) ∧ Below w.heap.size w wr) (fun _ i _ => m - (intOf i).toNat)
    case atStart => exact ⟨1, _, _, Nat.le_refl _, .inl rfl, rfl, rfl, hown0, hb0⟩
    case round =>
      clear hown0 hb0
      obtain ⟨q, A, c, hq1, hq, rfl, rfl, hown, hb⟩ := hrel
      have hL1 : q + 1 ≤ (altRow q).length := Nat.le_of_eq (altRow_length q hq1).symm
      have hL2 : (altRow q).length ≤ q + 1 := Nat.le_of_eq (altRow_length q hq1)
      have hq12 : q ≤ 12 := by omega
      have hsz := hb.size
      obtain ⟨b, off, rfl, hbb, hc⟩ := (Rd.of_own hown) (by omega)
      have HC := Lib.hid hc
      have hq := Lib.hid hq
      clear hc
      rcases Nat.lt_or_ge q m with hlt | hge
      · go_wp2
        obtain ⟨wo, rfl⟩ : ∃ wo : World, wo = wr := ⟨_, rfl⟩
        go_loopw [5, 21] (fun s i wi => ∃ k : Nat, k ≤ q + 1 ∧ i = .int .i64 k ∧ s = .int .i64 (altSum (altRow q) q k) ∧ Dr wo wi) (fun _ i _ => q + 1 - (intOf i).toNat)
        case atStart => exact ⟨0, Nat.zero_le _, rfl, rfl, Dr.refl _⟩
        case round =>
          obtain ⟨k, hk, rfl, rfl, hd⟩ := hrel
          have hcd := HC.out
          obtain ⟨wi, rfl⟩ : ∃ wi : World, wi = wr := ⟨_, rfl⟩
          simp only [← hd.cell] at hcd
          rcases Nat.lt_or_ge k (q + 1) with hlt2 | hge2
          · have c1 := hcd k (by omega)
            have c2 := hcd (q - k) (by omega)
            clear hcd
            have hS := Lib.hid (show altSum (altRow q) q (k + 1) = wrap64 (altSum (altRow q) q k + wrap64 (wrap64 (chooseG q k * (altRow q)[k]) * (altRow q)[q - k])) by simp [altSum, show k < (altRow q).length by omega, show q - k < (altRow q).length by omega])
            have e1 : IntKind.i64.wrap ((q : Int) - (k : Int)) = (q : Int) - (k : Int) := IntWalk.i64_in _ (by omega)
            have e2 : 0 ≤ (q : Int) - (k : Int) := by omega
            have e2' : (k : Int) ≤ (q : Int) := by omega
            have e4 : q - k < (altRow q).length := by omega
            have e5 : ((q : Int) - (k : Int)) < ((altRow q).length : Int) := by omega
            have e3 : ((q : Int) - (k : Int)).toNat = q - k := by omega
            go_wp2
            go_quiet ((go_at_call 64; exact quiet_eq (choose_impl _ _ _)))
            go_wp2
            go_roundw
            case rel => exact ⟨k + 1, by omega, by go_num, by rw [hS.out], (by first | with_reducible assumption | with_reducible exact hd | with_reducible exact Dr.drewN hd _ | with_reducible exact Dr.drewN (Dr.drewN hd _) _ | with_reducible exact Dr.drew hd)⟩
            case measure => simp [intOf]; omega
          · obtain rfl : k = q + 1 := by omega
            have hS := Lib.hid (altRow_succ q hq1)
            have hszi : w.heap.size ≤ wi.heap.size := by rw [hd.heap]; exact hsz
            have hown := hd.own hown
            clear hcd
            go_wp2_with (at_builtin; refine wpList_append_own _ rfl _ _ 24 rfl (w.heap.size) 3 i0 (.int .i64 0) 1 8 Try.underlying24 hi hz0 hz1 hz2 rfl (by decide) _ _ _ rfl (World.ownsRow.alloc hown _) ⟨wi.heap.size, 0, none⟩ 1 1 [.int .i64 (wrap64 ((altSum (altRow q) q (q + 1)).tdiv 2))] rfl rfl (cell_one_new _ _ _) (by intro u hu; simp at hu; subst hu; rfl) (by unfold maxLen; omega) (by omega) (by simp; omega) ?_; intro v1 w1 hown1 hgrow1 _)
            have hb1 := ((below_dr hb hd).alloc hszi (Obj.cells #[Value.int .i64 (wrap64 ((altSum (altRow q) q (q + 1)).tdiv 2))] 3)).grown hgrow1 (by simp; omega) (by intro g hg; exact ((hown.lt g hg).1))
            have hS2 : w1.ownsRow w.heap.size 3 1 v1 (altRow (q + 1)).length ((altRow (q + 1)).map (Value.int .i64)) := by
              rw [hS.out]; simpa using hown1
            obtain ⟨A1, cc, rfl, _, _⟩ := own_shape hS2
            have hH1 := Lib.hid hS2
            have hH2 := Lib.hid hb1
            clear hS2 hown1 hgrow1 hb1 hown hb
            go_wp2
            go_roundw
            case rel => exact ⟨q + 1, A1, cc, by omega, .inr (by omega), by go_num, rfl, hH1.out, hH2.out⟩
            case measure => simp [intOf]; omega
      · have c1 := HC.out m (by omega)
        have hV := Lib.hid (show altG m = (altRow q)[m]'(by omega) by rw [altG_eq m a2 q hq1 (by omega) hq.out]; exact List.getElem?_eq_getElem _ ▸ rfl)
        go_wp2
        go_ret
        exact ⟨ret_int hV.out.symm, hb⟩
  · have HV := Lib.hid (show altG n = -1 by rw [altG, if_neg h])
    by_cases h1 : n < 0
    · clear h
      go_enter Try.func62, Try.ntmps62
      go_wp2
      go_ret
      exact ⟨ret_int HV.out.symm, Below.refl _ _⟩
    · have h2 : 12 < n := by omega
      clear h
      go_enter Try.func62, Try.ntmps62
      go_wp2
      go_ret
      exact ⟨ret_int HV.out.symm, Below.refl _ _⟩
set_option maxHeartbeats 800000 in
theorem alternating_spec (n : Int) (w : World) : Calls Try.prog 63 #[.int .i64 n] w (Rb w (.int .i64 (altG n))) := by
  obtain ⟨i0, hi, hz0, hz1, hz2⟩ := info_parts infoI
  by_cases h : 0 ≤ n ∧ n ≤ 12
  · have hd1 : decide (0 ≤ n ∧ n ≤ 12) = true := by simp [h]
    obtain ⟨a1, a2⟩ := h
    obtain ⟨m, rfl⟩ := Int.eq_ofNat_of_zero_le a1
    go_enter Try.func63, Try.ntmps63
    go_wp2_with (go_at_call 87; refine (l1In_any _ _ _ _).mono ?_; rintro e w' ⟨rfl, rfl⟩)
    clear hd1
    have hown0 : (w.alloc (.cells #[.int .i64 1, .int .i64 1] 3)).ownsRow w.heap.size 3 1 (.slice (some ⟨w.heap.size, 0, none⟩) 2 2) 2 ((altRow 1).map (Value.int .i64)) := World.ownsRow_lit w _ 2 (Nat.le_refl _) (by unfold maxLen; omega) rfl
    have hb0 := (Below.refl w.heap.size w).alloc (Nat.le_refl _) (.cells #[.int .i64 1, .int .i64 1] 3)
    go_loopw [3, 4] (fun v i wr => ∃ (q : Nat) (A : Option Addr) (c : Nat), 1 ≤ q ∧ (q = 1 ∨ q ≤ m) ∧ i = .int .i64 q ∧ v = .slice A (altRow q).length c ∧ wr.ownsRow w.heap.size 3 1 (.slice A (altRow q).length c) (altRow q).length ((altRow q).map (Value.int .i64)) ∧ Below w.heap.size w wr) (fun _ i _ => m - (intOf i).toNat)
    case atStart => exact ⟨1, _, _, Nat.le_refl _, .inl rfl, rfl, rfl, hown0, hb0⟩
    case round =>
      clear hown0 hb0
      obtain ⟨q, A, c, hq1, hq, rfl, rfl, hown, hb⟩ := hrel
      have hL1 : q + 1 ≤ (altRow q).length := Nat.le_of_eq (altRow_length q hq1).symm
      have hL2 : (altRow q).length ≤ q + 1 := Nat.le_of_eq (altRow_length q hq1)
      have hq12 : q ≤ 12 := by omega
      have hsz := hb.size
      obtain ⟨b, off, rfl, hbb, hc⟩ := (Rd.of_own hown) (by omega)
      have HC := Lib.hid hc
      have hq := Lib.hid hq
      clear hc
      rcases Nat.lt_or_ge q m with hlt | hge
      · go_wp2
        obtain ⟨wo, rfl⟩ : ∃ wo : World, wo = wr := ⟨_, rfl⟩
        go_loopw [5, 6] (fun s i wi => ∃ k : Nat, k ≤ q + 1 ∧ i = .int .i64 k ∧ s = .int .i64 (altSum (altRow q) q k) ∧ Dr wo wi) (fun _ i _ => q + 1 - (intOf i).toNat)
        case atStart => exact ⟨0, Nat.zero_le _, rfl, rfl, Dr.refl _⟩
        case round =>
          obtain ⟨k, hk, rfl, rfl, hd⟩ := hrel
          have hcd := HC.out
          obtain ⟨wi, rfl⟩ : ∃ wi : World, wi = wr := ⟨_, rfl⟩
          simp only [← hd.cell] at hcd
          rcases Nat.lt_or_ge k (q + 1) with hlt2 | hge2
          · have c1 := hcd k (by omega)
            have c2 := hcd (q - k) (by omega)
            clear hcd
            have hS := Lib.hid (show altSum (altRow q) q (k + 1) = wrap64 (altSum (altRow q) q k + wrap64 (wrap64 (chooseG q k * (altRow q)[k]) * (altRow q)[q - k])) by simp [altSum, show k < (altRow q).length by omega, show q - k < (altRow q).length by omega])
            have e1 : IntKind.i64.wrap ((q : Int) - (k : Int)) = (q : Int) - (k : Int) := IntWalk.i64_in _ (by omega)
            have e2 : 0 ≤ (q : Int) - (k : Int) := by omega
            have e2' : (k : Int) ≤ (q : Int) := by omega
            have e4 : q - k < (altRow q).length := by omega
            have e5 : ((q : Int) - (k : Int)) < ((altRow q).length : Int) := by omega
            have e3 : ((q : Int) - (k : Int)).toNat = q - k := by omega
            go_wp2
            go_quiet ((go_at_call 65; exact quiet_eq (choose_spec _ _ _)))
            go_wp2
            go_roundw
            case rel => exact ⟨k + 1, by omega, by go_num, by rw [hS.out], (by first | with_reducible assumption | with_reducible exact hd | with_reducible exact Dr.drewN hd _ | with_reducible exact Dr.drewN (Dr.drewN hd _) _ | with_reducible exact Dr.drew hd)⟩
            case measure => simp [intOf]; omega
          · obtain rfl : k = q + 1 := by omega
            have hS := Lib.hid (altRow_succ q hq1)
            have hszi : w.heap.size ≤ wi.heap.size := by rw [hd.heap]; exact hsz
            have hown := hd.own hown
            clear hcd
            go_wp2_with (at_builtin; refine wpList_append_own _ rfl _ _ 24 rfl (w.heap.size) 3 i0 (.int .i64 0) 1 8 Try.underlying24 hi hz0 hz1 hz2 rfl (by decide) _ _ _ rfl (World.ownsRow.alloc hown _) ⟨wi.heap.size, 0, none⟩ 1 1 [.int .i64 (wrap64 ((altSum (altRow q) q (q + 1)).tdiv 2))] rfl rfl (cell_one_new _ _ _) (by intro u hu; simp at hu; subst hu; rfl) (by unfold maxLen; omega) (by omega) (by simp; omega) ?_; intro v1 w1 hown1 hgrow1 _)
            have hb1 := ((below_dr hb hd).alloc hszi (Obj.cells #[Value.int .i64 (wrap64 ((altSum (altRow q) q (q + 1)).tdiv 2))] 3)).grown hgrow1 (by simp; omega) (by intro g hg; exact ((hown.lt g hg).1))
            have hS2 : w1.ownsRow w.heap.size 3 1 v1 (altRow (q + 1)).length ((altRow (q + 1)).map (Value.int .i64)) := by
              rw [hS.out]; simpa using hown1
            obtain ⟨A1, cc, rfl, _, _⟩ := own_shape hS2
            have hH1 := Lib.hid hS2
            have hH2 := Lib.hid hb1
            clear hS2 hown1 hgrow1 hb1 hown hb
            go_wp2
            go_roundw
            case rel => exact ⟨q + 1, A1, cc, by omega, .inr (by omega), by go_num, rfl, hH1.out, hH2.out⟩
            case measure => simp [intOf]; omega
      · have c1 := HC.out m (by omega)
        have hV := Lib.hid (show altG m = (altRow q)[m]'(by omega) by rw [altG_eq m a2 q hq1 (by omega) hq.out]; exact List.getElem?_eq_getElem _ ▸ rfl)
        go_wp2
        go_ret
        exact ⟨ret_int hV.out.symm, hb⟩
  · have HV := Lib.hid (show altG n = -1 by rw [altG, if_neg h])
    have hd1 : decide (0 ≤ n ∧ n ≤ 12) = false := by rw [decide_eq_false_iff_not]; exact h
    clear h
    go_enter Try.func63, Try.ntmps63
    go_wp2_with (go_at_call 87; refine (l1In_any _ _ _ _).mono ?_; rintro e w' ⟨rfl, rfl⟩)
    go_ret
    exact ⟨ret_int HV.out.symm, Below.refl _ _⟩

end Go.Proofs.Ythipikllgpnlhaa

/- Comparisons: cmp.Compare, slices.Compare, the reference's l2Before. -/
namespace Go.Proofs.Ythipikllgpnlhaa
set_option maxRecDepth 100000
open Go Go.RowKit

/-- The order of two numbers. -/
def cmpI (x y : Int) : Int := if x < y then -1 else if y < x then 1 else 0
/-- The order of two lists, letter by letter. -/
def cmpL : List Int → List Int → Int
  | [], [] => 0
  | [], _ :: _ => -1
  | _ :: _, [] => 1
  | x :: s, y :: t => if x < y then -1 else if y < x then 1 else cmpL s t
theorem cmpL_drop (xs ys : List Int) (k : Nat) (h : xs.take k = ys.take k) (hk : k ≤ xs.length) (hk' : k ≤ ys.length) : cmpL xs ys = cmpL (xs.drop k) (ys.drop k) := by
  induction k generalizing xs ys with
  | zero => simp
  | succ k ih =>
    match xs, ys with
    | [], _ => simp at hk
    | _ :: _, [] => simp at hk'
    | x :: s, y :: t =>
      simp only [List.take_succ_cons, List.cons.injEq] at h
      obtain ⟨rfl, h⟩ := h
      simp only [cmpL, Int.lt_irrefl, if_false, List.drop_succ_cons]
      exact ih s t h (by simpa using hk) (by simpa using hk')
theorem cmpL_at (xs ys : List Int) (k : Nat) (h : xs.take k = ys.take k) (hk : k < xs.length) (hk' : k < ys.length) (hne : xs[k] ≠ ys[k]) : cmpL xs ys = cmpI xs[k] ys[k] := by
  rw [cmpL_drop xs ys k h (by omega) (by omega), List.drop_eq_getElem_cons hk, List.drop_eq_getElem_cons hk', cmpL, cmpI]
  split
  · rfl
  · split
    · rfl
    · omega

theorem isNaN_any (x : Int) (w : World) : Calls Try.prog 145 #[.int .i64 x] w fun e w' => e = .returned (.bool false) ∧ w = w' := by
  go_enter Try.func145, Try.ntmps145
  go_wp2
  go_ret
  exact ⟨ret_bool (by simp), rfl⟩
theorem compare_any (x y : Int) (w : World) : Calls Try.prog 126 #[.int .i64 x, .int .i64 y] w fun e w' => e = .returned (.int .i64 (cmpI x y)) ∧ w = w' := by
  rcases Int.lt_or_le x y with h | h
  · have H := Lib.hid (show cmpI x y = -1 by unfold cmpI; rw [if_pos h])
    have d1 : decide (x < y) = true := decide_eq_true h
    clear h
    go_enter Try.func126, Try.ntmps126
    go_wp2_with (go_at_call 145; refine (isNaN_any _ _).mono ?_; rintro e w' ⟨rfl, rfl⟩)
    go_ret
    exact ⟨ret_int H.out.symm, rfl⟩
  · have d1 : decide (x < y) = false := decide_eq_false (by omega)
    rcases Int.lt_or_le y x with h' | h'
    · have H := Lib.hid (show cmpI x y = 1 by unfold cmpI; rw [if_neg (by omega), if_pos h'])
      have d2 : decide (y < x) = true := decide_eq_true h'
      have d2' : decide (x > y) = true := decide_eq_true h'
      clear h h'
      go_enter Try.func126, Try.ntmps126
      go_wp2_with (go_at_call 145; refine (isNaN_any _ _).mono ?_; rintro e w' ⟨rfl, rfl⟩)
      go_ret
      exact ⟨ret_int H.out.symm, rfl⟩
    · have H := Lib.hid (show cmpI x y = 0 by unfold cmpI; rw [if_neg (by omega), if_neg (by omega)])
      have d2 : decide (y < x) = false := decide_eq_false (by omega)
      have d2' : decide (x > y) = false := decide_eq_false (by omega)
      clear h h'
      go_enter Try.func126, Try.ntmps126
      go_wp2_with (go_at_call 145; refine (isNaN_any _ _).mono ?_; rintro e w' ⟨rfl, rfl⟩)
      go_ret
      exact ⟨ret_int H.out.symm, rfl⟩
theorem cmpI_zero (x y : Int) : cmpI x y = 0 ↔ x = y := by
  unfold cmpI; split
  · constructor <;> intro h <;> omega
  · split
    · constructor <;> intro h <;> omega
    · constructor <;> intro h <;> omega

set_option maxHeartbeats 1000000 in
theorem compareS_any (A A' : Option Addr) (c c' n m : Nat) (xs ys : List Int) (w : World) (hn : xs.length = n) (hm : ys.length = m) (hl : n ≤ 4611686018427387904) (hl' : m ≤ 4611686018427387904)
    (hx : Rd (Value.int .i64) w w.heap.size A xs) (hy : Rd (Value.int .i64) w w.heap.size A' ys) :
    Calls Try.prog 82 #[.slice A n c, .slice A' m c'] w fun e w' => e = .returned (.int .i64 (cmpL xs ys)) ∧ w = w' := by
  subst hn hm
  go_enter Try.func82, Try.ntmps82
  go_wp2
  go_loop [11] (fun i => ∃ k : Nat, k ≤ xs.length ∧ k ≤ ys.length ∧ i = .int .i64 k ∧ xs.take k = ys.take k) (fun i => xs.length - (intOf i).toNat)
  case atStart => exact ⟨0, Nat.zero_le _, Nat.zero_le _, rfl, rfl⟩
  case round =>
    obtain ⟨k, hk, hk', rfl, ht⟩ := hrel
    by_cases hlt : k < xs.length
    · by_cases hlt' : k < ys.length
      · obtain ⟨b, off, rfl, _, hc⟩ := hx (by omega)
        obtain ⟨b', off', rfl, _, hc'⟩ := hy (by omega)
        have c1 := hc k hlt
        have c2 := hc' k hlt'
        clear hc hc'
        have HT := Lib.hid ht
        clear ht
        by_cases he : xs[k] = ys[k]
        · have hz : (cmpI xs[k] ys[k] != 0) = false := by simp [(cmpI_zero _ _).2 he]
          have HE := Lib.hid he
          clear he
          go_wp2_with (go_at_call 126; refine (compare_any _ _ _).mono ?_; rintro e w' ⟨rfl, rfl⟩)
          go_round
          case rel => exact ⟨k + 1, by omega, by omega, by go_num, by rw [List.take_succ_eq_append_getElem hlt, List.take_succ_eq_append_getElem hlt', HT.out, HE.out]⟩
          case measure => simp [intOf]; omega
        · have hz : (cmpI xs[k] ys[k] != 0) = true := by simp; exact fun h => he ((cmpI_zero _ _).1 h)
          have HC := Lib.hid (cmpL_at xs ys k HT.out hlt hlt' he)
          clear he
          go_wp2_with (go_at_call 126; refine (compare_any _ _ _).mono ?_; rintro e w' ⟨rfl, rfl⟩)
          go_ret
          exact ⟨ret_int HC.out.symm, rfl⟩
      · obtain ⟨b, off, rfl, _, hc⟩ := hx (by omega)
        have c1 := hc k hlt
        have HC := Lib.hid (show cmpL xs ys = 1 by
          rw [cmpL_drop xs ys k ht hk hk', List.drop_eq_getElem_cons hlt, (show ys.drop k = [] from List.drop_eq_nil_of_le (by omega))]; rfl)
        clear hc ht
        go_wp2
        go_ret
        exact ⟨ret_int HC.out.symm, rfl⟩
    · by_cases hlt' : k < ys.length
      · have HC := Lib.hid (show cmpL xs ys = -1 by
          rw [cmpL_drop xs ys k ht hk hk', List.drop_eq_getElem_cons hlt', (show xs.drop k = [] from List.drop_eq_nil_of_le (by omega))]; rfl)
        have d1 : decide ((xs.length : Int) < ys.length) = true := decide_eq_true (by omega)
        clear ht
        go_wp2
        go_ret
        exact ⟨ret_int HC.out.symm, rfl⟩
      · have HC := Lib.hid (show cmpL xs ys = 0 by
          rw [cmpL_drop xs ys k ht hk hk', (show xs.drop k = [] from List.drop_eq_nil_of_le (by omega)), (show ys.drop k = [] from List.drop_eq_nil_of_le (by omega))]; rfl)
        have d1 : decide ((xs.length : Int) < ys.length) = false := decide_eq_false (by omega)
        clear ht
        go_wp2
        go_ret
        exact ⟨ret_int HC.out.symm, rfl⟩
theorem compareS_q (A A' : Option Addr) (c c' n m : Nat) (xs ys : List Int) (w : World) (hn : xs.length = n) (hm : ys.length = m) (hl : n ≤ 4611686018427387904) (hl' : m ≤ 4611686018427387904)
    (hx : Rd (Value.int .i64) w w.heap.size A xs) (hy : Rd (Value.int .i64) w w.heap.size A' ys) :
    Calls Try.prog 82 #[.slice A n c, .slice A' m c'] w (Rq w (.int .i64 (cmpL xs ys))) :=
  (compareS_any A A' c c' n m xs ys w hn hm hl hl' hx hy).mono fun _ _ ⟨he, hw⟩ => ⟨he, by subst hw; exact Dr.refl _⟩

/-- The reference's order: the shorter first, then letter by letter. -/
def before (xs ys : List Int) : Bool := if xs.length = ys.length then decide (cmpL xs ys < 0) else decide (xs.length < ys.length)
set_option maxHeartbeats 1000000 in
theorem l2Before_any (A A' : Option Addr) (c c' n m : Nat) (xs ys : List Int) (w : World) (hn : xs.length = n) (hm : ys.length = m) (hl : n ≤ 4611686018427387904) (hl' : m ≤ 4611686018427387904)
    (hx : Rd (Value.int .i64) w w.heap.size A xs) (hy : Rd (Value.int .i64) w w.heap.size A' ys) :
    Calls Try.prog 88 #[.slice A n c, .slice A' m c'] w (Rq w (.bool (before xs ys))) := by
  subst hn hm
  by_cases hne : xs.length = ys.length
  · have HB := Lib.hid (show before xs ys = decide (cmpL xs ys < 0) by unfold before; rw [if_pos hne])
    go_enter Try.func88, Try.ntmps88
    have hb : ((xs.length : Int) != (ys.length : Int)) = false := by simp [hne]
    have HN := Lib.hid hne
    clear hne
    go_wp2
    go_loopw [5] (fun i wr => ∃ k : Nat, k ≤ xs.length ∧ i = .int .i64 k ∧ xs.take k = ys.take k ∧ Dr w wr) (fun i _ => xs.length - (intOf i).toNat)
    case atStart => exact ⟨0, Nat.zero_le _, rfl, rfl, Dr.refl _⟩
    case round =>
      obtain ⟨k, hk, rfl, ht, hd⟩ := hrel
      by_cases hlt : k < xs.length
      · have hlt' : k < ys.length := by have := HN.out; omega
        obtain ⟨b, off, rfl, _, hc⟩ := hx (by omega)
        obtain ⟨b', off', rfl, _, hc'⟩ := hy (by omega)
        have c1 : wr.cell? ⟨b, off + k, none⟩ = some (.int .i64 xs[k]) := (hd.cell _).trans (hc k hlt)
        have c2 : wr.cell? ⟨b', off' + k, none⟩ = some (.int .i64 ys[k]) := (hd.cell _).trans (hc' k hlt')
        have HT := Lib.hid ht
        clear hc hc' ht
        by_cases he : xs[k] = ys[k]
        · have hz : (xs[k] != ys[k]) = false := by simp [he]
          have HE := Lib.hid he
          clear he
          go_wp2
          go_quiet (fail)
          go_wp2
          go_roundw
          case rel => exact ⟨k + 1, by omega, by go_num, by rw [List.take_succ_eq_append_getElem hlt, List.take_succ_eq_append_getElem hlt', HT.out, HE.out], (by first | with_reducible assumption | with_reducible exact hd | with_reducible exact Dr.drewN hd _ | with_reducible exact Dr.drewN (Dr.drewN hd _) _ | with_reducible exact Dr.drew hd)⟩
          case measure => simp [intOf]; omega
        · have hz : (xs[k] != ys[k]) = true := by simp [he]
          have HC := Lib.hid (show before xs ys = decide (xs[k] < ys[k]) by
            rw [HB.out, cmpL_at xs ys k HT.out hlt hlt' he, Bool.eq_iff_iff, decide_eq_true_eq, decide_eq_true_eq]
            unfold cmpI; split
            · constructor <;> intro h <;> omega
            · split
              · constructor <;> intro h <;> omega
              · constructor <;> intro h <;> omega)
          clear he
          go_wp2
          go_quiet (fail)
          go_wp2
          go_quiet (fail)
          go_wp2
          go_ret
          exact ⟨ret_bool HC.out.symm, (by first | with_reducible assumption | with_reducible exact hd | with_reducible exact Dr.drewN hd _ | with_reducible exact Dr.drewN (Dr.drewN hd _) _ | with_reducible exact Dr.drew hd)⟩
      · have HC := Lib.hid (show before xs ys = false by
          have := HN.out
          rw [HB.out, cmpL_drop xs ys k ht hk (by omega), (show xs.drop k = [] from List.drop_eq_nil_of_le (by omega)), (show ys.drop k = [] from List.drop_eq_nil_of_le (by omega))]; rfl)
        clear ht
        go_wp2
        go_ret
        exact ⟨ret_bool HC.out.symm, hd⟩
  · have HB := Lib.hid (show before xs ys = decide (xs.length < ys.length) by unfold before; rw [if_neg hne])
    have hb : ((xs.length : Int) != (ys.length : Int)) = true := by simp; omega
    go_enter Try.func88, Try.ntmps88
    go_wp2
    go_ret
    exact ⟨ret_bool (by rw [HB.out]), Dr.refl _⟩
end Go.Proofs.Ythipikllgpnlhaa
