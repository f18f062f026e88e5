/- Words for memory: what a slice reads as, what a call owns; plain lemmas on them; no program in sight. Written for this claim, after the guide's page of words. -/
import Derived.WalkKit
import Derived.Handy
import Derived.BigQuiet
import Derived.Deep.QuietTactic
import Derived.Deep.LoopGhost
import Derived.Deep.DeepMust
import Derived.Deep.DeepFit
import Derived.Deep.Draws
import Derived.Deep.AppendLies
import Derived.Lib.Hide
import Derived.Maps.AppendAt
import Derived.WalkSpells
import Derived.WalkLawsBesides
namespace Go.Proofs.Ythipikllgpnlhaa
set_option maxRecDepth 100000
open Go Go.RowKit

/-- The slice address A reads as the list xs, each element through f, below block B. -/
def Rd {α : Type} (f : α → Value) (w : World) (B : Nat) (A : Option Addr) (xs : List α) : Prop :=
  0 < xs.length → ∃ b off, A = some ⟨b, off, none⟩ ∧ b < B ∧ ∀ j (h : j < xs.length), w.cell? ⟨b, off + j, none⟩ = some (f xs[j])

section
variable {α : Type} {f : α → Value} {w w' : World} {B B' : Nat} {A : Option Addr} {xs : List α}
theorem Rd.nil_ : Rd f w B A [] := fun h => absurd h (by simp)
theorem Rd.keep (h : Rd f w B A xs) (hk : ∀ p : Addr, p.block < B → w'.cell? p = w.cell? p) : Rd f w' B A xs := fun h0 => by
  obtain ⟨b, off, e, hb, hc⟩ := h h0
  exact ⟨b, off, e, hb, fun j hj => (hk ⟨b, off + j, none⟩ hb).trans (hc j hj)⟩
theorem Rd.more (h : Rd f w B A xs) (hB : B ≤ B') : Rd f w B' A xs := fun h0 => by
  obtain ⟨b, off, e, hb, hc⟩ := h h0
  exact ⟨b, off, e, by omega, hc⟩
theorem Rd.below (h : Rd f w B A xs) (hb : Below B w w') : Rd f w' B A xs := h.keep fun _ hp => hb.cell hp
theorem Rd.next (h : Rd f w w.heap.size A xs) (hb : Below w.heap.size w w') : Rd f w' w'.heap.size A xs := (h.below hb).more hb.size
theorem Rd.drewN (h : Rd f w B A xs) (k : Nat) : Rd f (w.drewN k) B A xs := h
theorem Rd.drew (h : Rd f w B A xs) : Rd f w.drew B A xs := h
theorem Rd.alloc (h : Rd f w B A xs) (hB : B ≤ w.heap.size) (o : Obj) : Rd f (w.alloc o) B A xs := h.keep fun p hp => World.cell?_alloc_lt w o p (by omega)
theorem Rd.setCell (h : Rd f w B A xs) {p : Addr} (hB : B ≤ p.block) (u : Value) : Rd f (w.setCell p u) B A xs :=
  h.keep fun q hq => World.cell?_setCell_other w p q u (fun e => by subst e; omega)
theorem Rd.grown (h : Rd f w B A xs) {row : Option Nat} (hg : w.grownBy w' row) (hB : B ≤ w.heap.size) (hr : ∀ g, row = some g → B ≤ g) : Rd f w' B A xs :=
  h.keep fun p hp => World.cell?_of_block (hg.block p.block (by omega) (fun e => by have := hr _ e.symm; omega))
theorem Rd.take (h : Rd f w B A xs) (k : Nat) : Rd f w B A (xs.take k) := fun h0 => by
  have hl : (xs.take k).length ≤ xs.length := by simp; omega
  obtain ⟨b, off, e, hb, hc⟩ := h (by omega)
  exact ⟨b, off, e, hb, fun j hj => by rw [hc j (by omega)]; simp⟩
theorem Rd.drop (h : Rd f w B A xs) {k cap : Nat} (hk : k ≤ xs.length) (hc : xs.length ≤ cap) :
    Rd f w B (if cap = k then A else A.map (·.add (k * 1))) (xs.drop k) := fun h0 => by
  simp only [List.length_drop] at h0
  obtain ⟨b, off, rfl, hb, hcell⟩ := h (by omega)
  rw [if_neg (by omega)]
  refine ⟨b, off + k, by unfold Addr.add; by_cases h : k = 0 <;> simp [h], hb, fun j hj => ?_⟩
  simp only [List.length_drop] at hj
  rw [Nat.add_assoc, hcell (k + j) (by omega)]
  simp
end

theorem own_len {w : World} {base e n : Nat} {v : Value} {vs : List Value} (h : w.ownsRow base e 1 v n vs) : vs.length = n := by have := h.1; omega

/-- What the call owns, read. -/
theorem Rd.of_own {α : Type} {f : α → Value} {w : World} {base e c : Nat} {A : Option Addr} {xs : List α}
    (h : w.ownsRow base e 1 (.slice A xs.length c) xs.length (xs.map f)) : Rd f w w.heap.size A xs := by
  intro hn
  obtain ⟨g, cap, hv, _, hlt⟩ := h.form hn
  have hA : A = some ⟨g, 0, none⟩ := by injection hv
  subst hA
  refine ⟨g, 0, rfl, hlt, fun j hj => ?_⟩
  have := h.cells (g := g) rfl j (f xs[j]) (by simp [hj])
  rw [Addr.add_lit] at this
  exact this

/-- The slice value's shape, from what is owned. -/
theorem own_shape {w : World} {base e n : Nat} {v : Value} {vs : List Value} (h : w.ownsRow base e 1 v n vs) : ∃ A c, v = .slice A n c ∧ n ≤ c ∧ c ≤ maxLen := by
  rcases h.2 with ⟨rfl, rfl⟩ | ⟨g, cap, cur, rfl, _, _, hc, hm, _⟩
  · exact ⟨none, 0, rfl, Nat.le_refl _, Nat.zero_le _⟩
  · exact ⟨_, _, rfl, hc, hm⟩

/-- A call's result: a slice of its own that reads as ys (through f, cells of type e); nothing that was there has turned. -/
def Ret {α : Type} (f : α → Value) (e : TypeId) (w : World) (ys : List α) (en : Ending) (w' : World) : Prop :=
  ∃ A c, en = .returned (.slice A ys.length c) ∧ ys.length ≤ c ∧ c ≤ maxLen ∧ w'.ownsRow w.heap.size e 1 (.slice A ys.length c) ys.length (ys.map f) ∧ Below w.heap.size w w'

/-- The world moved on by draws alone. -/
def Dr (w w' : World) : Prop := ∃ n, w' = w.drewN n
theorem Dr.refl (w : World) : Dr w w := ⟨0, rfl⟩
theorem Dr.of (w : World) (n : Nat) : Dr w (w.drewN n) := ⟨n, rfl⟩
theorem Dr.drewN {w w' : World} (h : Dr w w') (m : Nat) : Dr w (w'.drewN m) := by
  obtain ⟨n, rfl⟩ := h
  exact ⟨n + m, World.drewN_drewN _ _ _⟩
theorem Dr.drew {w w' : World} (h : Dr w w') : Dr w w'.drew := h.drewN 1
theorem Dr.of2 (w : World) (n m : Nat) : Dr w ((w.drewN n).drewN m) := (Dr.of w n).drewN m
theorem Dr.of3 (w : World) (n m k : Nat) : Dr w (((w.drewN n).drewN m).drewN k) := (Dr.of2 w n m).drewN k
theorem Dr.trans {a b c : World} (h : Dr a b) (k : Dr b c) : Dr a c := by
  obtain ⟨n, rfl⟩ := k
  exact h.drewN n
theorem Dr.heap {w w' : World} (h : Dr w w') : w'.heap = w.heap := by obtain ⟨n, rfl⟩ := h; rfl
theorem Dr.cell {w w' : World} (h : Dr w w') (a : Addr) : w'.cell? a = w.cell? a := by obtain ⟨n, rfl⟩ := h; rfl
theorem Dr.frozen {w w' : World} (h : Dr w w') (a : Addr) : w'.frozen? a = w.frozen? a := by obtain ⟨n, rfl⟩ := h; rfl
theorem Dr.own {w w' : World} (h : Dr w w') {base e n : Nat} {v : Value} {vs : List Value} (ho : w.ownsRow base e 1 v n vs) : w'.ownsRow base e 1 v n vs := by obtain ⟨n, rfl⟩ := h; exact ho
theorem Rd.dr {α : Type} {f : α → Value} {w w' : World} {B : Nat} {A : Option Addr} {xs : List α} (h : Rd f w B A xs) (hd : Dr w w') : Rd f w' B A xs := by obtain ⟨n, rfl⟩ := hd; exact h
theorem below_dr {B : Nat} {a w w' : World} (h : Below B a w) (hd : Dr w w') : Below B a w' := by obtain ⟨n, rfl⟩ := hd; exact ⟨h.os, h.tape, h.output, h.size, h.block⟩
/-- A call's result that is one value, the world moved on by draws alone. -/
def Rq (w : World) (v : Value) (en : Ending) (w' : World) : Prop := en = .returned v ∧ Dr w w'
/-- A call's result that is one value; new blocks may have come. -/
def Rb (w : World) (v : Value) (en : Ending) (w' : World) : Prop := en = .returned v ∧ Below w.heap.size w w'

theorem Rq.b {w w' : World} {v : Value} {en : Ending} (h : Rq w v en w') : Rb w v en w' := by
  exact ⟨h.1, below_dr (Below.refl _ _) h.2⟩

/-- A goal laid behind a name, so that the walk stops there. -/
theorem hold {p : Prop} (h : Hid p) : p := h

theorem ret_bool {a b : Bool} (h : a = b) : Ending.returned (.bool a) = .returned (.bool b) := by rw [h]
theorem ret_int {k : IntKind} {a b : Int} (h : a = b) : Ending.returned (.int k a) = .returned (.int k b) := by rw [h]

theorem below_none {w w' : World} (h : w.grownBy w' none) : Below w.heap.size w w' := ⟨h.os, h.tape, h.output, h.size, fun k hk => h.block k hk (by simp)⟩
theorem none_below {w w' : World} (h : Below w.heap.size w w') : w.grownBy w' none := ⟨h.os, h.tape, h.output, h.size, fun k hk _ => h.block k hk⟩
theorem grown_trans {a b c : World} {row : Option Nat} (h : a.grownBy b row) (k : b.grownBy c row) : a.grownBy c row :=
  ⟨k.os.trans h.os, k.tape.trans h.tape, k.output.trans h.output, Nat.le_trans h.size k.size, fun i hi hr => (k.block i (Nat.lt_of_lt_of_le hi h.size) hr).trans (h.block i hi hr)⟩
theorem own_mono {w : World} {base base' e n : Nat} {v : Value} {vs : List Value} (h : w.ownsRow base e 1 v n vs) (hb : base' ≤ base) : w.ownsRow base' e 1 v n vs := by
  refine ⟨h.1, ?_⟩
  rcases h.2 with h2 | ⟨g, cap, cur, hv, hg, r⟩
  · exact .inl h2
  · exact .inr ⟨g, cap, cur, hv, by omega, r⟩
theorem own_below {w w' : World} {base e n : Nat} {v : Value} {vs : List Value} (h : w.ownsRow base e 1 v n vs) (hb : Below w.heap.size w w') : w'.ownsRow base e 1 v n vs :=
  h.kept (row := none) (none_below hb) (by cases hv : v.ownBlock <;> simp)
/-- A slice value of another block than g. -/
theorem own_other {w : World} {base e n g : Nat} {v : Value} {vs : List Value} (h : w.ownsRow base e 1 v n vs) (hg : g < base) : v.ownBlock = none ∨ v.ownBlock ≠ some g := by
  rcases hv : v.ownBlock with _ | k
  · exact .inl rfl
  · have := (h.lt k hv).1
    exact .inr (by simp; omega)

/-- What a call is handed: a list that is read, of no more than 2^20 elements. -/
structure In (w : World) (A : Option Addr) (c : Nat) (xs : List Int) : Prop where
  len : xs.length ≤ 1048576
  cap : xs.length ≤ c
  rd : Rd (Value.int .i64) w w.heap.size A xs
theorem In.next {w w' : World} {A : Option Addr} {c : Nat} {xs : List Int} (h : In w A c xs) (hb : Below w.heap.size w w') : In w' A c xs := ⟨h.len, h.cap, h.rd.next hb⟩
theorem In.dr {w w' : World} {A : Option Addr} {c : Nat} {xs : List Int} (h : In w A c xs) (hd : Dr w w') : In w' A c xs :=
  ⟨h.len, h.cap, by rw [show w'.heap.size = w.heap.size by rw [hd.heap]]; exact h.rd.dr hd⟩
/-- 'p[:k]', the address as the walk writes it. -/
theorem In.take {w : World} {A : Option Addr} {c : Nat} {xs : List Int} (h : In w A c xs) (k : Nat) : In w A c (xs.take k) :=
  ⟨by have := h.len; simp; omega, by have := h.cap; simp; omega, h.rd.take k⟩
theorem own_caps {w : World} {base e n c : Nat} {A : Option Addr} {vs : List Value} (h : w.ownsRow base e 1 (.slice A n c) n vs) : n ≤ c ∧ c ≤ maxLen := by
  obtain ⟨_, _, he, h1, h2⟩ := own_shape h
  injection he with _ _ hcc
  subst hcc
  exact ⟨h1, h2⟩

/-- The address of 's[k:]' at capacity c: Go does not point behind an array's end. Kept behind a name. -/
def cutA (A : Option Addr) (c k : Nat) : Option Addr := if c = k then A else A.map (·.add (k * 1))
theorem Rd.cut {α : Type} {f : α → Value} {w : World} {B : Nat} {A : Option Addr} {xs : List α} (h : Rd f w B A xs) {k c : Nat} (hk : k ≤ xs.length) (hc : xs.length ≤ c) : Rd f w B (cutA A c k) (xs.drop k) := Rd.drop h hk hc
/-- 's[i:]', 's[i:j]', the address behind the name. -/
theorem run_cut {P : Program} {t : TypeId} (ht : P.underlying t = some (.slice (P.elem t))) (hs : ∀ w : World, (sizeOf (P.elem t)).run P w = .ok 1 w) (A : Option Addr) (n c k : Nat) (i : Int) (hi : i = k) (hk : k ≤ n) (w : World) :
    (Instr.slice t (.slice A n c) (some (.int .i64 i)) none none).run P w = .ok (.slice (cutA A c k) (n - k) (c - k)) w := by
  subst hi
  rw [run_slice_l w t A n c ht .i64 k (by omega) (by omega), hs w]
  simp [Result.andThen, sliced, cutA]
theorem run_cut2 {P : Program} {t : TypeId} (ht : P.underlying t = some (.slice (P.elem t))) (hs : ∀ w : World, (sizeOf (P.elem t)).run P w = .ok 1 w) (A : Option Addr) (n c k m : Nat) (i j : Int) (hi : i = k) (hj : j = m) (hk : k ≤ m) (hm : m ≤ c) (w : World) :
    (Instr.slice t (.slice A n c) (some (.int .i64 i)) (some (.int .i64 j)) none).run P w = .ok (.slice (cutA A c k) (m - k) (c - k)) w := by
  subst hi hj
  rw [run_slice_lh w t A n c ht .i64 .i64 k m (by omega) (by omega) (by omega), hs w]
  simp [Result.andThen, sliced, cutA]
end Go.Proofs.Ythipikllgpnlhaa
