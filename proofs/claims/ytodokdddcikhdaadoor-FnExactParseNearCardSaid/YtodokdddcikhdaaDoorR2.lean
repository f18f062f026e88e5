/- The laws' own helpers in the words of R1: toIntS, eqIntS, markIntS, heldIntS and those for a Near. -/
import Derived.Test.YtodokdddcikhdaaDoorN2
namespace Go.Proofs.YtodokdddcikhdaaDoor
set_option maxRecDepth 100000
open Go Go.RowKit

/-- What an argument reads as when the law begins. -/
structure Arg (w : World) (rs : List Row) (os : List Outer) : Prop where
  read : Read w w.heap.size rs os
  rcap : ∀ r ∈ rs, r.c ≤ maxLen
  ocap : ∀ o ∈ os, o.c ≤ maxLen
theorem Arg.self {w : World} {rs : List Row} {os : List Outer} (h : Arg w rs os) : Arg w rs os := h
theorem Arg.below {w w' : World} {rs : List Row} {os : List Outer} (h : Arg w rs os) (hb : Below w.heap.size w w') : Arg w' rs os := ⟨(h.read.below hb).more hb.size, h.rcap, h.ocap⟩
theorem Arg.lenI {w : World} {A : Option Addr} {c : Nat} {xs : List Int} (h : Arg w [⟨A, c, xs⟩] []) : xs.length ≤ 9223372036854775807 := by
  have h1 := h.read.cap _ (List.mem_singleton.2 rfl)
  have h2 := h.rcap _ (List.mem_singleton.2 rfl)
  unfold maxLen at h2
  simp only at h1 h2
  omega
theorem Read.toI {w : World} {B : Nat} {A : Option Addr} {c : Nat} {xs : List Int} (h : Read w B [⟨A, c, xs⟩] []) (hl : xs.length ≤ 1048576) (hB : B ≤ w.heap.size) : In w A c xs :=
  h.mem (r := ⟨A, c, xs⟩) (List.mem_singleton.2 rfl) hl hB

theorem eqI_R (A A' : Option Addr) (c c' : Nat) (xs : List Int) (w : World) (h : In w A c xs) (h' : In w A' c' xs) :
    Calls Tryd.prog 14 #[.slice A xs.length c, .slice A' xs.length c'] w (Rb w (.bool true)) :=
  eqIntS_same A A' c c' xs w (by have := h.len; omega) h.rd h'.rd
theorem markI_R (A : Option Addr) (c : Nat) (xs : List Int) (lo hi : Nat) (q : Int) (w : World) (hq : 0 ≤ q ∧ q ≤ 8388608) (hx : xs.length ≤ 1048576) (_hh : hi ≤ w.heap.size) (h : Own w lo hi [⟨A, c, xs⟩] []) :
    Calls Tryd.prog 15 #[.slice A xs.length c, .int .i64 q] w fun e w' => e = .returned (.int .i64 (q + (xs.length : Nat))) ∧ Own w' lo hi [⟨A, c, marks q xs.length⟩] [] ∧ Span lo hi w w' := by
  have hr0 : w.ownsRow lo 3 1 (.slice A xs.length c) xs.length (xs.map (Value.int .i64)) := h.rows ⟨A, c, xs⟩ (List.mem_singleton.2 rfl)
  refine (markIntS_any A c lo xs q w (by omega) (by omega) hr0).mono fun e w' ⟨he, om, hg⟩ => ⟨he, ?_, ?_⟩
  · exact Own.mark (rs1 := []) h hg om
  · exact Span.of_grown hg fun g hgg => ⟨(hr0.lt g hgg).1, h.lt ⟨A, c, xs⟩ (List.mem_singleton.2 rfl) g hgg⟩
theorem heldI_R (A : Option Addr) (c hi : Nat) (q : Int) (n : Nat) (w : World) (hq : 0 ≤ q ∧ q ≤ 8388608) (hx : n ≤ 1048576) (hh : hi ≤ w.heap.size) (h : Read w hi [⟨A, c, marks q n⟩] []) :
    Calls Tryd.prog 16 #[.slice A n c, .int .i64 q] w (Rb w (.int .i64 (q + (n : Nat)))) :=
  (heldIntS_marks A c q n w (by omega) ((h.rd _ (List.mem_singleton.2 rfl)).more hh)).mono fun _ _ ⟨he, hw⟩ => ⟨he, by subst hw; exact Below.refl _ _⟩

theorem Read.toN {w : World} {hi : Nat} {A B : Option Addr} {c k : Nat} {xs ys : List Int} (h : Read w hi [⟨A, c, xs⟩, ⟨B, k, ys⟩] []) (hl : xs.length ≤ 1048576) (hl' : ys.length ≤ 1048576) (hB : hi ≤ w.heap.size) : InN w A c xs B k ys :=
  ⟨h.mem (r := ⟨A, c, xs⟩) (by simp) hl hB, h.mem (r := ⟨B, k, ys⟩) (by simp) hl' hB⟩
theorem eqN_R (A A' B B' : Option Addr) (c c' k k' : Nat) (xs ys : List Int) (w : World) (h : InN w A c xs B k ys) (h' : InN w A' c' xs B' k' ys) :
    Calls Tryd.prog 6 #[.agg #[.slice A xs.length c, .slice B ys.length k], .agg #[.slice A' xs.length c', .slice B' ys.length k']] w (Rb w (.bool true)) :=
  eqNear_same A A' B B' c c' k k' xs ys w h.1 h.2 h'.1 h'.2
theorem markN_R (A B : Option Addr) (c k : Nat) (xs ys : List Int) (lo hi : Nat) (q : Int) (w : World) (hq : 0 ≤ q ∧ q ≤ 1048576) (hx : xs.length + ys.length ≤ 1048576) (hh : hi ≤ w.heap.size)
    (h : Own w lo hi [⟨A, c, xs⟩, ⟨B, k, ys⟩] []) :
    Calls Tryd.prog 7 #[.agg #[.slice A xs.length c, .slice B ys.length k], .int .i64 q] w fun e w' => e = .returned (.int .i64 (q + (xs.length : Nat) + (ys.length : Nat))) ∧
      Own w' lo hi [⟨A, c, marks q xs.length⟩, ⟨B, k, marks (q + xs.length) ys.length⟩] [] ∧ Span lo hi w w' :=
  markNear_any A B c k lo hi xs ys q w hq (by omega) (by omega) hh h
theorem heldN_R (A B : Option Addr) (c k hi : Nat) (q : Int) (n m : Nat) (w : World) (hq : 0 ≤ q ∧ q ≤ 1048576) (hx : n + m ≤ 1048576) (hh : hi ≤ w.heap.size)
    (h : Read w hi [⟨A, c, marks q n⟩, ⟨B, k, marks (q + n) m⟩] []) :
    Calls Tryd.prog 8 #[.agg #[.slice A n c, .slice B m k], .int .i64 q] w (Rb w (.int .i64 (q + (n : Nat) + (m : Nat)))) :=
  heldNear_marks A B c k hi q n m w hq (by omega) (by omega) hh h
end Go.Proofs.YtodokdddcikhdaaDoor
