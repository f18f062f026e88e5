/- The laws' own helpers in the words of R1: toIntS, eqIntS, markIntS, heldIntS and those for a Near. -/
import Derived.Test.YthipikllgpnlhaaN2
namespace Go.Proofs.Ythipikllgpnlhaa
set_option maxRecDepth 100000
open Go Go.RowKit

/-- What an argument reads as when the law begins. -/
structure Arg (w : World) (rs : List Row) (os : List Outer) : Prop where
  read : Read w w.heap.size rs os
  rcap : ∀ r ∈ rs, r.c ≤ maxLen
  ocap : ∀ o ∈ os, o.c ≤ maxLen
theorem Arg.self {w : World} {rs : List Row} {os : List Outer} (h : Arg w rs os) : Arg w rs os := h
theorem Arg.below {w w' : World} {rs : List Row} {os : List Outer} (h : Arg w rs os) (hb : Below w.heap.size w w') : Arg w' rs os := ⟨(h.read.below hb).more hb.size, h.rcap, h.ocap⟩
theorem Arg.lenI {w : World} {A : Option Addr} {c : Nat} {xs : List Int} (h : Arg w [⟨A, c, xs⟩] []) : xs.length ≤ 9223372036854775807 := by
  have h1 := h.read.cap _ (List.mem_singleton.2 rfl)
  have h2 := h.rcap _ (List.mem_singleton.2 rfl)
  unfold maxLen at h2
  simp only at h1 h2
  omega
theorem Read.toI {w : World} {B : Nat} {A : Option Addr} {c : Nat} {xs : List Int} (h : Read w B [⟨A, c, xs⟩] []) (hl : xs.length ≤ 1048576) (hB : B ≤ w.heap.size) : In w A c xs :=
  h.mem (r := ⟨A, c, xs⟩) (List.mem_singleton.2 rfl) hl hB


theorem Read.toN {w : World} {hi : Nat} {A B : Option Addr} {c k : Nat} {xs ys : List Int} (h : Read w hi [⟨A, c, xs⟩, ⟨B, k, ys⟩] []) (hl : xs.length ≤ 1048576) (hl' : ys.length ≤ 1048576) (hB : hi ≤ w.heap.size) : InN w A c xs B k ys :=
  ⟨h.mem (r := ⟨A, c, xs⟩) (by simp) hl hB, h.mem (r := ⟨B, k, ys⟩) (by simp) hl' hB⟩
end Go.Proofs.Ythipikllgpnlhaa
