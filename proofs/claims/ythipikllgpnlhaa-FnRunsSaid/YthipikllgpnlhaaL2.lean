/- The laws' own helpers for meshes: turned from N2. -/
import Derived.Test.YthipikllgpnlhaaL1
namespace Go.Proofs.Ythipikllgpnlhaa
set_option maxRecDepth 100000
open Go Go.RowKit

structure InM (w : World) (A : Option Addr) (c : Nat) (xs : List Int) (B : Option Addr) (k : Nat) (rs : List Row) : Prop where
  fst : In w A c xs
  snd : InL w B k rs
theorem InM.next {w w' : World} {A : Option Addr} {c : Nat} {xs : List Int} {B : Option Addr} {k : Nat} {rs : List Row} (h : InM w A c xs B k rs) (hb : Below w.heap.size w w') : InM w' A c xs B k rs := ⟨h.1.next hb, h.2.next hb⟩
theorem Read.tail {w : World} {B : Nat} {r : Row} {rs : List Row} {os : List Outer} (h : Read w B (r :: rs) os) : Read w B rs os := ⟨fun s hs => h.cap s (List.mem_cons_of_mem _ hs), fun s hs => h.rd s (List.mem_cons_of_mem _ hs), h.ocap, h.ord⟩
theorem Read.toM {w : World} {hi : Nat} {A B : Option Addr} {c k : Nat} {xs : List Int} {rs : List Row} (h : Read w hi (⟨A, c, xs⟩ :: rs) [⟨B, k, rs.map Row.v⟩]) (hl : xs.length ≤ 1048576) (hl' : rs.length + sizeR rs ≤ 1048576) (hB : hi ≤ w.heap.size) : InM w A c xs B k rs :=
  ⟨h.mem (r := ⟨A, c, xs⟩) List.mem_cons_self hl hB, h.tail.toL hl' hB⟩





end Go.Proofs.Ythipikllgpnlhaa
