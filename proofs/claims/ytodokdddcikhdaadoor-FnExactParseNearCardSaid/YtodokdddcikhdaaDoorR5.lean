/- Counting permutations for which something holds; AvoidRuns. -/
import Derived.Test.YtodokdddcikhdaaDoorR4
import Derived.Test.YtodokdddcikhdaaDoorP2
namespace Go.Proofs.YtodokdddcikhdaaDoor
set_option maxRecDepth 100000
open Go Go.RowKit

theorem isPerm_ib (A : Option Addr) (c : Nat) (xs : List Int) (w : World) (b : Bool) (h : In w A c xs) (hb : permB xs = b) : Calls Tryd.prog 21 #[.slice A xs.length c] w (Rb w (.bool b)) := by
  subst hb; exact isPerm_impl A c xs w h
theorem isPerm_sb (A : Option Addr) (c : Nat) (xs : List Int) (w : World) (b : Bool) (h : In w A c xs) (hb : permB xs = b) : Calls Tryd.prog 17 #[.slice A xs.length c] w (Rq w (.bool b)) := by
  subst hb; exact isPerm_spec A c xs w h
/-- How many of the first k have it. -/
def cntTo {α : Type} (H : α → Bool) (l : List α) (k : Nat) : Nat := ((l.take k).filter H).length
theorem cntTo_succ {α : Type} (H : α → Bool) (l : List α) (k : Nat) (h : k < l.length) : cntTo H l (k + 1) = cntTo H l k + (if H l[k] = true then 1 else 0) := by
  unfold cntTo
  rw [List.take_succ_eq_append_getElem h, List.filter_append, List.length_append]
  by_cases hh : H l[k] = true <;> simp [hh]
theorem cntTo_le {α : Type} (H : α → Bool) (l : List α) (k : Nat) : cntTo H l k ≤ k := by
  unfold cntTo
  have h1 := List.length_filter_le H (l.take k)
  have h2 := List.length_take_le k l
  omega
theorem cntTo_all {α : Type} (H : α → Bool) (l : List α) : cntTo H l l.length = (l.filter H).length := by unfold cntTo; rw [List.take_length]
theorem permsL_le {n : Nat} (hn : n ≤ 6) : (permsL n).length ≤ 46656 := Nat.le_trans (permsI_le n n) (pow_six hn hn)
theorem row_in {w : World} {B : Nat} {rs : List Row} {os : List Outer} (h : Read w B rs os) {r : Row} (hr : r ∈ rs) (hl : r.xs.length ≤ 1048576) (hB : B ≤ w.heap.size) : In w r.A r.c r.xs := ⟨hl, h.cap r hr, (h.rd r hr).more hB⟩
theorem map_getX {rs : List Row} {L : List (List Int)} (h : rs.map Row.xs = L) {j : Nat} (hj : j < rs.length) : rs[j].xs = L[j]'(by rw [← h, List.length_map]; exact hj) := by
  subst h; simp
theorem map_memX {rs : List Row} {L : List (List Int)} (h : rs.map Row.xs = L) {r : Row} (hr : r ∈ rs) : r.xs ∈ L := by
  subst h; exact List.mem_map.2 ⟨r, hr, rfl⟩




end Go.Proofs.YtodokdddcikhdaaDoor
