/- Contracts of the statistics that list places: listed and its closures; DescentsOf, LowsOf, RecordsOf, CountFixed, CountRises, MajorOf; program. -/
import Derived.Test.YtodokdddcikhdaaDoorP1
namespace Go.Proofs.YtodokdddcikhdaaDoor
set_option maxRecDepth 100000
open Go Go.RowKit

/-- The places, counted from 1, of which H holds, of the first n. -/
def placesL (H : Nat → Bool) (n : Nat) : List Int := ((List.range n).filter H).map fun i : Nat => (i : Int) + 1
theorem placesL_succ (H : Nat → Bool) (n : Nat) : placesL H (n + 1) = if H n then placesL H n ++ [(n : Int) + 1] else placesL H n := by
  unfold placesL
  rw [List.range_succ, List.filter_append]
  by_cases h : H n <;> simp [h]
theorem placesL_length (H : Nat → Bool) (n : Nat) : (placesL H n).length ≤ n := by
  unfold placesL
  rw [List.length_map]
  exact Nat.le_trans (List.length_filter_le _ _) (by simp)
theorem placesL_congr {H K : Nat → Bool} {n : Nat} (h : ∀ i, i < n → H i = K i) : placesL H n = placesL K n := by
  unfold placesL
  congr 1
  exact List.filter_congr fun x hx => h x (List.mem_range.1 hx)

def listG (xs : List Int) (H : Nat → Bool) : List Int := if permB xs = true then placesL H xs.length else []
theorem listG_length (xs : List Int) (H : Nat → Bool) : (listG xs H).length ≤ 8 := by
  unfold listG
  split
  · rename_i h
    have := placesL_length H xs.length
    have := (permB_true h).1
    omega
  · simp


theorem alloc_cell (w : World) (v : Value) (t : TypeId) : (w.alloc (.cells #[v] t)).cell? ⟨w.heap.size, 0, none⟩ = some v := by
  rw [World.cell?_alloc_at _ _ _ _ rfl]; rfl

/-- The captured slice and what it reads as, in a later world. -/
theorem cap_in {w w0 w' : World} {A : Option Addr} {c : Nat} {xs : List Int} {t : TypeId} (h : In w A c xs) (e : w0 = w.alloc (.cells #[.slice A xs.length c] t)) (hb : Below w0.heap.size w0 w') :
    In w' A c xs ∧ w'.cell? ⟨w.heap.size, 0, none⟩ = some (.slice A xs.length c) := by
  subst e
  have h1 : In (w.alloc (.cells #[.slice A xs.length c] t)) A c xs := h.next ((Below.refl _ _).alloc (Nat.le_refl _) _)
  exact ⟨h1.next hb, by rw [hb.cell (p := ⟨w.heap.size, 0, none⟩) (by simp)]; exact alloc_cell _ _ _⟩

end Go.Proofs.YtodokdddcikhdaaDoor
