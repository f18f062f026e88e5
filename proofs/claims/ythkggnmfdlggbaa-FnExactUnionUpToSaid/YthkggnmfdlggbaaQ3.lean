/- Contracts of without and ParentOf. -/
import Derived.Test.YthkggnmfdlggbaaM1
import Derived.Test.YthkggnmfdlggbaaQ2
import Derived.Test.YthkggnmfdlggbaaL3
import Derived.Test.YthkggnmfdlggbaaShelf
import Derived.Lib.OwnBridge
namespace Go.Proofs.Ythkggnmfdlggbaa
set_option maxRecDepth 100000
open Go Go.RowKit

open Go.Lib Go.Sort in
theorem delete_own (g n c i base : Nat) (xs : List Int) (w : World) (h : w.ownsRow base 3 1 (.slice (some ⟨g, 0, none⟩) n c) n (xs.map (Value.int .i64))) (hi : i < n) :
    Calls Try.prog 143 #[.slice (some ⟨g, 0, none⟩) n c, .int .i64 i, .int .i64 ((i : Int) + 1)] w fun e w' => e = .returned (.slice (some ⟨g, 0, none⟩) (n - 1) c) ∧
      w'.ownsRow base 3 1 (.slice (some ⟨g, 0, none⟩) (n - 1) c) (n - 1) ((cutAt xs i).map (Value.int .i64)) ∧ ∀ B w0, Below B w0 w → B ≤ g → Below B w0 w' := by
  obtain ⟨g', cap, he, _, _, hc1, hc2, hl, hH⟩ := holds_of_ownsRow h (by simp)
  simp only [Value.slice.injEq, Option.some.injEq, Addr.mk.injEq, and_true, true_and] at he
  obtain ⟨rfl, rfl⟩ := he
  subst hl
  have hcc : c ≤ 9223372036854775807 := by unfold maxLen at hc2; omega
  have hD := Try.slices_Delete_int g 0 c i (i + 1) xs w hH hc1 hcc (by omega) (by omega)
  rw [show i + 1 - i = 1 by omega, show ((i + 1 : Nat) : Int) = (i : Int) + 1 from rfl] at hD
  refine hD.mono ?_
  rintro e w' ⟨rfl, q, rfl⟩
  have hlen : (xs.take i ++ xs.drop (i + 1) ++ List.replicate 1 0).length = xs.length := by
    rw [List.length_append, List.length_append, List.length_take, List.length_drop, List.length_replicate]; omega
  refine ⟨rfl, ?_, fun B w0 hb hB => below_putRow hb hB⟩
  have := ownsRow_putRow (q := q) (k := xs.length - 1) h hlen (by omega)
  have he : (xs.take i ++ xs.drop (i + 1) ++ List.replicate 1 0).take (xs.length - 1) = cutAt xs i := by
    rw [List.take_append_of_le_length (by rw [List.length_append, List.length_take, List.length_drop]; omega), List.take_of_length_le (by rw [List.length_append, List.length_take, List.length_drop]; omega)]
    rfl
  rw [he] at this
  exact this

set_option maxHeartbeats 400000 in
theorem without_impl (A : Option Addr) (c i : Nat) (xs : List Int) (w : World) (h : In w A c xs) (hi : i < xs.length) :
    Calls Try.prog 130 #[.slice A xs.length c, .int .i64 i] w (Ret (Value.int .i64) 3 w (patL (cutAt xs i))) := by
  have hl := h.len
  go_enter Try.func130, Try.ntmps130
  go_wp2_with fail
  (with_reducible refine (clone_any _ _ _ _ h).mono ?_)
  rintro e w1 ⟨T, t, rfl, _, _, o1, b1⟩
  obtain ⟨g, cap, hv, hg, _⟩ := o1.form (by omega)
  have hT : T = some ⟨g, 0, none⟩ := by injection hv
  subst hT
  clear hv
  go_wp2_with fail
  (with_reducible refine (delete_own g xs.length t i w.heap.size xs _ o1 hi).mono ?_)
  rintro e w2 ⟨rfl, o2, hB⟩
  have b2 := hB _ _ b1 hg
  have hlen := cutAt_length xs i hi
  have r2 : Rd (Value.int .i64) w2 w2.heap.size (some ⟨g, 0, none⟩) (cutAt xs i) := Rd.of_own (by rw [hlen]; exact o2)
  have hk : xs.length - 1 ≤ 1048576 := by omega
  clear hB
  go_wp2_with fail
  (with_reducible refine (pattern_impl _ _ _ (cutAt xs i) _ hlen hk r2).mono ?_)
  rintro e w3 ⟨T3, t3, rfl, k1, k2, o3, b3⟩
  go_wp2_with fail
  go_ret
  exact ⟨T3, t3, rfl, k1, k2, own_mono o3 b2.size, b2.trans (b3.mono b2.size)⟩

def parentL (xs : List Int) : List Int := xs.filter fun y => decide (y < (xs.length : Int))
def parentG (xs : List Int) : List Int := if permB xs = true ∧ xs.length ≠ 0 then parentL xs else []
def parentB (xs : List Int) : Bool := permB xs && decide (xs.length ≠ 0)
theorem parentG_length (xs : List Int) : (parentG xs).length ≤ 8 := by
  unfold parentG
  split
  · rename_i h
    have := (permB_true h.1).1
    exact Nat.le_trans (List.length_filter_le _ _) this
  · simp


end Go.Proofs.Ythkggnmfdlggbaa
