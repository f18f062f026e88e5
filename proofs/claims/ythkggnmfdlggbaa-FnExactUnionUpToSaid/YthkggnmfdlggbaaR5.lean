/- Counting permutations for which something holds; AvoidRuns. -/
import Derived.Test.YthkggnmfdlggbaaR4
import Derived.Test.YthkggnmfdlggbaaP2
namespace Go.Proofs.Ythkggnmfdlggbaa
set_option maxRecDepth 100000
open Go Go.RowKit

theorem isPerm_ib (A : Option Addr) (c : Nat) (xs : List Int) (w : World) (b : Bool) (h : In w A c xs) (hb : permB xs = b) : Calls Try.prog 60 #[.slice A xs.length c] w (Rb w (.bool b)) := by
  subst hb; exact isPerm_impl A c xs w h
theorem isPerm_sb (A : Option Addr) (c : Nat) (xs : List Int) (w : World) (b : Bool) (h : In w A c xs) (hb : permB xs = b) : Calls Try.prog 80 #[.slice A xs.length c] w (Rq w (.bool b)) := by
  subst hb; exact isPerm_spec A c xs w h
theorem l1Bit_b (b : Bool) (n : Int) (w : World) (hb : (if b = true then 1 else 0) = n) : Calls Try.prog 141 #[.bool b] w fun e w' => e = .returned (.int .i64 n) ∧ w = w' := by
  subst hb; exact l1Bit_q b w
/-- How many of the first k have it. -/
def cntTo {α : Type} (H : α → Bool) (l : List α) (k : Nat) : Nat := ((l.take k).filter H).length
theorem cntTo_succ {α : Type} (H : α → Bool) (l : List α) (k : Nat) (h : k < l.length) : cntTo H l (k + 1) = cntTo H l k + (if H l[k] = true then 1 else 0) := by
  unfold cntTo
  rw [List.take_succ_eq_append_getElem h, List.filter_append, List.length_append]
  by_cases hh : H l[k] = true <;> simp [hh]
theorem cntTo_le {α : Type} (H : α → Bool) (l : List α) (k : Nat) : cntTo H l k ≤ k := by
  unfold cntTo
  have h1 := List.length_filter_le H (l.take k)
  have h2 := List.length_take_le k l
  omega
theorem cntTo_all {α : Type} (H : α → Bool) (l : List α) : cntTo H l l.length = (l.filter H).length := by unfold cntTo; rw [List.take_length]
theorem permsL_le {n : Nat} (hn : n ≤ 6) : (permsL n).length ≤ 46656 := Nat.le_trans (permsI_le n n) (pow_six hn hn)
theorem row_in {w : World} {B : Nat} {rs : List Row} {os : List Outer} (h : Read w B rs os) {r : Row} (hr : r ∈ rs) (hl : r.xs.length ≤ 1048576) (hB : B ≤ w.heap.size) : In w r.A r.c r.xs := ⟨hl, h.cap r hr, (h.rd r hr).more hB⟩
theorem map_getX {rs : List Row} {L : List (List Int)} (h : rs.map Row.xs = L) {j : Nat} (hj : j < rs.length) : rs[j].xs = L[j]'(by rw [← h, List.length_map]; exact hj) := by
  subst h; simp
theorem map_memX {rs : List Row} {L : List (List Int)} (h : rs.map Row.xs = L) {r : Row} (hr : r ∈ rs) : r.xs ∈ L := by
  subst h; exact List.mem_map.2 ⟨r, hr, rfl⟩

def sixB (n : Int) : Bool := decide (0 ≤ n ∧ n ≤ 6)
theorem isSix_any (n : Int) (w : World) (b : Bool) (hb : sixB n = b) : Calls Try.prog 75 #[.int .i64 n] w fun e w' => e = .returned (.bool b) ∧ w = w' := by
  subst hb
  by_cases h0 : 0 ≤ n
  · by_cases h6 : n ≤ 6
    · have HS := Lib.hid (show sixB n = true by simp [sixB, h0, h6])
      go_enter Try.func75, Try.ntmps75
      go_wp2
      go_ret
      exact ⟨ret_bool (by rw [HS.out]), rfl⟩
    · have HS := Lib.hid (show sixB n = false by simp [sixB, h6])
      go_enter Try.func75, Try.ntmps75
      go_wp2
      go_ret
      exact ⟨ret_bool (by rw [HS.out]), rfl⟩
  · have HS := Lib.hid (show sixB n = false by simp [sixB, h0])
    go_enter Try.func75, Try.ntmps75
    go_wp2
    go_ret
    exact ⟨ret_bool (by rw [HS.out]), rfl⟩



end Go.Proofs.Ythkggnmfdlggbaa
