/- The counts of FnRuns, by the kernel's own reckoning. -/
import Derived.Test.YthipikllgpnlhaaE1
import Derived.Test.YthipikllgpnlhaaR5
import Derived.Test.YthipikllgpnlhaaC2
import Derived.Test.YthipikllgpnlhaaP4
import Derived.Test.YthipikllgpnlhaaD2
namespace Go.Proofs.Ythipikllgpnlhaa
set_option maxRecDepth 100000
open Go Go.RowKit

def avrCk (m : Nat) : Bool := (permsL m).all fun q => (List.range 6).all fun n => decide (avrG n q = avrG n q.reverse)
def altCk : Bool := (List.range 6).all fun k => decide ((((permsL k).filter altG2).length : Int) = altG k)
set_option maxRecDepth 100000 in
theorem altCk_ok : altCk = true := by decide +kernel
set_option maxRecDepth 100000 in
theorem avrCk_0 : avrCk 0 = true := by decide +kernel
set_option maxRecDepth 100000 in
theorem avrCk_1 : avrCk 1 = true := by decide +kernel
set_option maxRecDepth 100000 in
theorem avrCk_2 : avrCk 2 = true := by decide +kernel
set_option maxRecDepth 100000 in
theorem avrCk_3 : avrCk 3 = true := by decide +kernel
set_option maxRecDepth 100000 in
theorem avrCk_4 : avrCk 4 = true := by decide +kernel
theorem alt_count {k : Nat} (h : k ≤ 5) : (((permsL k).filter altG2).length : Int) = altG k := by
  have h1 := List.all_eq_true.1 (show (List.range 6).all _ = true from altCk_ok) k (List.mem_range.2 (by omega))
  exact of_decide_eq_true h1
theorem upToL_mem {m : Nat} {v : Int} : v ∈ upToL m ↔ 1 ≤ v ∧ v ≤ m := by
  unfold upToL
  rw [List.mem_map]
  constructor
  · rintro ⟨i, hi, rfl⟩
    have := List.mem_range.1 hi
    omega
  · rintro ⟨h1, h2⟩
    exact ⟨(v - 1).toNat, List.mem_range.2 (by omega), by omega⟩
theorem upToL_nodup (m : Nat) : (upToL m).Nodup := by
  unfold upToL
  rw [List.nodup_iff_pairwise_ne, List.pairwise_map]
  have := List.nodup_range (n := m)
  rw [List.nodup_iff_pairwise_ne] at this
  exact this.imp (by intro a b h; omega)
/-- What was drawn is a permutation. -/
theorem upTo_permB {ys : List Int} (h : ys.Perm (upToL ys.length)) (h8 : ys.length ≤ 8) : permB ys = true := by
  simp only [permB, decide_eq_true_eq]
  exact ⟨h8, fun v hv => upToL_mem.1 (h.mem_iff.1 hv), h.nodup_iff.2 (upToL_nodup _)⟩
theorem avr_reverse {n : Int} {q : List Int} (hn : -1 ≤ n ∧ n ≤ 5) (hq : q.Perm (upToL q.length)) (h4 : q.length ≤ 4) : avrG n q = avrG n q.reverse := by
  rcases Int.lt_or_le n 0 with h0 | h0
  · have : sixB n = false := by unfold sixB; simp; omega
    simp [avrG, this]
  obtain ⟨k, rfl⟩ := Int.eq_ofNat_of_zero_le h0
  have hm := permB_mem (upTo_permB hq (by omega))
  have key : avrCk q.length = true := by
    generalize q.length = m at h4
    have : m = 0 ∨ m = 1 ∨ m = 2 ∨ m = 3 ∨ m = 4 := by omega
    rcases this with rfl | rfl | rfl | rfl | rfl
    · exact avrCk_0
    · exact avrCk_1
    · exact avrCk_2
    · exact avrCk_3
    · exact avrCk_4
  have h1 := List.all_eq_true.1 (List.all_eq_true.1 key q hm) k (List.mem_range.2 (by omega))
  exact of_decide_eq_true h1
end Go.Proofs.Ythipikllgpnlhaa
