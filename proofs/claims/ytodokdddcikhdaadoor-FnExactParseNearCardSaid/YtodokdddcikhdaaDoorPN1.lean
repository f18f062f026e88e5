/- ParseNear: plain lists. -/
import Derived.Test.YtodokdddcikhdaaDoorPB1
import Derived.Test.YtodokdddcikhdaaDoorT2
import Derived.Lib.Replace
import Derived.Lib.SplitLaws
namespace Go.Proofs.YtodokdddcikhdaaDoor
set_option maxRecDepth 100000
open Go Go.RowKit

theorem replace_lib (c : UInt8) : ∀ (l : List UInt8) (k : Nat), Lib.count l [c] = k → Lib.replaceK [c] [] k l = l.filter fun x => !decide (x = c)
  | [], k, h => by
    rw [Lib.count_miss (by simp [Lib.index])] at h
    subst h
    rfl
  | b :: l, k, h => by
    by_cases hb : b = c
    · subst hb
      rw [Lib.count_cons_eq] at h
      have hix : Lib.index (b :: l) [b] = ((0 : Nat) : Int) := by rw [Lib.index]; simp [List.isPrefixOf]
      obtain ⟨k', rfl⟩ : ∃ k', k = k' + 1 := ⟨k - 1, by omega⟩
      rw [Lib.replaceK, hix]
      have ih := replace_lib b l k' (by omega)
      rw [if_neg (by decide)]
      show (b :: l).take 0 ++ [] ++ Lib.replaceK [b] [] k' ((b :: l).drop 1) = _
      rw [List.filter_cons_of_neg (by simp), ← ih]
      rfl
    · rw [Lib.count_cons_ne b c l hb] at h
      have ih := replace_lib c l k h
      have hp : ([c] : List UInt8).isPrefixOf (b :: l) = false := by simp [List.isPrefixOf, Ne.symm hb]
      have hix : Lib.index (b :: l) [c] = if Lib.index l [c] == -1 then -1 else Lib.index l [c] + 1 := by rw [Lib.index, hp]; simp
      rw [List.filter_cons_of_pos (by simp [hb]), ← ih]
      cases k with
      | zero => rfl
      | succ k' =>
        rw [Lib.replaceK, Lib.replaceK]
        by_cases hm : Lib.index l [c] = -1
        · rw [Lib.count_miss hm] at h; omega
        · have hge := Lib.index_ge l [c]
          obtain ⟨j, hj⟩ : ∃ j : Nat, Lib.index l [c] = j := ⟨(Lib.index l [c]).toNat, by omega⟩
          rw [hix, if_neg (fun e => hm (beq_iff_eq.1 e)), if_neg (fun e => by have := beq_iff_eq.1 e; omega), if_neg (fun e => hm (beq_iff_eq.1 e)), hj]
          have e1 : ((j : Int) + 1).toNat = j + 1 := by omega
          simp [e1]
def dgs (l : List UInt8) : List UInt8 := l.filter fun x => !decide (x = 95)
theorem replaceAll_dgs (l : List UInt8) : Lib.replaceAll l [95] [] = dgs l := by
  unfold Lib.replaceAll Lib.replace Lib.replaceNum
  rw [if_neg (by decide), if_pos (.inl (by decide))]
  exact replace_lib 95 l _ rfl
theorem dgs_len (l : List UInt8) : (dgs l).length ≤ l.length := List.length_filter_le _ _
theorem dgs_snoc (l : List UInt8) (x : UInt8) : dgs (l ++ [x]) = if x = 95 then dgs l else dgs l ++ [x] := by
  unfold dgs
  rw [List.filter_append]
  by_cases h : x = 95 <;> simp [h]
/-- The joined places of the first k letters. -/
def jnTo (l : List UInt8) : Nat → List Int
  | 0 => []
  | k + 1 => if l[k]?.getD 0 = 95 then jnTo l k else if 0 < k ∧ l[k - 1]?.getD 0 ≠ 95 then jnTo l k ++ [((dgs (l.take k)).length : Int)] else jnTo l k
theorem jnTo_len (l : List UInt8) (k : Nat) : (jnTo l k).length ≤ k - 1 ∨ (jnTo l k).length = 0 := by
  induction k with
  | zero => exact .inr rfl
  | succ k ih =>
    unfold jnTo
    split
    · rcases ih with ih | ih
      · exact .inl (by omega)
      · exact .inr ih
    · split
      · left
        rw [List.length_append, List.length_singleton]
        rename_i h
        rcases ih with ih | ih <;> omega
      · rcases ih with ih | ih
        · exact .inl (by omega)
        · exact .inr ih
theorem jnTo_le (l : List UInt8) (k : Nat) : (jnTo l k).length ≤ k := by
  rcases jnTo_len l k with h | h <;> omega
def pnT (l : List UInt8) : ByteArray := ntext (ppG (dgs l)) (jnTo l l.length)
def pnOk (l : List UInt8) : Bool := ppB (dgs l) && decide ((pnT l).data.toList = l)
def pnG1 (l : List UInt8) : List Int := if pnOk l = true then ppG (dgs l) else []
def pnG2 (l : List UInt8) : List Int := if pnOk l = true then jnTo l l.length else []
theorem ntext_near {xs ys : List Int} (h : (ntext xs ys).data.toList ≠ []) : nearB xs ys = true := by
  unfold ntext at h
  split at h
  · assumption
  · exact absurd rfl h
theorem ppB_ne {l : List UInt8} (h : ppB l = true) : l ≠ [] := by
  intro e
  subst e
  exact absurd h (by decide)
/-- Where the digits are fine, each letter is ASCII. -/
theorem pp_ascii {l : List UInt8} (h : ppB (dgs l) = true) : ∀ x ∈ l, x.toNat < 128 := fun x hx => by
  by_cases h95 : x = 95
  · subst h95; decide
  · have hd : x ∈ dgs l := List.mem_filter.2 ⟨hx, by simp [h95]⟩
    unfold ppB at h
    rw [Bool.or_eq_true, Bool.and_eq_true, decide_eq_true_eq] at h
    rcases h with h | h
    · rw [h, List.mem_singleton] at hd
      subst hd; decide
    · have hp := permB_true h.2
      have hm : ((x.toNat : Int) - 48) ∈ ppL (dgs l) := List.mem_map.2 ⟨x, hd, rfl⟩
      have := hp.2.1 _ hm
      rw [ppL_len] at hp this
      omega
end Go.Proofs.YtodokdddcikhdaaDoor
