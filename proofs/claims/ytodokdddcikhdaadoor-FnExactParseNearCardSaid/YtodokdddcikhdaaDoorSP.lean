/- Splitting at a byte: plain lists; ParseBasis's plain law. -/
import Derived.Test.YtodokdddcikhdaaDoorBase
import Derived.Lib.SplitLaws
namespace Go.Proofs.YtodokdddcikhdaaDoor
set_option maxRecDepth 100000
open Go Go.RowKit

def splitL (c : UInt8) : List UInt8 → List (List UInt8)
  | [] => [[]]
  | b :: l => if b = c then [] :: splitL c l else match splitL c l with
    | h :: r => (b :: h) :: r
    | [] => [[b]]
theorem splitL_ne (c : UInt8) (l : List UInt8) : splitL c l ≠ [] := by
  cases l with
  | nil => simp [splitL]
  | cons b t =>
    unfold splitL
    split
    · simp
    · split <;> simp
theorem split_lib (c : UInt8) : ∀ (l : List UInt8) (k : Nat), Lib.count l [c] = k → Lib.splitK [c] 0 k l = splitL c l
  | [], k, h => by
    rw [Lib.count_miss (by simp [Lib.index])] at h
    subst h
    rfl
  | b :: l, k, h => by
    by_cases hb : b = c
    · subst hb
      rw [Lib.count_cons_eq] at h
      have hix : Lib.index (b :: l) [b] = ((0 : Nat) : Int) := by rw [Lib.index]; simp [List.isPrefixOf]
      obtain ⟨k', rfl⟩ : ∃ k', k = k' + 1 := ⟨k - 1, by omega⟩
      rw [Lib.splitK, hix]
      have ih := split_lib b l k' (by omega)
      simp only [splitL, if_true]
      rw [if_neg (by decide)]
      show (b :: l).take 0 :: Lib.splitK [b] 0 k' ((b :: l).drop 1) = _
      rw [← ih]
      rfl
    · rw [Lib.count_cons_ne b c l hb] at h
      have ih := split_lib c l k h
      have hp : ([c] : List UInt8).isPrefixOf (b :: l) = false := by simp [List.isPrefixOf, Ne.symm hb]
      have hix : Lib.index (b :: l) [c] = if Lib.index l [c] == -1 then -1 else Lib.index l [c] + 1 := by rw [Lib.index, hp]; simp
      simp only [splitL, if_neg hb]
      rw [← ih]
      cases k with
      | zero => rfl
      | succ k' =>
        rw [Lib.splitK, Lib.splitK]
        by_cases hm : Lib.index l [c] = -1
        · rw [Lib.count_miss hm] at h; omega
        · have hge := Lib.index_ge l [c]
          obtain ⟨j, hj⟩ : ∃ j : Nat, Lib.index l [c] = j := ⟨(Lib.index l [c]).toNat, by omega⟩
          rw [hix, if_neg (fun e => hm (beq_iff_eq.1 e)), if_neg (fun e => by have := beq_iff_eq.1 e; omega), if_neg (fun e => hm (beq_iff_eq.1 e)), hj]
          have e1 : ((j : Int) + 1).toNat = j + 1 := by omega
          simp [e1]
/-- One step of the splitting from the left. -/
def spS (c : UInt8) (s : List (List UInt8) × List UInt8) (x : UInt8) : List (List UInt8) × List UInt8 := if x = c then (s.1 ++ [s.2], []) else (s.1, s.2 ++ [x])
def spF (c : UInt8) (l : List UInt8) : List (List UInt8) × List UInt8 := l.foldl (spS c) ([], [])
def prep (cur : List UInt8) : List (List UInt8) → List (List UInt8)
  | h :: r => (cur ++ h) :: r
  | [] => [cur]
theorem sp_fold (c : UInt8) : ∀ (l : List UInt8) (a : List (List UInt8)) (cur : List UInt8), (l.foldl (spS c) (a, cur)).1 ++ [(l.foldl (spS c) (a, cur)).2] = a ++ prep cur (splitL c l)
  | [], a, cur => by simp [splitL, prep]
  | b :: l, a, cur => by
    rw [List.foldl_cons]
    by_cases hb : b = c
    · have e : spS c (a, cur) b = (a ++ [cur], []) := by unfold spS; rw [if_pos hb]
      rw [e, sp_fold c l]
      simp only [splitL, if_pos hb, prep, List.append_nil, List.append_assoc, List.singleton_append]
      congr 2
      match h : splitL c l with
      | [] => exact absurd h (splitL_ne c l)
      | x :: r => rfl
    · have e : spS c (a, cur) b = (a, cur ++ [b]) := by unfold spS; rw [if_neg hb]
      rw [e, sp_fold c l]
      simp only [splitL, if_neg hb]
      match h : splitL c l with
      | [] => exact absurd h (splitL_ne c l)
      | x :: r => simp [prep]
theorem sp_all (c : UInt8) (l : List UInt8) : (spF c l).1 ++ [(spF c l).2] = splitL c l := by
  unfold spF
  rw [sp_fold]
  match h : splitL c l with
  | [] => exact absurd h (splitL_ne c l)
  | x :: r => simp [prep]
theorem spF_snoc (c : UInt8) (l : List UInt8) (x : UInt8) : spF c (l ++ [x]) = spS c (spF c l) x := by unfold spF; rw [List.foldl_append]; rfl
theorem rev_ind {P : List UInt8 → Prop} (h0 : P []) (h1 : ∀ l x, P l → P (l ++ [x])) (l : List UInt8) : P l := by
  have h : ∀ l : List UInt8, P l.reverse := fun l => by
    induction l with
    | nil => exact h0
    | cons a t ih => rw [List.reverse_cons]; exact h1 _ _ ih
  have := h l.reverse
  rwa [List.reverse_reverse] at this
/-- What lies behind the last cut is the text's end. -/
theorem spF_cur (c : UInt8) (l : List UInt8) : (spF c l).2.length ≤ l.length ∧ l.drop (l.length - (spF c l).2.length) = (spF c l).2 := by
  refine rev_ind (P := fun l => (spF c l).2.length ≤ l.length ∧ l.drop (l.length - (spF c l).2.length) = (spF c l).2) (by simp [spF]) (fun l x ih => ?_) l
  rw [spF_snoc]
  unfold spS
  split
  · simp
  · obtain ⟨h1, h2⟩ := ih
    refine ⟨by simp; omega, ?_⟩
    have e : (l ++ [x]).length - ((spF c l).2 ++ [x]).length = l.length - (spF c l).2.length := by simp
    rw [e, List.drop_append_of_le_length (by omega), h2]
theorem spF_len (c : UInt8) (l : List UInt8) : (spF c l).1.length + (spF c l).2.length + ((spF c l).1.map List.length).sum = l.length := by
  refine rev_ind (P := fun l => (spF c l).1.length + (spF c l).2.length + ((spF c l).1.map List.length).sum = l.length) (by simp [spF]) (fun l x ih => ?_) l
  rw [spF_snoc]
  unfold spS
  split
  · simp; omega
  · simp; omega
end Go.Proofs.YtodokdddcikhdaaDoor
