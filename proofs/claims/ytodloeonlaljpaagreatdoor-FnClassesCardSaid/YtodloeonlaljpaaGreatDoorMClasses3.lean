/- Several texts in one, each with its own head: M1, M3, L2, S1, OL, SP, Q2, PB1, C3, T1, T2. No program of ours. -/
import Derived.Lib.SplitLaws
import Derived.Deep.RegionHeld3
import Derived.StillTailTactics
import Derived.Laws.BytesString
import Derived.Test.YtodloeonlaljpaaGreatDoorMClasses2
/- Plain: permutations as lists: how many there can be in a range; a permutation is its own pattern. -/
namespace Go.Proofs.YtodloeonlaljpaaGreatDoor
set_option maxRecDepth 100000
open Go

theorem nodup_len_le : ∀ (k : Nat) (l : List Int) (lo : Int), l.Nodup → (∀ y ∈ l, lo ≤ y ∧ y < lo + k) → l.length ≤ k
  | 0, l, lo, _, h => by
    cases l with
    | nil => simp
    | cons y l => have := h y (by simp); omega
  | k + 1, l, lo, hn, h => by
    have h1 := nodup_len_le k (l.erase (lo + k)) lo (hn.erase _) (fun y hy => by
      have hm := List.mem_of_mem_erase hy
      have hne : y ≠ lo + k := fun e => by
        subst e
        exact (hn.mem_erase_iff.1 hy).1 rfl
      have := h y hm
      omega)
    have h2 := List.length_erase (a := lo + k) (l := l)
    split at h2 <;> omega

theorem belowN_eq {l : List Int} {m : Nat} (hn : l.Nodup) (hr : ∀ y ∈ l, 1 ≤ y ∧ y ≤ m) (hl : l.length = m) (x : Int) (hx : 1 ≤ x ∧ x ≤ m) : (belowN l x : Int) = x - 1 := by
  have h1 := nodup_len_le (x - 1).toNat (l.filter fun y => decide (y < x)) 1 (hn.filter _) (fun y hy => by
    have := List.mem_filter.1 hy
    have h := hr y this.1
    have h2 : y < x := by simpa using this.2
    omega)
  have h2 := nodup_len_le (m + 1 - x).toNat (l.filter fun y => !decide (y < x)) x (hn.filter _) (fun y hy => by
    have := List.mem_filter.1 hy
    have h := hr y this.1
    have h2 : ¬ y < x := by simpa using this.2
    omega)
  have h3 : (l.filter fun y => decide (y < x)).length + (l.filter fun y => !decide (y < x)).length = l.length := by
    clear h1 h2 hn hr hl
    induction l with
    | nil => rfl
    | cons y l ih => by_cases h : y < x <;> simp [h] <;> omega
  unfold belowN
  omega

theorem patL_self {l : List Int} {m : Nat} (hn : l.Nodup) (hr : ∀ y ∈ l, 1 ≤ y ∧ y ≤ m) (hl : l.length = m) : patL l = l := by
  unfold patL
  conv => rhs; rw [← List.map_id l]
  exact List.map_congr_left fun x hx => by rw [belowN_eq hn hr hl x (hr x hx)]; simp

/-- In a permutation of n each number up to n occurs. -/
theorem perm_mem {l : List Int} {m : Nat} (hn : l.Nodup) (hr : ∀ y ∈ l, 1 ≤ y ∧ y ≤ m) (hl : l.length = m) (x : Int) (hx : 1 ≤ x ∧ x ≤ m) : x ∈ l := by
  refine Classical.byContradiction fun hno => ?_
  have h1 := nodup_len_le (x - 1).toNat (l.filter fun y => decide (y < x)) 1 (hn.filter _) (fun y hy => by
    have := List.mem_filter.1 hy
    have h := hr y this.1
    have h2 : y < x := by simpa using this.2
    omega)
  have h2 := nodup_len_le (m - x).toNat (l.filter fun y => !decide (y < x)) (x + 1) (hn.filter _) (fun y hy => by
    have := List.mem_filter.1 hy
    have h := hr y this.1
    have h2 : ¬ y < x := by simpa using this.2
    have h3 : y ≠ x := fun e => hno (by subst e; exact this.1)
    omega)
  have h3 : (l.filter fun y => decide (y < x)).length + (l.filter fun y => !decide (y < x)).length = l.length := by
    clear h1 h2 hn hr hl hno
    induction l with
    | nil => rfl
    | cons y l ih => by_cases h : y < x <;> simp [h] <;> omega
  omega

def cutAt (xs : List Int) (i : Nat) : List Int := xs.take i ++ xs.drop (i + 1)
theorem cutAt_length (xs : List Int) (i : Nat) (h : i < xs.length) : (cutAt xs i).length = xs.length - 1 := by simp [cutAt]; omega
theorem cutAt_split {xs : List Int} {i : Nat} (h : i < xs.length) : xs = xs.take i ++ (xs[i] :: xs.drop (i + 1)) := by
  rw [← List.drop_eq_getElem_cons h, List.take_append_drop]
/-- The greatest number cut out of a permutation leaves the lesser ones, a permutation. -/
theorem parent_eq {xs : List Int} {i : Nat} (hp : permB xs = true) (hi : i < xs.length) (hx : xs[i] = (xs.length : Int)) : patL (cutAt xs i) = xs.filter fun y => decide (y < (xs.length : Int)) := by
  obtain ⟨_, hr, hn⟩ := permB_true hp
  have hs := cutAt_split hi
  have hf : (xs.filter fun y => decide (y < (xs.length : Int))) = cutAt xs i := by
    have key : ∀ l : List Int, (∀ y ∈ l, y ≠ (xs.length : Int)) → (∀ y ∈ l, 1 ≤ y ∧ y ≤ (xs.length : Int)) → l.filter (fun y => decide (y < (xs.length : Int))) = l := fun l h1 h2 => List.filter_eq_self.2 fun y hy => by
      have a := h1 y hy
      have b := (h2 y hy).2
      simp; omega
    have hn' := hn
    rw [hs, List.nodup_append] at hn'
    obtain ⟨_, hn2, hn3⟩ := hn'
    rw [List.nodup_cons] at hn2
    conv => lhs; arg 2; rw [hs]
    rw [List.filter_append, List.filter_cons, if_neg (by rw [hx]; simp)]
    rw [key _ (fun y hy e => hn3 y hy _ (List.mem_cons_self) (by rw [hx]; exact e)) (fun y hy => hr y (List.mem_of_mem_take hy)), key _ (fun y hy e => hn2.1 (by rw [hx, ← e]; exact hy)) (fun y hy => hr y (List.mem_of_mem_drop hy))]
    rfl
  rw [hf]
  refine patL_self (m := xs.length - 1) ?_ ?_ (cutAt_length xs i hi)
  · rw [← hf]; exact hn.filter _
  · intro y hy
    rw [← hf] at hy
    have h1 := List.mem_filter.1 hy
    have h2 := hr y h1.1
    have h3 : y < (xs.length : Int) := by simpa using h1.2
    omega
end Go.Proofs.YtodloeonlaljpaaGreatDoor

/- Plain maths: ascending lists of places, occurrences of a pattern, breadth first and depth first. -/
namespace Go.Proofs.YtodloeonlaljpaaGreatDoor
set_option maxRecDepth 100000

/-- The place behind the last one. -/
def fromI (l : List Int) : Int := match l.getLast? with
  | none => 1
  | some x => x + 1
theorem fromI_nil : fromI [] = 1 := rfl
theorem fromI_snoc (l : List Int) (x : Int) : fromI (l ++ [x]) = x + 1 := by simp [fromI]
def ways (n : Nat) (l : List Int) : List Int := marks (fromI l) ((n : Int) + 1 - fromI l).toNat
theorem ways_mem {n : Nat} {l : List Int} {x : Int} : x ∈ ways n l ↔ fromI l ≤ x ∧ x ≤ n := by
  unfold ways marks
  rw [List.mem_map]
  constructor
  · rintro ⟨i, hi, rfl⟩
    have := List.mem_range.1 hi
    omega
  · rintro ⟨h1, h2⟩
    exact ⟨(x - fromI l).toNat, List.mem_range.2 (by omega), by omega⟩
def asc1 (n : Nat) (l : List Int) : List (List Int) := (ways n l).map fun x => l ++ [x]
def ascX (n : Nat) (ls : List (List Int)) : List (List Int) := ls.flatMap (asc1 n)
def ascI (n : Nat) : Nat → List (List Int)
  | 0 => [[]]
  | k + 1 => ascX n (ascI n k)
def ascF (n : Nat) : Nat → List Int → List (List Int)
  | 0, l => [l]
  | k + 1, l => (ways n l).flatMap fun x => ascF n k (l ++ [x])
theorem asc_iter (n : Nat) : ∀ (k i : Nat), ascI n (i + k) = (ascI n i).flatMap (ascF n k) := by
  intro k
  induction k with
  | zero => intro i; simp [ascF]
  | succ k ih =>
    intro i
    have h := ih (i + 1)
    rw [show i + (k + 1) = i + 1 + k by omega, h]
    show (ascX n (ascI n i)).flatMap (ascF n k) = _
    unfold ascX
    rw [List.flatMap_assoc]
    congr 1
    funext p
    unfold asc1
    rw [List.flatMap_map]
    rfl
theorem asc_fill (n k : Nat) : ascF n k [] = ascI n k := by
  have h := asc_iter n k 0
  rw [Nat.zero_add] at h
  rw [h]
  simp [ascI]
/-- Ascending, from 1 to n. -/
def Asc (n : Nat) (l : List Int) : Prop := (∀ x ∈ l, 1 ≤ x ∧ x ≤ n ∧ x < fromI l) ∧ l.Nodup
theorem Asc.nil (n : Nat) : Asc n [] := ⟨by simp, by simp⟩
theorem Asc.from {n : Nat} {l : List Int} (h : Asc n l) : 1 ≤ fromI l := by
  rcases hl : l.getLast? with _ | x
  · simp [fromI, hl]
  · have hm : x ∈ l := List.mem_of_getLast? hl
    have := h.1 x hm
    simp only [fromI, hl]
    omega
theorem Asc.snoc {n : Nat} {l : List Int} (h : Asc n l) {x : Int} (hx : x ∈ ways n l) : Asc n (l ++ [x]) := by
  obtain ⟨h1, h2⟩ := ways_mem.1 hx
  have hf := h.from
  refine ⟨fun y hy => ?_, (nodup_snoc l x).2 ⟨h.2, fun hm => by have := h.1 x hm; omega⟩⟩
  rw [fromI_snoc]
  rcases List.mem_append.1 hy with hy | hy
  · have := h.1 y hy
    omega
  · obtain rfl := List.mem_singleton.1 hy
    omega
theorem ascI_mem {n : Nat} : ∀ {k : Nat} {l : List Int}, l ∈ ascI n k → l.length = k ∧ Asc n l := by
  intro k
  induction k with
  | zero =>
    intro l h
    have : l = [] := by simpa [ascI] using h
    subst this
    exact ⟨rfl, Asc.nil n⟩
  | succ k ih =>
    intro l h
    obtain ⟨m, hm, hl⟩ := List.mem_flatMap.1 h
    obtain ⟨x, hx, rfl⟩ := List.mem_map.1 hl
    obtain ⟨h1, h2⟩ := ih hm
    exact ⟨by simp [h1], h2.snoc hx⟩
theorem marks_len (k : Int) (n : Nat) : (marks k n).length = n := by simp [marks]
theorem ways_le {n : Nat} {l : List Int} (h : 1 ≤ fromI l) : (ways n l).length ≤ n := by
  unfold ways
  rw [marks_len]
  omega
theorem ascI_le (n k : Nat) : (ascI n k).length ≤ n ^ k := by
  induction k with
  | zero => simp [ascI]
  | succ k ih =>
    have h := flatMap_le (asc1 n) n (ascI n k) (fun p hp => by
      unfold asc1
      rw [List.length_map]
      exact ways_le (ascI_mem hp).2.from)
    have h2 := Nat.mul_le_mul_right n ih
    rw [Nat.pow_succ]
    exact Nat.le_trans h h2

/-- The numbers at places. -/
def atL (p l : List Int) : List Int := l.map fun x => p[(x - 1).toNat]?.getD 0
theorem atL_length (p l : List Int) : (atL p l).length = l.length := by simp [atL]
def nth (p : List Int) (i : Int) : Int := p[i.toNat]?.getD 0
/-- The last place agrees with all before it. -/
def fitsB (p q l : List Int) : Bool := (List.range (l.length - 1)).all fun k => decide (q[k]?.getD 0 < q[l.length - 1]?.getD 0) == decide ((atL p l)[k]?.getD 0 < (atL p l)[l.length - 1]?.getD 0)
def occF (p q : List Int) : Nat → List Int → List (List Int)
  | 0, l => [l]
  | k + 1, l => ((ways p.length l).filter fun x => fitsB p q (l ++ [x])).flatMap fun x => occF p q k (l ++ [x])
def occI (p q : List Int) : List (List Int) := (ascI p.length q.length).filter fun l => decide (patL (atL p l) = q)
def occL (p q : List Int) : List (List Int) := occF p q q.length []
def allfits (p q l : List Int) : Bool := (List.range l.length).all fun j => fitsB p q (l.take (j + 1))
theorem allfits_snoc (p q l : List Int) (x : Int) : allfits p q (l ++ [x]) = (allfits p q l && fitsB p q (l ++ [x])) := by
  unfold allfits
  rw [List.length_append, List.length_singleton, List.range_succ, List.all_append]
  have h1 : ((List.range l.length).all fun j => fitsB p q ((l ++ [x]).take (j + 1))) = (List.range l.length).all fun j => fitsB p q (l.take (j + 1)) := by
    rw [Bool.eq_iff_iff, List.all_eq_true, List.all_eq_true]
    constructor
    · intro h j hj
      have h2 := h j hj
      have := List.mem_range.1 hj
      rwa [List.take_append_of_le_length (by omega)] at h2
    · intro h j hj
      have := List.mem_range.1 hj
      rw [List.take_append_of_le_length (by omega)]
      exact h j hj
  rw [h1]
  simp only [List.all_cons, List.all_nil, Bool.and_true]
  rw [List.take_of_length_le (by simp)]
theorem ascF_mem {n : Nat} : ∀ {k : Nat} {l m : List Int}, m ∈ ascF n k l → ∃ t, m = l ++ t ∧ t.length = k := by
  intro k
  induction k with
  | zero =>
    intro l m h
    have : m = l := by simpa [ascF] using h
    subst this
    exact ⟨[], by simp, rfl⟩
  | succ k ih =>
    intro l m h
    obtain ⟨x, _, hm⟩ := List.mem_flatMap.1 h
    obtain ⟨t, rfl, ht⟩ := ih hm
    exact ⟨x :: t, by simp, by simp [ht]⟩
theorem allfits_prefix {p q l t : List Int} (h : allfits p q (l ++ t) = true) : allfits p q l = true := by
  induction t generalizing l with
  | nil => simpa using h
  | cons x t ih =>
    have h2 : allfits p q ((l ++ [x]) ++ t) = true := by simpa using h
    have h3 := ih h2
    rw [allfits_snoc] at h3
    simp only [Bool.and_eq_true] at h3
    exact h3.1
theorem occF_filter (p q : List Int) : ∀ (k : Nat) (l : List Int), allfits p q l = true → occF p q k l = (ascF p.length k l).filter (allfits p q) := by
  intro k
  induction k with
  | zero => intro l h; simp [occF, ascF, h]
  | succ k ih =>
    intro l h
    show ((ways p.length l).filter fun x => fitsB p q (l ++ [x])).flatMap (fun x => occF p q k (l ++ [x])) = ((ways p.length l).flatMap fun x => ascF p.length k (l ++ [x])).filter (allfits p q)
    rw [List.filter_flatMap]
    generalize ways p.length l = W
    induction W with
    | nil => rfl
    | cons x W ihW =>
      rw [List.flatMap_cons, ← ihW]
      by_cases hf : fitsB p q (l ++ [x]) = true
      · rw [List.filter_cons_of_pos (by simpa using hf), List.flatMap_cons, ih (l ++ [x]) (by rw [allfits_snoc, h, hf]; rfl)]
      · rw [List.filter_cons_of_neg (by simpa using hf)]
        have : (ascF p.length k (l ++ [x])).filter (allfits p q) = [] := by
          rw [List.filter_eq_nil_iff]
          intro m hm ha
          obtain ⟨t, rfl, _⟩ := ascF_mem hm
          have h2 := allfits_prefix ha
          rw [allfits_snoc] at h2
          simp only [Bool.and_eq_true] at h2
          exact hf h2.2
        rw [this]
        rfl

theorem nodup_inj {l : List Int} (h : l.Nodup) {i j : Nat} (hi : i < l.length) (hj : j < l.length) (e : l[i] = l[j]) : i = j := by
  rw [List.nodup_iff_pairwise_ne] at h
  rcases Nat.lt_trichotomy i j with a | a | a
  · exact absurd e (List.pairwise_iff_getElem.1 h i j hi hj a)
  · exact a
  · exact absurd e.symm (List.pairwise_iff_getElem.1 h j i hj hi a)
theorem filter_len {L q : List Int} (P Q : Int → Bool) (hl : L.length = q.length) (h : ∀ j (h1 : j < L.length) (h2 : j < q.length), P L[j] = Q q[j]) : (L.filter P).length = (q.filter Q).length := by
  induction L generalizing q with
  | nil => cases q with
    | nil => rfl
    | cons a t => simp at hl
  | cons a t ih => cases q with
    | nil => simp at hl
    | cons b u =>
      have h0 := h 0 (by simp) (by simp)
      have h1 := ih (q := u) (by simpa using hl) (fun j h1 h2 => h (j + 1) (by simpa using h1) (by simpa using h2))
      simp only [List.getElem_cons_zero] at h0
      rw [List.filter_cons, List.filter_cons, h0]
      split <;> simp [h1]
theorem belowN_lt {L : List Int} {x y : Int} (hm : x ∈ L) (h : x < y) : belowN L x < belowN L y := by
  unfold belowN
  have h1 : ((L.filter fun z => decide (z < y)).filter fun z => decide (z < x)) = L.filter fun z => decide (z < x) := by
    rw [List.filter_filter]
    congr 1
    funext z
    by_cases hz : z < x
    · simp [hz, show z < y by omega]
    · simp [hz]
  rw [← h1]
  apply List.length_filter_lt_length_iff_exists.2
  exact ⟨x, List.mem_filter.2 ⟨hm, by simpa using h⟩, by simp⟩
theorem belowN_mono {L : List Int} {x y : Int} (h : x ≤ y) : belowN L x ≤ belowN L y := by
  unfold belowN
  have h1 : ((L.filter fun z => decide (z < y)).filter fun z => decide (z < x)) = L.filter fun z => decide (z < x) := by
    rw [List.filter_filter]
    congr 1
    funext z
    by_cases hz : z < x
    · simp [hz, show z < y by omega]
    · simp [hz]
  rw [← h1]
  exact List.length_filter_le _ _
theorem patL_lt {L : List Int} {i j : Nat} (hi : i < L.length) (hj : j < L.length) : ((patL L)[i]'(by rw [patL_length]; exact hi) < (patL L)[j]'(by rw [patL_length]; exact hj)) ↔ L[i] < L[j] := by
  simp only [patL, List.getElem_map]
  constructor
  · intro h
    rcases Int.lt_or_le L[i] L[j] with h1 | h1
    · exact h1
    · have := belowN_mono (L := L) h1
      omega
  · intro h
    have := belowN_lt (List.getElem_mem hi) h
    omega
/-- A list has a pattern where both rise and fall alike. -/
theorem patL_iff {L q : List Int} (hl : L.length = q.length) (hL : L.Nodup) (hq : permB q = true) :
    patL L = q ↔ ∀ i j (hi : i < L.length) (hj : j < L.length), i < j → (q[i]'(by omega) < q[j]'(by omega) ↔ L[i] < L[j]) := by
  obtain ⟨_, hr, hn⟩ := permB_true hq
  have hself := patL_self hn (m := q.length) hr rfl
  constructor
  · intro h i j hi hj hij
    subst h
    exact patL_lt hi hj
  · intro h
    rw [← hself]
    apply List.ext_getElem
    · rw [patL_length, patL_length, hl]
    · intro i h1 h2
      rw [patL_length] at h1 h2
      simp only [patL, List.getElem_map]
      have : belowN L L[i] = belowN q q[i] := by
        apply filter_len _ _ hl
        intro j h3 h4
        rw [decide_eq_decide]
        rcases Nat.lt_trichotomy j i with hlt | rfl | hgt
        · exact (h j i h3 h1 hlt).symm
        · constructor <;> intro hh <;> omega
        · have h5 := h i j h1 h3 hgt
          have e1 : L[i] ≠ L[j] := fun e => by have := nodup_inj hL _ _ e; omega
          have e2 : q[i] ≠ q[j] := fun e => by have := nodup_inj hn _ _ e; omega
          omega
      rw [this]
theorem nth_inj {p : List Int} (hp : p.Nodup) {x y : Int} (hx : 1 ≤ x ∧ x ≤ p.length) (hy : 1 ≤ y ∧ y ≤ p.length) (h : p[(x - 1).toNat]?.getD 0 = p[(y - 1).toNat]?.getD 0) : x = y := by
  have h1 : (x - 1).toNat < p.length := by omega
  have h2 : (y - 1).toNat < p.length := by omega
  rw [List.getElem?_eq_getElem h1, List.getElem?_eq_getElem h2] at h
  simp only [Option.getD_some] at h
  have := nodup_inj hp _ _ h
  omega
theorem atL_nodup {p l : List Int} (hp : p.Nodup) (hl : Asc p.length l) : (atL p l).Nodup := by
  unfold atL
  rw [List.nodup_iff_pairwise_ne, List.pairwise_map]
  have h := hl.2
  rw [List.nodup_iff_pairwise_ne] at h
  refine h.imp_of_mem fun {a b} ha hb hab e => hab ?_
  have h1 := hl.1 a ha
  have h2 := hl.1 b hb
  exact nth_inj hp ⟨h1.1, h1.2.1⟩ ⟨h2.1, h2.2.1⟩ e
theorem fitsB_iff {p q l : List Int} {n : Nat} (hl : l.length = n + 1) (hq : n < q.length) : fitsB p q l = true ↔ ∀ k (hk : k < n), (q[k] < q[n] ↔ (atL p l)[k]'(by rw [atL_length]; omega) < (atL p l)[n]'(by rw [atL_length]; omega)) := by
  unfold fitsB
  rw [List.all_eq_true]
  have hn : l.length - 1 = n := by omega
  rw [hn]
  constructor
  · intro h k hk
    have h1 := h k (List.mem_range.2 hk)
    rw [List.getElem?_eq_getElem (show k < q.length by omega), List.getElem?_eq_getElem hq, List.getElem?_eq_getElem (show k < (atL p l).length by rw [atL_length]; omega), List.getElem?_eq_getElem (show n < (atL p l).length by rw [atL_length]; omega)] at h1
    simpa using h1
  · intro h k hk
    have hk := List.mem_range.1 hk
    have h1 := h k hk
    rw [List.getElem?_eq_getElem (show k < q.length by omega), List.getElem?_eq_getElem hq, List.getElem?_eq_getElem (show k < (atL p l).length by rw [atL_length]; omega), List.getElem?_eq_getElem (show n < (atL p l).length by rw [atL_length]; omega)]
    simpa using h1
theorem allfits_iff {p q l : List Int} (hl : l.length = q.length) : allfits p q l = true ↔ ∀ i j (hi : i < l.length) (hj : j < l.length), i < j → (q[i]'(by omega) < q[j]'(by omega) ↔ (atL p l)[i]'(by rw [atL_length]; omega) < (atL p l)[j]'(by rw [atL_length]; omega)) := by
  unfold allfits
  rw [List.all_eq_true]
  have key : ∀ (j : Nat) (hj : j < l.length) (k : Nat) (hk : k < j + 1), (atL p (l.take (j + 1)))[k]'(by rw [atL_length, List.length_take]; omega) = (atL p l)[k]'(by rw [atL_length]; omega) := by
    intro j hj k hk
    simp [atL]
  constructor
  · intro h i j hi hj hij
    have h1 := (fitsB_iff (p := p) (q := q) (n := j) (by rw [List.length_take]; omega) (by omega)).1 (h j (List.mem_range.2 hj)) i hij
    rw [key j hj i (by omega), key j hj j (by omega)] at h1
    exact h1
  · intro h j hj
    have hj := List.mem_range.1 hj
    rw [fitsB_iff (n := j) (by rw [List.length_take]; omega) (by omega)]
    intro k hk
    rw [key j hj k (by omega), key j hj j (by omega)]
    exact h k j (by omega) hj hk
theorem allfits_pat {p q l : List Int} (hp : permB p = true) (hq : permB q = true) (hl : l ∈ ascI p.length q.length) : allfits p q l = decide (patL (atL p l) = q) := by
  obtain ⟨h1, h2⟩ := ascI_mem hl
  have hn := atL_nodup (permB_true hp).2.2 h2
  have hi := patL_iff (L := atL p l) (q := q) (by rw [atL_length, h1]) hn hq
  rw [Bool.eq_iff_iff, allfits_iff h1, decide_eq_true_eq, hi]
  constructor
  · intro h i j hi hj hij
    rw [atL_length] at hi hj
    exact h i j hi hj hij
  · intro h i j hi hj hij
    exact h i j (by rw [atL_length]; exact hi) (by rw [atL_length]; exact hj) hij
theorem occ_eq {p q : List Int} (hp : permB p = true) (hq : permB q = true) : occL p q = occI p q := by
  unfold occL occI
  rw [occF_filter p q q.length [] rfl, asc_fill]
  exact List.filter_congr fun l hl => allfits_pat hp hq hl
theorem occF_le (p q : List Int) : ∀ (k : Nat) (l : List Int), 1 ≤ fromI l → (occF p q k l).length ≤ p.length ^ k := by
  intro k
  induction k with
  | zero => intro l _; simp [occF]
  | succ k ih =>
    intro l hl
    have hm : ∀ x ∈ (ways p.length l).filter fun x => fitsB p q (l ++ [x]), (occF p q k (l ++ [x])).length ≤ p.length ^ k := fun x hx => by
      have := (ways_mem.1 (List.mem_filter.1 hx).1).1
      exact ih _ (by rw [fromI_snoc]; omega)
    have h := flatMap_le (fun x => occF p q k (l ++ [x])) (p.length ^ k) _ hm
    have h1 : ((ways p.length l).filter fun x => fitsB p q (l ++ [x])).length ≤ p.length := Nat.le_trans (List.length_filter_le _ _) (ways_le hl)
    have h2 := Nat.mul_le_mul_right (p.length ^ k) h1
    rw [Nat.pow_succ, Nat.mul_comm]
    exact Nat.le_trans h h2

/-- Does the pattern occur? -/
def hasB (p q : List Int) : Bool := !(occL p q).isEmpty
/-- Places counted from 0, as the program counts them. -/
def from0 (l : List Int) : Int := match l.getLast? with
  | none => 0
  | some x => x + 1
theorem from0_up (l : List Int) : fromI (l.map (· + 1)) = from0 l + 1 := by
  unfold fromI from0
  rw [List.getLast?_map]
  cases l.getLast? <;> rfl
def up (l : List Int) : List Int := l.map (· + 1)
def hasF (p q : List Int) : Nat → List Int → Bool
  | 0, _ => true
  | k + 1, l => (marks (from0 l) ((p.length : Int) - (k + 1) + 1 - from0 l).toNat).any fun i => fitsB p q (up (l ++ [i])) && hasF p q k (l ++ [i])
theorem occF_none (p q : List Int) : ∀ (k : Nat) (l : List Int), (p.length : Int) + 1 < fromI l + k → 1 ≤ k → occF p q k l = [] := by
  intro k
  induction k with
  | zero => intro l _ h; omega
  | succ k ih =>
    intro l h _
    show ((ways p.length l).filter fun x => fitsB p q (l ++ [x])).flatMap (fun x => occF p q k (l ++ [x])) = []
    rw [List.flatMap_eq_nil_iff]
    intro x hx
    obtain ⟨h1, h2⟩ := ways_mem.1 (List.mem_filter.1 hx).1
    rcases Nat.eq_zero_or_pos k with rfl | hk
    · exfalso; simp at h; omega
    · exact ih _ (by rw [fromI_snoc]; push_cast at h; omega) hk
theorem hasF_eq (p q : List Int) : ∀ (k : Nat) (l : List Int), hasF p q k l = !(occF p q k (up l)).isEmpty := by
  intro k
  induction k with
  | zero => intro l; simp [hasF, occF]
  | succ k ih =>
    intro l
    have hup : ∀ x, up l ++ [x + 1] = up (l ++ [x]) := fun x => by simp [up]
    rw [Bool.eq_iff_iff]
    constructor
    · intro h
      obtain ⟨i, hi, h1⟩ := List.any_eq_true.1 h
      simp only [Bool.and_eq_true] at h1
      rw [ih] at h1
      obtain ⟨m, hm, rfl⟩ := List.mem_map.1 hi
      have hm := List.mem_range.1 hm
      rw [Bool.not_eq_true', List.isEmpty_eq_false_iff] at h1 ⊢
      intro he
      have h2 : (from0 l + m + 1) ∈ (ways p.length (up l)).filter fun x => fitsB p q (up l ++ [x]) := by
        refine List.mem_filter.2 ⟨ways_mem.2 ?_, by rw [hup]; exact h1.1⟩
        rw [show fromI (up l) = from0 l + 1 from from0_up l]
        push_cast at hm
        omega
      have h3 := List.flatMap_eq_nil_iff.1 he _ h2
      rw [hup] at h3
      exact h1.2 h3
    · intro h
      rw [Bool.not_eq_true', List.isEmpty_eq_false_iff] at h
      have hne : ∃ x, x ∈ ((ways p.length (up l)).filter fun x => fitsB p q (up l ++ [x])) ∧ occF p q k (up l ++ [x]) ≠ [] := by
        apply Classical.byContradiction
        intro hno
        apply h
        show ((ways p.length (up l)).filter fun x => fitsB p q (up l ++ [x])).flatMap (fun x => occF p q k (up l ++ [x])) = []
        rw [List.flatMap_eq_nil_iff]
        intro x hx
        apply Classical.byContradiction
        intro hc
        exact hno ⟨x, hx, hc⟩
      obtain ⟨x, hx, hc⟩ := hne
      obtain ⟨hx1, hx2⟩ := List.mem_filter.1 hx
      obtain ⟨h1, h2⟩ := ways_mem.1 hx1
      rw [show fromI (up l) = from0 l + 1 from from0_up l] at h1
      obtain ⟨i, rfl⟩ : ∃ i, x = i + 1 := ⟨x - 1, by omega⟩
      rw [hup] at hx2 hc
      refine List.any_eq_true.2 ⟨i, List.mem_map.2 ⟨(i - from0 l).toNat, List.mem_range.2 ?_, by omega⟩, ?_⟩
      · rcases Nat.eq_zero_or_pos k with rfl | hk
        · simp; omega
        · have : ¬ ((p.length : Int) + 1 < fromI (up (l ++ [i])) + k) := fun h => hc (occF_none p q k _ h hk)
          rw [show fromI (up (l ++ [i])) = from0 (l ++ [i]) + 1 from from0_up _] at this
          have e : from0 (l ++ [i]) = i + 1 := by simp [from0]
          rw [e] at this
          push_cast
          omega
      · simp only [Bool.and_eq_true]
        rw [ih, Bool.not_eq_true', List.isEmpty_eq_false_iff]
        exact ⟨hx2, hc⟩
theorem hasF_all (p q : List Int) : hasF p q q.length [] = hasB p q := hasF_eq p q q.length []
end Go.Proofs.YtodloeonlaljpaaGreatDoor

/- The laws' own helpers for meshes: turned from N2. -/
namespace Go.Proofs.YtodloeonlaljpaaGreatDoor
set_option maxRecDepth 100000
open Go Go.RowKit






end Go.Proofs.YtodloeonlaljpaaGreatDoor

/- A list of rows that is sifted: some of its rows go into another list. -/
namespace Go.Proofs.YtodloeonlaljpaaGreatDoor
set_option maxRecDepth 100000
open Go Go.RowKit

/-- The rows of a list (blocks from a to b), and another outer slice beside them. -/
structure Sift (w : World) (lo a b : Nat) (rs : List Row) (o : Outer) (A : Option Addr) (c : Nat) (vs : List Value) : Prop where
  rows : Own w a b rs [o]
  out : w.ownsRow lo 27 1 (.slice A vs.length c) vs.length vs
  off : ∀ g, (Value.slice A vs.length c).ownBlock = some g → g < a ∨ b ≤ g

section
variable {w w' : World} {lo a b : Nat} {rs : List Row} {o : Outer} {A : Option Addr} {c : Nat} {vs : List Value}
theorem Sift.below (h : Sift w lo a b rs o A c vs) (hb : Below w.heap.size w w') : Sift w' lo a b rs o A c vs := ⟨h.rows.below hb, own_below h.out hb, h.off⟩
theorem Sift.dr (h : Sift w lo a b rs o A c vs) (hd : Dr w w') : Sift w' lo a b rs o A c vs := ⟨h.rows.dr hd, hd.own h.out, h.off⟩
theorem Sift.outN {n : Nat} (h : Sift w lo a b rs o A c vs) (hn : vs.length = n) : w.ownsRow lo 27 1 (.slice A n c) n vs := by subst hn; exact h.out
theorem Sift.grow {n : Nat} {u v1 : Value} {ob : Obj} (h : Sift w lo a b rs o A c vs) (hb : b ≤ w.heap.size) (hn : vs.length = n)
    (h1 : w'.ownsRow lo 27 1 v1 (n + 1) (vs ++ [u])) (hg : (w.alloc ob).grownBy w' (Value.slice A n c).ownBlock) (hat : v1.ownBlock = (Value.slice A n c).ownBlock ∨ v1.ownBlock = some (w.alloc ob).heap.size) :
    ∃ A1 c1, v1 = .slice A1 (n + 1) c1 ∧ Sift w' lo a b rs o A1 c1 (vs ++ [u]) ∧ w.grownBy w' (Value.slice A n c).ownBlock := by
  subst hn
  obtain ⟨A1, c1, rfl, _, _⟩ := own_shape h1
  have hg2 : w.grownBy w' (Value.slice A vs.length c).ownBlock := grown_trans (World.grownBy_alloc w ob _) hg
  refine ⟨A1, c1, rfl, ⟨?_, by simpa using h1, fun g hgg => ?_⟩, hg2⟩
  · rcases hv : (Value.slice A vs.length c).ownBlock with _ | g
    · rw [hv] at hg2
      exact h.rows.below (below_none hg2)
    · rw [hv] at hg2
      have hoff := h.off g hv
      exact h.rows.span (Span.of_grown (lo := g) (hi := g + 1) hg2 (fun q hq => by injection hq with hq; omega)) (by omega)
  · have hgg' : (Value.slice A1 (vs.length + 1) c1).ownBlock = some g := by simpa [Value.ownBlock] using hgg
    rcases hat with e | e
    · rw [e] at hgg'; exact h.off g hgg'
    · rw [e] at hgg'
      injection hgg' with hgg'
      simp at hgg'
      exact .inr (by omega)
theorem Sift.olim {n : Nat} (h : Sift w lo a b rs o A c vs) (hn : vs.length = n) : ∀ g, (Value.slice A n c).ownBlock = some g → lo ≤ g := fun g hg => by
  subst hn
  exact (h.out.lt g hg).1
theorem Sift.done {rs' : List Row} (h : Sift w lo a b rs o A c vs) (hv : vs = rs'.map Row.v) (hs : rs'.Sublist rs) (hlo : lo ≤ a) (hb : b ≤ w.heap.size) : Own w lo w.heap.size rs' [⟨A, c, rs'.map Row.v⟩] := by
  subst hv
  exact ((h.rows.bare.sub hs).wider hlo hb).with_ h.out (Nat.le_refl _)
/-- The list is there; the other one is the empty literal that lay before it. -/
theorem Sift.start {w0 : World} (h : Own w a b rs [o]) (ho : w0.ownsRow lo 27 1 (.slice A 0 c) 0 []) (hb : Below w0.heap.size w0 w) (ha : w0.heap.size ≤ a) : Sift w lo a b rs o A c [] :=
  ⟨h, own_below ho hb, fun g hg => .inl (by have := (ho.lt g hg).2; omega)⟩
end
end Go.Proofs.YtodloeonlaljpaaGreatDoor

/- An outer slice of a call's own whose rows are only read, or are the call's own: it grows by append. -/
namespace Go.Proofs.YtodloeonlaljpaaGreatDoor
set_option maxRecDepth 100000
open Go Go.RowKit

/-- A row that lies below lo, or is owned. -/
def RowOk (w : World) (lo : Nat) (r : Row) : Prop := r.xs.length ≤ r.c ∧ (Rd (Value.int .i64) w lo r.A r.xs ∨ w.ownsRow lo 3 1 r.v r.xs.length (r.xs.map (Value.int .i64)))
structure OutL (w : World) (lo : Nat) (A : Option Addr) (c : Nat) (rs : List Row) : Prop where
  out : w.ownsRow lo 27 1 (.slice A rs.length c) rs.length (rs.map Row.v)
  rows : ∀ r ∈ rs, RowOk w lo r
theorem own_typesO {w : World} {b1 e1 n1 b2 e2 n2 : Nat} {v1 v2 : Value} {x1 x2 : List Value} (h1 : w.ownsRow b1 e1 1 v1 n1 x1) (h2 : w.ownsRow b2 e2 1 v2 n2 x2) (he : e1 ≠ e2) : v1.ownBlock = none ∨ v1.ownBlock ≠ v2.ownBlock := by
  rcases h1.2 with ⟨e, _⟩ | ⟨g1, c1, cur1, e1', _, hh1, _⟩
  · exact .inl (by rw [e]; rfl)
  · refine .inr fun h => ?_
    rcases h2.2 with ⟨e, _⟩ | ⟨g2, c2, cur2, e2', _, hh2, _⟩
    · rw [e, e1'] at h; cases h
    · rw [e1', e2'] at h
      injection h with h
      simp only at h
      subst h
      rw [hh1] at hh2
      injection hh2 with hh2
      injection hh2 with _ ht _
      exact he ht
section
variable {w w' : World} {lo : Nat} {A : Option Addr} {c : Nat} {rs : List Row} {r : Row}
theorem RowOk.in_ (h : RowOk w lo r) (hl : r.xs.length ≤ 1048576) (hlo : lo ≤ w.heap.size) : In w r.A r.c r.xs := ⟨hl, h.1, by
  rcases h.2 with h2 | h2
  · exact h2.more hlo
  · exact Rd.of_own (c := r.c) h2⟩
theorem RowOk.of_in {A : Option Addr} {c : Nat} {xs : List Int} (h : In w A c xs) (hlo : w.heap.size ≤ lo) : RowOk w lo ⟨A, c, xs⟩ := ⟨h.cap, .inl (h.rd.more hlo)⟩
theorem RowOk.below (h : RowOk w lo r) (hb : Below w.heap.size w w') (hlo : lo ≤ w.heap.size) : RowOk w' lo r := ⟨h.1, by
  rcases h.2 with h2 | h2
  · exact .inl (h2.below (hb.mono hlo))
  · exact .inr (own_below h2 hb)⟩
theorem RowOk.dr (h : RowOk w lo r) (hd : Dr w w') : RowOk w' lo r := ⟨h.1, h.2.imp (fun h => h.dr hd) fun h => hd.own h⟩
/-- A cell of another kind is written. -/
theorem RowOk.span {a b : Nat} (h : RowOk w lo r) (hs : Span a b w w') (ha : lo ≤ a) (hlo : lo ≤ w.heap.size) (hg : ∀ g, r.v.ownBlock = some g → g < a ∨ b ≤ g) : RowOk w' lo r := ⟨h.1, by
  rcases h.2 with h2 | h2
  · exact .inl (h2.below (hs.below ha hlo))
  · exact .inr (own_span h2 hs hg)⟩
theorem OutL.below (h : OutL w lo A c rs) (hb : Below w.heap.size w w') (hlo : lo ≤ w.heap.size) : OutL w' lo A c rs := ⟨own_below h.out hb, fun r hr => (h.rows r hr).below hb hlo⟩
theorem OutL.dr (h : OutL w lo A c rs) (hd : Dr w w') : OutL w' lo A c rs := ⟨hd.own h.out, fun r hr => (h.rows r hr).dr hd⟩
/-- A block that is no row of whole numbers and not the outer slice's is written. -/
theorem OutL.box {g i : Nat} {cs : Array Value} {t : TypeId} (h : OutL w lo A c rs) (hlo : lo ≤ g) (hls : lo ≤ w.heap.size) (ho : w.heap[g]? = some (Obj.cells cs t (0, 0))) (h1 : t ≠ 3) (h2 : t ≠ 27) (v : Value) : OutL (w.setCell ⟨g, i, none⟩ v) lo A c rs := by
  have hs : Span g (g + 1) w (w.setCell ⟨g, i, none⟩ v) := Span.set (p := ⟨g, i, none⟩) (Nat.le_refl _) (Nat.lt_succ_self _) _
  have key : ∀ {b e n : Nat} {u : Value} {xs : List Value}, w.ownsRow b e 1 u n xs → t ≠ e → ∀ q, u.ownBlock = some q → q < g ∨ g + 1 ≤ q := by
    intro b e n u xs ho2 hne q hq
    rcases ho2.2 with ⟨e1, _⟩ | ⟨g1, c1, cur1, e1', _, hh1, _⟩
    · rw [e1] at hq; cases hq
    · rw [e1'] at hq
      injection hq with hq
      have hq : g1 = q := hq
      subst hq
      by_cases hgq : g1 = g
      · subst hgq
        rw [ho] at hh1
        injection hh1 with hh1
        injection hh1 with _ ht _
        exact absurd ht hne
      · omega
  refine ⟨own_span h.out hs (key h.out h2), fun r hr => ?_⟩
  have hr := h.rows r hr
  refine ⟨hr.1, ?_⟩
  rcases hr.2 with h3 | h3
  · exact .inl (h3.below (hs.below hlo hls))
  · exact .inr (own_span h3 hs (key h3 h1))
theorem OutL.inL (h : OutL w lo A c rs) (hlo : lo ≤ w.heap.size) (hs : rs.length + sizeR rs ≤ 1048576) : InL w A c rs := by
  refine ⟨hs, ⟨fun r hr => (h.rows r hr).1, fun r hr => ((h.rows r hr).in_ (by have := sizeR_mem hr; omega) hlo).rd, fun o ho => ?_, fun o ho => ?_⟩⟩
  · obtain rfl := List.mem_singleton.1 ho
    have := (own_caps (A := A) (n := rs.length) (c := c) h.out).1
    simpa using this
  · obtain rfl := List.mem_singleton.1 ho
    exact Rd.of_own (f := id) (e := 27) (c := c) (by rw [List.map_id, List.length_map]; exact h.out)
/-- append of a row's header. -/
theorem OutL.push {o : Obj} {v1 : Value} {n : Nat} (h : OutL w lo A c rs) (hn : rs.length = n) (hlo : lo ≤ w.heap.size) (hr : RowOk w lo r)
    (h1 : w'.ownsRow lo 27 1 v1 (n + 1) (rs.map Row.v ++ [r.v])) (hg : (w.alloc o).grownBy w' (Value.slice A n c).ownBlock) :
    ∃ A1 c1, v1 = .slice A1 (n + 1) c1 ∧ OutL w' lo A1 c1 (rs ++ [r]) ∧ w.grownBy w' (Value.slice A n c).ownBlock ∧ w.heap.size < w'.heap.size := by
  subst hn
  obtain ⟨A1, c1, rfl, _, _⟩ := own_shape h1
  have hgg := grown_trans (World.grownBy_alloc w o _) hg
  have hsz : w.heap.size < w'.heap.size := by have := hg.size; simp at this; omega
  have key : ∀ s, RowOk w lo s → RowOk w' lo s := fun s hs => by
    refine ⟨hs.1, ?_⟩
    rcases hs.2 with h3 | h3
    · exact .inl (h3.grown hgg hlo fun g hgq => (h.out.lt g hgq).1)
    · exact .inr (h3.kept hgg (own_typesO h3 h.out (by decide)))
  refine ⟨A1, c1, rfl, ⟨by simpa using h1, fun s hs => ?_⟩, hgg, hsz⟩
  rcases List.mem_append.1 hs with hs | hs
  · exact key s (h.rows s hs)
  · obtain rfl := List.mem_singleton.1 hs
    exact key _ hr
/-- append of rows' headers. -/
theorem OutL.pushes {v1 : Value} {n m : Nat} {qs : List Row} (h : OutL w lo A c rs) (hn : rs.length = n) (hm : qs.length = m) (hlo : lo ≤ w.heap.size) (hr : ∀ r ∈ qs, RowOk w lo r)
    (h1 : w'.ownsRow lo 27 1 v1 (n + m) (rs.map Row.v ++ qs.map Row.v)) (hgg : w.grownBy w' (Value.slice A n c).ownBlock) :
    ∃ A1 c1, v1 = .slice A1 (n + m) c1 ∧ OutL w' lo A1 c1 (rs ++ qs) := by
  subst hn hm
  obtain ⟨A1, c1, rfl, _, _⟩ := own_shape h1
  have key : ∀ s, RowOk w lo s → RowOk w' lo s := fun s hs => by
    refine ⟨hs.1, ?_⟩
    rcases hs.2 with h3 | h3
    · exact .inl (h3.grown hgg hlo fun g hgq => (h.out.lt g hgq).1)
    · exact .inr (h3.kept hgg (own_typesO h3 h.out (by decide)))
  refine ⟨A1, c1, rfl, ⟨by simpa using h1, fun s hs => ?_⟩⟩
  rcases List.mem_append.1 hs with hs | hs
  · exact key s (h.rows s hs)
  · exact key s (hr s hs)
theorem OutL.nil (w : World) (lo : Nat) : OutL w lo none 0 [] := ⟨⟨rfl, .inl ⟨rfl, rfl⟩⟩, fun _ hr => (List.not_mem_nil hr).elim⟩
theorem OutL.lt (h : OutL w lo A c rs) {n : Nat} (hn : rs.length = n) : ∀ g, (Value.slice A n c).ownBlock = some g → lo ≤ g ∧ g < w.heap.size := fun g hg => by subst hn; exact h.out.lt g hg
end
/-- The row [x, y] that was laid down by a literal. -/
theorem RowOk.two {w : World} {lo bl : Nat} {x y : Int} (h : w.heap[bl]? = some (Obj.cells #[.int .i64 x, .int .i64 y] 3 (0, 0))) (hl : lo ≤ bl) : RowOk w lo ⟨some ⟨bl, 0, none⟩, 2, [x, y]⟩ := by
  exact ⟨Nat.le_refl _, .inr ⟨rfl, .inr ⟨bl, 2, #[.int .i64 x, .int .i64 y], rfl, hl, h, Nat.le_refl _, by unfold maxLen; omega, rfl, rfl⟩⟩⟩
end Go.Proofs.YtodloeonlaljpaaGreatDoor

/- Splitting at a byte: plain lists; ParseBasis's plain law. -/
namespace Go.Proofs.YtodloeonlaljpaaGreatDoor
set_option maxRecDepth 100000
open Go Go.RowKit

def splitL (c : UInt8) : List UInt8 → List (List UInt8)
  | [] => [[]]
  | b :: l => if b = c then [] :: splitL c l else match splitL c l with
    | h :: r => (b :: h) :: r
    | [] => [[b]]
theorem splitL_ne (c : UInt8) (l : List UInt8) : splitL c l ≠ [] := by
  cases l with
  | nil => simp [splitL]
  | cons b t =>
    unfold splitL
    split
    · simp
    · split <;> simp
theorem split_lib (c : UInt8) : ∀ (l : List UInt8) (k : Nat), Lib.count l [c] = k → Lib.splitK [c] 0 k l = splitL c l
  | [], k, h => by
    rw [Lib.count_miss (by simp [Lib.index])] at h
    subst h
    rfl
  | b :: l, k, h => by
    by_cases hb : b = c
    · subst hb
      rw [Lib.count_cons_eq] at h
      have hix : Lib.index (b :: l) [b] = ((0 : Nat) : Int) := by rw [Lib.index]; simp [List.isPrefixOf]
      obtain ⟨k', rfl⟩ : ∃ k', k = k' + 1 := ⟨k - 1, by omega⟩
      rw [Lib.splitK, hix]
      have ih := split_lib b l k' (by omega)
      simp only [splitL, if_true]
      rw [if_neg (by decide)]
      show (b :: l).take 0 :: Lib.splitK [b] 0 k' ((b :: l).drop 1) = _
      rw [← ih]
      rfl
    · rw [Lib.count_cons_ne b c l hb] at h
      have ih := split_lib c l k h
      have hp : ([c] : List UInt8).isPrefixOf (b :: l) = false := by simp [List.isPrefixOf, Ne.symm hb]
      have hix : Lib.index (b :: l) [c] = if Lib.index l [c] == -1 then -1 else Lib.index l [c] + 1 := by rw [Lib.index, hp]; simp
      simp only [splitL, if_neg hb]
      rw [← ih]
      cases k with
      | zero => rfl
      | succ k' =>
        rw [Lib.splitK, Lib.splitK]
        by_cases hm : Lib.index l [c] = -1
        · rw [Lib.count_miss hm] at h; omega
        · have hge := Lib.index_ge l [c]
          obtain ⟨j, hj⟩ : ∃ j : Nat, Lib.index l [c] = j := ⟨(Lib.index l [c]).toNat, by omega⟩
          rw [hix, if_neg (fun e => hm (beq_iff_eq.1 e)), if_neg (fun e => by have := beq_iff_eq.1 e; omega), if_neg (fun e => hm (beq_iff_eq.1 e)), hj]
          have e1 : ((j : Int) + 1).toNat = j + 1 := by omega
          simp [e1]
/-- One step of the splitting from the left. -/
def spS (c : UInt8) (s : List (List UInt8) × List UInt8) (x : UInt8) : List (List UInt8) × List UInt8 := if x = c then (s.1 ++ [s.2], []) else (s.1, s.2 ++ [x])
def spF (c : UInt8) (l : List UInt8) : List (List UInt8) × List UInt8 := l.foldl (spS c) ([], [])
def prep (cur : List UInt8) : List (List UInt8) → List (List UInt8)
  | h :: r => (cur ++ h) :: r
  | [] => [cur]
theorem sp_fold (c : UInt8) : ∀ (l : List UInt8) (a : List (List UInt8)) (cur : List UInt8), (l.foldl (spS c) (a, cur)).1 ++ [(l.foldl (spS c) (a, cur)).2] = a ++ prep cur (splitL c l)
  | [], a, cur => by simp [splitL, prep]
  | b :: l, a, cur => by
    rw [List.foldl_cons]
    by_cases hb : b = c
    · have e : spS c (a, cur) b = (a ++ [cur], []) := by unfold spS; rw [if_pos hb]
      rw [e, sp_fold c l]
      simp only [splitL, if_pos hb, prep, List.append_nil, List.append_assoc, List.singleton_append]
      congr 2
      match h : splitL c l with
      | [] => exact absurd h (splitL_ne c l)
      | x :: r => rfl
    · have e : spS c (a, cur) b = (a, cur ++ [b]) := by unfold spS; rw [if_neg hb]
      rw [e, sp_fold c l]
      simp only [splitL, if_neg hb]
      match h : splitL c l with
      | [] => exact absurd h (splitL_ne c l)
      | x :: r => simp [prep]
theorem sp_all (c : UInt8) (l : List UInt8) : (spF c l).1 ++ [(spF c l).2] = splitL c l := by
  unfold spF
  rw [sp_fold]
  match h : splitL c l with
  | [] => exact absurd h (splitL_ne c l)
  | x :: r => simp [prep]
theorem spF_snoc (c : UInt8) (l : List UInt8) (x : UInt8) : spF c (l ++ [x]) = spS c (spF c l) x := by unfold spF; rw [List.foldl_append]; rfl
theorem rev_ind {P : List UInt8 → Prop} (h0 : P []) (h1 : ∀ l x, P l → P (l ++ [x])) (l : List UInt8) : P l := by
  have h : ∀ l : List UInt8, P l.reverse := fun l => by
    induction l with
    | nil => exact h0
    | cons a t ih => rw [List.reverse_cons]; exact h1 _ _ ih
  have := h l.reverse
  rwa [List.reverse_reverse] at this
/-- What lies behind the last cut is the text's end. -/
theorem spF_cur (c : UInt8) (l : List UInt8) : (spF c l).2.length ≤ l.length ∧ l.drop (l.length - (spF c l).2.length) = (spF c l).2 := by
  refine rev_ind (P := fun l => (spF c l).2.length ≤ l.length ∧ l.drop (l.length - (spF c l).2.length) = (spF c l).2) (by simp [spF]) (fun l x ih => ?_) l
  rw [spF_snoc]
  unfold spS
  split
  · simp
  · obtain ⟨h1, h2⟩ := ih
    refine ⟨by simp; omega, ?_⟩
    have e : (l ++ [x]).length - ((spF c l).2 ++ [x]).length = l.length - (spF c l).2.length := by simp
    rw [e, List.drop_append_of_le_length (by omega), h2]
theorem spF_len (c : UInt8) (l : List UInt8) : (spF c l).1.length + (spF c l).2.length + ((spF c l).1.map List.length).sum = l.length := by
  refine rev_ind (P := fun l => (spF c l).1.length + (spF c l).2.length + ((spF c l).1.map List.length).sum = l.length) (by simp [spF]) (fun l x ih => ?_) l
  rw [spF_snoc]
  unfold spS
  split
  · simp; omega
  · simp; omega
end Go.Proofs.YtodloeonlaljpaaGreatDoor

/- Contracts of OverlapsOf, IsLoose, CountRuns. -/
namespace Go.Proofs.YtodloeonlaljpaaGreatDoor
set_option maxRecDepth 100000
open Go Go.RowKit

theorem In.own {w : World} {base e c : Nat} {A : Option Addr} {xs : List Int} (h : w.ownsRow base e 1 (.slice A xs.length c) xs.length (xs.map (Value.int .i64))) (hl : xs.length ≤ 1048576) : In w A c xs :=
  ⟨hl, (own_caps h).1, Rd.of_own h⟩
theorem sizeI (w : World) : (sizeOf (Tryz.prog.elem 27)).run Tryz.prog w = .ok 1 w := by kernel_rfl

def ovH (xs : List Int) (k : Nat) : Bool := decide (patL (xs.take k) = patL (xs.drop (xs.length - k)))
def ovTo (xs : List Int) (k : Nat) : List Int := ((List.range k).filter fun i => decide (1 ≤ i) && ovH xs i).map fun i : Nat => (i : Int)
theorem ovTo_succ (xs : List Int) (k : Nat) (h : 1 ≤ k) : ovTo xs (k + 1) = if ovH xs k = true then ovTo xs k ++ [(k : Int)] else ovTo xs k := by
  unfold ovTo
  rw [List.range_succ, List.filter_append]
  have : decide (1 ≤ k) = true := by simpa using h
  by_cases hk : ovH xs k = true <;> simp [hk, h]
theorem ovTo_length (xs : List Int) (k : Nat) : (ovTo xs k).length ≤ k := by
  unfold ovTo
  rw [List.length_map]
  exact Nat.le_trans (List.length_filter_le _ _) (by simp)
def ovG (xs : List Int) : List Int := if permB xs = true then ovTo xs xs.length else []
theorem ovG_length (xs : List Int) : (ovG xs).length ≤ 8 := by
  unfold ovG
  split
  · rename_i h
    have := ovTo_length xs xs.length
    have := (permB_true h).1
    omega
  · simp






def runH (p q : List Int) (i : Nat) : Bool := decide (patL ((p.drop i).take q.length) = q)
def runsTo (p q : List Int) (k : Nat) : Nat := ((List.range k).filter (runH p q)).length
theorem runsTo_succ (p q : List Int) (k : Nat) : runsTo p q (k + 1) = runsTo p q k + (if runH p q k = true then 1 else 0) := by
  unfold runsTo
  rw [List.range_succ, List.filter_append, List.length_append]
  congr 1
  by_cases h : runH p q k = true <;> simp [h]
theorem runsTo_le (p q : List Int) (k : Nat) : runsTo p q k ≤ k := Nat.le_trans (List.length_filter_le _ _) (by simp)
def runsN (p q : List Int) : Nat := runsTo p q (p.length + 1 - q.length)
def runsG (p q : List Int) : Int := if permB p = true ∧ permB q = true ∧ q.length ≠ 0 then (runsN p q : Int) else -1



end Go.Proofs.YtodloeonlaljpaaGreatDoor

/- ParsePerm, program and reference; SplitByte. -/
namespace Go.Proofs.YtodloeonlaljpaaGreatDoor
set_option maxRecDepth 100000
open Go Go.RowKit

def ppL (l : List UInt8) : List Int := l.map fun b => (b.toNat : Int) - 48
theorem ppL_len (l : List UInt8) : (ppL l).length = l.length := by simp [ppL]
def ppB (l : List UInt8) : Bool := decide (l = [45]) || (decide (l ≠ []) && permB (ppL l))
def ppG (l : List UInt8) : List Int := if ppB l = true then (if l = [45] then [] else ppL l) else []
theorem ppG_len (l : List UInt8) : (ppG l).length ≤ l.length ∧ (ppG l).length ≤ 8 := by
  unfold ppG
  split
  · rename_i h
    split
    · simp
    · rename_i h2
      unfold ppB at h
      rw [decide_eq_false h2, Bool.false_or, Bool.and_eq_true] at h
      have h8 := (permB_true h.2).1
      rw [ppL_len] at *
      omega
  · simp
def ppTo (l : List UInt8) (k : Nat) : List Int := ppL (l.take k)
theorem ppTo_succ (l : List UInt8) (k : Nat) (h : k < l.length) : ppTo l (k + 1) = ppTo l k ++ [(l[k].toNat : Int) - 48] := by
  unfold ppTo ppL
  rw [List.take_succ_eq_append_getElem h, List.map_append]; rfl
set_option maxHeartbeats 1000000 in
theorem parsePerm_impl (s : ByteArray) (w : World) (hs : s.size ≤ 1048576) :
    Calls Tryz.prog 35 #[.string s] w (Ret2 (Value.int .i64) 3 w (ppG s.data.toList) (ppB s.data.toList)) := by
  obtain ⟨i0, hi, hz0, hz1, hz2⟩ := info_parts infoI
  have hl : s.data.toList.length = s.size := by show s.data.toList.length = s.data.size; simp
  have own0 : (w.alloc (.cells #[] 3)).ownsRow w.heap.size 3 1 (.slice (some ⟨w.heap.size, 0, none⟩) 0 0) 0 (([] : List Int).map (Value.int .i64)) := World.ownsRow_lit w #[] 0 (Nat.le_refl _) (by unfold maxLen; omega) rfl
  have hb0 := (Below.refl w.heap.size w).alloc (Nat.le_refl _) (.cells #[] 3)
  have hTL : s.toList = s.data.toList := ByteArray.toList_eq s
  have hnil : s.data.toList = [] ↔ s.size = 0 := by rw [← hl]; exact List.length_eq_zero_iff.symm
  by_cases hd : s.data.toList = [45]
  · have d1 : (s.toList == [45]) = true := by rw [hTL, hd]; rfl
    have HB := Lib.hid (show ppB s.data.toList = true by unfold ppB; rw [decide_eq_true hd]; rfl)
    have HG := Lib.hid (show ppG s.data.toList = [] by unfold ppG; rw [HB.out, if_pos rfl, if_pos hd])
    clear hd hTL hnil
    go_enter Tryz.func35, Tryz.ntmps35
    go_wp2_with fail
    go_ret2
    rw [HB.out, HG.out]
    exact ⟨_, 0, rfl, Nat.le_refl _, Nat.zero_le _, own0, hb0⟩
  · have d1 : (s.toList == [45]) = false := by rw [hTL]; simpa using hd
    have HD := Lib.hid hd
    have HN := Lib.hid hnil
    have HTL := Lib.hid hTL
    clear hd hTL hnil
    go_enter Tryz.func35, Tryz.ntmps35
    go_wp2_with fail
    go_loopw [4, 12] (fun v i wr => ∃ (k : Nat) (A1 : Option Addr) (c1 : Nat), k ≤ s.size ∧ i = .int .i64 k ∧ v = .slice A1 k c1 ∧ wr.ownsRow w.heap.size 3 1 (.slice A1 k c1) k ((ppTo s.data.toList k).map (Value.int .i64)) ∧ Below w.heap.size w wr) (fun _ i _ => s.size - (intOf i).toNat)
    case atStart => exact ⟨0, _, _, Nat.zero_le _, rfl, rfl, own0, hb0⟩
    case round =>
      clear own0 hb0
      obtain ⟨k, A1, c1, hk, rfl, rfl, hO, hb⟩ := hrel
      have hsz := hb.size
      rcases Nat.lt_or_ge k s.size with hlt | hge
      · obtain ⟨x, hx⟩ : ∃ x : UInt8, x = s[k] := ⟨_, rfl⟩
        have hx2 := UInt8.toNat_lt x
        have HS := Lib.hid (show ppTo s.data.toList (k + 1) = ppTo s.data.toList k ++ [(x.toNat : Int) - 48] by rw [ppTo_succ _ k (by rw [hl]; exact hlt), hx]; rfl)
        have e1 : IntKind.i64.wrap (x.toNat : Int) = (x.toNat : Int) := IntWalk.i64_in _ (by omega)
        have e2 : IntKind.i64.wrap ((x.toNat : Int) - 48) = (x.toNat : Int) - 48 := IntWalk.i64_in _ (by omega)
        have hx3 : s[k] = x := hx.symm
        clear hx
        go_wp2_with (at_builtin; refine wpList_append_own _ rfl _ _ 27 rfl (w.heap.size) 3 i0 (.int .i64 0) 1 8 Tryz.underlying27 hi hz0 hz1 hz2 rfl (by decide) _ _ _ rfl (World.ownsRow.alloc hO _) ⟨wr.heap.size, 0, none⟩ 1 1 [.int .i64 ((x.toNat : Int) - 48)] rfl rfl (cell_one_new _ _ _) (by intro u hu; simp at hu; subst hu; rfl) (by unfold maxLen; omega) (by omega) (by simp; omega) ?_; intro v1 w1 hown1 hgrow1 _)
        have hb1 := (hb.alloc hsz (Obj.cells #[Value.int .i64 ((x.toNat : Int) - 48)] 3)).grown hgrow1 (by simp; omega) (by intro g hg; exact (hO.lt g hg).1)
        obtain ⟨A2, c2, rfl, _, _⟩ := own_shape hown1
        have K := Lib.hid (And.intro hown1 hb1)
        clear hown1 hgrow1 hb1 hO hb
        go_wp2_with fail
        go_roundw
        case rel => exact ⟨k + 1, A2, c2, by omega, by go_num, rfl, by rw [HS.out]; simpa using K.out.1, K.out.2⟩
        case measure => simp [intOf]; omega
      · obtain rfl : k = s.size := by omega
        have HP := Lib.hid (show ppTo s.data.toList s.size = ppL s.data.toList by unfold ppTo; rw [← hl, List.take_length])
        rcases Nat.eq_zero_or_pos s.size with h0 | h0
        · have d2 : (s.toList == []) = true := by rw [HTL.out, HN.out.2 h0]; rfl
          have HB := Lib.hid (show ppB s.data.toList = false by unfold ppB; rw [decide_eq_false HD.out, decide_eq_false (fun h => h (HN.out.2 h0))]; rfl)
          have HG := Lib.hid (show ppG s.data.toList = [] by unfold ppG; rw [HB.out]; rfl)
          clear h0
          go_wp2_with fail
          go_ret2
          rw [HB.out, HG.out]
          exact ⟨none, 0, rfl, Nat.le_refl _, Nat.zero_le _, World.ownsRow_nil _ _ _ _, hb⟩
        · have d2 : (s.toList == []) = false := by rw [HTL.out]; simp; intro e; have := HN.out.1 (by simpa using e); omega
          have hln : (ppL s.data.toList).length = s.size := by rw [ppL_len, hl]
          have hO2 : wr.ownsRow w.heap.size 3 1 (.slice A1 (ppL s.data.toList).length c1) (ppL s.data.toList).length ((ppL s.data.toList).map (Value.int .i64)) := by rw [hln, ← HP.out]; exact hO
          have hin := In.own hO2 (by rw [hln]; exact hs)
          have HO := Lib.hid hO2
          have HLN := Lib.hid hln
          have HI := Lib.hid (isPerm_ib A1 c1 (ppL s.data.toList) wr (permB (ppL s.data.toList)) hin rfl)
          rw [hln] at HI
          have hb2 := hb
          clear hO hO2 hin hln
          go_wp2_with fail
          (with_reducible refine HI.out.mono ?_)
          rintro e w1 ⟨rfl, hb1⟩
          have hbw := hb.trans (hb1.mono hsz)
          by_cases hp : permB (ppL s.data.toList) = true
          · have HB := Lib.hid (show ppB s.data.toList = true by unfold ppB; rw [hp, decide_eq_true (show s.data.toList ≠ [] from fun e => by have := HN.out.1 e; omega)]; simp)
            have HG := Lib.hid (show ppG s.data.toList = ppL s.data.toList by unfold ppG; rw [HB.out, if_pos rfl, if_neg HD.out])
            have hO3 := own_below HO.out hb1
            have HPP := Lib.hid hp
            rw [hp]
            clear hp h0
            go_wp2_with fail
            go_ret2
            rw [HB.out, HG.out]
            exact ⟨A1, c1, by rw [HLN.out]; rfl, (own_caps hO3).1, (own_caps hO3).2, hO3, hbw⟩
          · have hpf : permB (ppL s.data.toList) = false := by simpa using hp
            have HB := Lib.hid (show ppB s.data.toList = false by unfold ppB; rw [hpf, decide_eq_false HD.out, Bool.and_false]; rfl)
            have HG := Lib.hid (show ppG s.data.toList = [] by unfold ppG; rw [HB.out]; rfl)
            rw [hpf]
            clear hp hpf h0
            go_wp2_with fail
            go_ret2
            rw [HB.out, HG.out]
            exact ⟨none, 0, rfl, Nat.le_refl _, Nat.zero_le _, World.ownsRow_nil _ _ _ _, hbw⟩
set_option maxHeartbeats 1000000 in
theorem parsePerm_spec (s : ByteArray) (w : World) (hs : s.size ≤ 1048576) :
    Calls Tryz.prog 37 #[.string s] w (Ret2 (Value.int .i64) 3 w (ppG s.data.toList) (ppB s.data.toList)) := by
  obtain ⟨i0, hi, hz0, hz1, hz2⟩ := info_parts infoI
  have hl : s.data.toList.length = s.size := by show s.data.toList.length = s.data.size; simp
  have own0 : (w.alloc (.cells #[] 3)).ownsRow w.heap.size 3 1 (.slice (some ⟨w.heap.size, 0, none⟩) 0 0) 0 (([] : List Int).map (Value.int .i64)) := World.ownsRow_lit w #[] 0 (Nat.le_refl _) (by unfold maxLen; omega) rfl
  have hb0 := (Below.refl w.heap.size w).alloc (Nat.le_refl _) (.cells #[] 3)
  have hTL : s.toList = s.data.toList := ByteArray.toList_eq s
  have hnil : s.data.toList = [] ↔ s.size = 0 := by rw [← hl]; exact List.length_eq_zero_iff.symm
  by_cases hd : s.data.toList = [45]
  · have d1 : (s.toList == [45]) = true := by rw [hTL, hd]; rfl
    have HB := Lib.hid (show ppB s.data.toList = true by unfold ppB; rw [decide_eq_true hd]; rfl)
    have HG := Lib.hid (show ppG s.data.toList = [] by unfold ppG; rw [HB.out, if_pos rfl, if_pos hd])
    clear hd hTL hnil
    go_enter Tryz.func37, Tryz.ntmps37
    go_wp2_with fail
    go_ret2
    rw [HB.out, HG.out]
    exact ⟨_, 0, rfl, Nat.le_refl _, Nat.zero_le _, own0, hb0⟩
  · have d1 : (s.toList == [45]) = false := by rw [hTL]; simpa using hd
    have HD := Lib.hid hd
    have HN := Lib.hid hnil
    have HTL := Lib.hid hTL
    clear hd hTL hnil
    go_enter Tryz.func37, Tryz.ntmps37
    go_wp2_with fail
    go_loopw [4, 5] (fun v i wr => ∃ (k : Nat) (A1 : Option Addr) (c1 : Nat), k ≤ s.size ∧ i = .int .i64 k ∧ v = .slice A1 k c1 ∧ wr.ownsRow w.heap.size 3 1 (.slice A1 k c1) k ((ppTo s.data.toList k).map (Value.int .i64)) ∧ Below w.heap.size w wr) (fun _ i _ => s.size - (intOf i).toNat)
    case atStart => exact ⟨0, _, _, Nat.zero_le _, rfl, rfl, own0, hb0⟩
    case round =>
      clear own0 hb0
      obtain ⟨k, A1, c1, hk, rfl, rfl, hO, hb⟩ := hrel
      have hsz := hb.size
      rcases Nat.lt_or_ge k s.size with hlt | hge
      · obtain ⟨x, hx⟩ : ∃ x : UInt8, x = s[k] := ⟨_, rfl⟩
        have hx2 := UInt8.toNat_lt x
        have HS := Lib.hid (show ppTo s.data.toList (k + 1) = ppTo s.data.toList k ++ [(x.toNat : Int) - 48] by rw [ppTo_succ _ k (by rw [hl]; exact hlt), hx]; rfl)
        have e1 : IntKind.i64.wrap (x.toNat : Int) = (x.toNat : Int) := IntWalk.i64_in _ (by omega)
        have e2 : IntKind.i64.wrap ((x.toNat : Int) - 48) = (x.toNat : Int) - 48 := IntWalk.i64_in _ (by omega)
        have hx3 : s[k] = x := hx.symm
        clear hx
        go_wp2_with (at_builtin; refine wpList_append_own _ rfl _ _ 27 rfl (w.heap.size) 3 i0 (.int .i64 0) 1 8 Tryz.underlying27 hi hz0 hz1 hz2 rfl (by decide) _ _ _ rfl (World.ownsRow.alloc hO _) ⟨wr.heap.size, 0, none⟩ 1 1 [.int .i64 ((x.toNat : Int) - 48)] rfl rfl (cell_one_new _ _ _) (by intro u hu; simp at hu; subst hu; rfl) (by unfold maxLen; omega) (by omega) (by simp; omega) ?_; intro v1 w1 hown1 hgrow1 _)
        have hb1 := (hb.alloc hsz (Obj.cells #[Value.int .i64 ((x.toNat : Int) - 48)] 3)).grown hgrow1 (by simp; omega) (by intro g hg; exact (hO.lt g hg).1)
        obtain ⟨A2, c2, rfl, _, _⟩ := own_shape hown1
        have K := Lib.hid (And.intro hown1 hb1)
        clear hown1 hgrow1 hb1 hO hb
        go_wp2_with fail
        go_roundw
        case rel => exact ⟨k + 1, A2, c2, by omega, by go_num, rfl, by rw [HS.out]; simpa using K.out.1, K.out.2⟩
        case measure => simp [intOf]; omega
      · obtain rfl : k = s.size := by omega
        have HP := Lib.hid (show ppTo s.data.toList s.size = ppL s.data.toList by unfold ppTo; rw [← hl, List.take_length])
        rcases Nat.eq_zero_or_pos s.size with h0 | h0
        · have d2 : (s.toList == []) = true := by rw [HTL.out, HN.out.2 h0]; rfl
          have HB := Lib.hid (show ppB s.data.toList = false by unfold ppB; rw [decide_eq_false HD.out, decide_eq_false (fun h => h (HN.out.2 h0))]; rfl)
          have HG := Lib.hid (show ppG s.data.toList = [] by unfold ppG; rw [HB.out]; rfl)
          have hlit : (wr.alloc (.cells #[] 3)).ownsRow w.heap.size 3 1 (.slice (some ⟨wr.heap.size, 0, none⟩) 0 0) 0 (([] : List Int).map (Value.int .i64)) := World.ownsRow_lit wr #[] 0 hsz (by unfold maxLen; omega) rfl
          have hbl := hb.alloc hsz (.cells #[] 3)
          clear h0
          go_wp2_with fail
          go_ret2
          rw [HB.out, HG.out]
          exact ⟨_, 0, rfl, Nat.le_refl _, Nat.zero_le _, hlit, hbl⟩
        · have d2 : (s.toList == []) = false := by rw [HTL.out]; simp; intro e; have := HN.out.1 (by simpa using e); omega
          have hln : (ppL s.data.toList).length = s.size := by rw [ppL_len, hl]
          have hO2 : wr.ownsRow w.heap.size 3 1 (.slice A1 (ppL s.data.toList).length c1) (ppL s.data.toList).length ((ppL s.data.toList).map (Value.int .i64)) := by rw [hln, ← HP.out]; exact hO
          have hin := In.own hO2 (by rw [hln]; exact hs)
          have HO := Lib.hid hO2
          have HLN := Lib.hid hln
          have HI := Lib.hid (isPerm_sb A1 c1 (ppL s.data.toList) wr (permB (ppL s.data.toList)) hin rfl)
          rw [hln] at HI
          have hb2 := hb
          clear hO hO2 hin hln
          go_wp2_with fail
          (with_reducible refine HI.out.mono ?_)
          rintro e w1 ⟨rfl, hb1⟩
          have hbw := below_dr hb hb1
          by_cases hp : permB (ppL s.data.toList) = true
          · have HB := Lib.hid (show ppB s.data.toList = true by unfold ppB; rw [hp, decide_eq_true (show s.data.toList ≠ [] from fun e => by have := HN.out.1 e; omega)]; simp)
            have HG := Lib.hid (show ppG s.data.toList = ppL s.data.toList by unfold ppG; rw [HB.out, if_pos rfl, if_neg HD.out])
            have hO3 := hb1.own HO.out
            have HPP := Lib.hid hp
            rw [hp]
            clear hp h0
            go_wp2_with fail
            go_ret2
            rw [HB.out, HG.out]
            exact ⟨A1, c1, by rw [HLN.out]; rfl, (own_caps hO3).1, (own_caps hO3).2, hO3, hbw⟩
          · have hpf : permB (ppL s.data.toList) = false := by simpa using hp
            have HB := Lib.hid (show ppB s.data.toList = false by unfold ppB; rw [hpf, decide_eq_false HD.out, Bool.and_false]; rfl)
            have HG := Lib.hid (show ppG s.data.toList = [] by unfold ppG; rw [HB.out]; rfl)
            have hlit : (w1.alloc (.cells #[] 3)).ownsRow w.heap.size 3 1 (.slice (some ⟨w1.heap.size, 0, none⟩) 0 0) 0 (([] : List Int).map (Value.int .i64)) := World.ownsRow_lit w1 #[] 0 hbw.size (by unfold maxLen; omega) rfl
            have hbl := hbw.alloc hbw.size (.cells #[] 3)
            rw [hpf]
            clear hp hpf h0
            go_wp2_with fail
            go_ret2
            rw [HB.out, HG.out]
            exact ⟨_, 0, rfl, Nat.le_refl _, Nat.zero_le _, hlit, hbl⟩
theorem infoS : (Tryz.prog.info? 9).map (fun i => (i.zero, i.size, i.bytes)) = some (some (.string ⟨#[]⟩), 1, 16) := by kernel_rfl
/-- A text's bytes as a value. -/
def tv (l : List UInt8) : Value := .string ⟨l.toArray⟩
set_option maxHeartbeats 1000000 in
theorem splitByte_any (s : ByteArray) (c : UInt8) (w : World) (hs : s.size ≤ 1048576) :
    Calls Tryz.prog 36 #[.string s, .int .u8 (c.toNat : Int)] w fun e w' => ∃ A k, e = .returned (.slice A (splitL c s.data.toList).length k) ∧ w'.ownsRow w.heap.size 9 1 (.slice A (splitL c s.data.toList).length k) (splitL c s.data.toList).length ((splitL c s.data.toList).map tv) ∧ Below w.heap.size w w' := by
  obtain ⟨i0, hi, hz0, hz1, hz2⟩ := info_parts infoS
  have hl : s.data.toList.length = s.size := by show s.data.toList.length = s.data.size; simp
  have own0 : (w.alloc (.cells #[] 9)).ownsRow w.heap.size 9 1 (.slice (some ⟨w.heap.size, 0, none⟩) 0 0) 0 (([] : List (List UInt8)).map tv) := World.ownsRow_lit w #[] 0 (Nat.le_refl _) (by unfold maxLen; omega) rfl
  have hb0 := (Below.refl w.heap.size w).alloc (Nat.le_refl _) (.cells #[] 9)
  go_enter Tryz.func36, Tryz.ntmps36
  go_wp2_with fail
  go_loopw [5, 6, 7] (fun v f i wr => ∃ (k : Nat) (A1 : Option Addr) (c1 n : Nat), k ≤ s.size + 1 ∧ i = .int .i64 k ∧ v = .slice A1 n c1 ∧ Hid (n = (if k ≤ s.size then (spF c (s.data.toList.take k)).1 else splitL c s.data.toList).length) ∧ f = .int .i64 ((k - (if k ≤ s.size then (spF c (s.data.toList.take k)).2.length else 0) : Nat) : Int) ∧
    wr.ownsRow w.heap.size 9 1 (.slice A1 n c1) n ((if k ≤ s.size then (spF c (s.data.toList.take k)).1 else splitL c s.data.toList).map tv) ∧ Below w.heap.size w wr) (fun _ _ i _ => s.size + 1 - (intOf i).toNat)
  case atStart => exact ⟨0, _, _, 0, by omega, rfl, rfl, Lib.hid rfl, rfl, own0, hb0⟩
  case round =>
    clear own0 hb0
    obtain ⟨k, A1, c1, n, hk, rfl, rfl, HN, rfl, hO, hb⟩ := hrel
    have hsz := hb.size
    have hnl : n ≤ s.size + 2 := by
      rw [HN.out]
      split
      · have h1 := spF_len c (s.data.toList.take k)
        rw [List.length_take, hl] at h1
        omega
      · have h1 := spF_len c s.data.toList
        rw [← sp_all, List.length_append, List.length_singleton]
        rw [hl] at h1
        omega
    rcases Nat.lt_or_ge s.size k with hgt | hle
    · obtain rfl : k = s.size + 1 := by omega
      have d1 : decide (((s.size + 1 : Nat) : Int) ≤ (s.size : Int)) = false := decide_eq_false (by omega)
      have hns : ¬ s.size + 1 ≤ s.size := by omega
      rw [if_neg hns] at hO HN
      have HNN := Lib.hid HN.out
      have HO := Lib.hid (And.intro hO hb)
      clear hO hb hns
      go_wp2_with fail
      go_ret
      have hn2 := HNN.out
      subst hn2
      exact ⟨A1, c1, rfl, HO.out.1, HO.out.2⟩
    · have d1 : decide ((k : Int) ≤ (s.size : Int)) = true := decide_eq_true (by omega)
      obtain ⟨acc, hacc⟩ : ∃ acc, acc = (spF c (s.data.toList.take k)).1 := ⟨_, rfl⟩
      obtain ⟨cur, hcur⟩ : ∃ cur, cur = (spF c (s.data.toList.take k)).2 := ⟨_, rfl⟩
      have hsp := spF_cur c (s.data.toList.take k)
      have hlk : (s.data.toList.take k).length = k := by rw [List.length_take, hl]; omega
      rw [hlk, ← hcur] at hsp
      rw [if_pos hle] at hO HN
      simp only [if_pos hle]
      rw [← hacc] at hO HN
      rw [← hcur]
      obtain ⟨F, hF⟩ : ∃ F, F = k - cur.length := ⟨_, rfl⟩
      have hFk : F ≤ k := by omega
      have HEX := Lib.hid (show (Value.string (s.extract F k)) = tv cur by
        unfold tv
        congr 1
        apply WideShapes.bytes_inj
        rw [hF]
        have h1 : (s.extract (k - cur.length) k).data.toList = (s.data.toList.take k).drop (k - cur.length) := by
          show (s.extract (k - cur.length) k).data.toList = _
          rw [ByteArray.data_extract]
          simp [List.drop_take]
        rw [h1, hsp.2])
      rw [← hF]
      have HNO := Lib.hid HN.out
      have q0 : (0 : Int) ≤ (F : Int) := by omega
      have q1 : (F : Int) ≤ (k : Int) := by omega
      have q2 : (k : Int) ≤ (s.size : Int) := by omega
      have e3 : IntKind.i64.wrap ((k : Int) + 1) = (k : Int) + 1 := IntWalk.i64_in _ (by omega)
      clear HN
      have HHF := Lib.hid (And.intro hF (And.intro hacc (And.intro hcur hsp)))
      clear hF hacc hcur hsp hlk
      rcases Nat.lt_or_ge k s.size with hlt | hge
      · obtain ⟨x, hx⟩ : ∃ x : UInt8, x = s[k] := ⟨_, rfl⟩
        have hx3 : s[k] = x := hx.symm
        have hne : ((k : Int) == (s.size : Int)) = false := by simp; omega
        have HT := Lib.hid (show spF c (s.data.toList.take (k + 1)) = spS c (acc, cur) x by
          rw [List.take_succ_eq_append_getElem (by rw [hl]; exact hlt), spF_snoc, HHF.out.2.1, HHF.out.2.2.1, hx]
          rfl)
        have hk1 : k + 1 ≤ s.size := hlt
        clear hx
        by_cases hxc : x = c
        · have dx : ((x.toNat : Int) == (c.toNat : Int)) = true := by rw [hxc]; simp
          have HS := Lib.hid (show spF c (s.data.toList.take (k + 1)) = (acc ++ [cur], []) by rw [HT.out]; unfold spS; rw [if_pos hxc])
          clear hxc
          go_wp2_with (at_builtin; refine wpList_append_own _ rfl _ _ 48 rfl (w.heap.size) 9 i0 (.string ⟨#[]⟩) 1 16 Tryz.underlying48 hi hz0 hz1 hz2 rfl (by decide) _ _ _ rfl (World.ownsRow.alloc hO _) ⟨wr.heap.size, 0, none⟩ 1 1 [.string (s.extract F k)] rfl rfl (cell_one_at _ _ (by simp)) (by intro u hu; simp at hu; subst hu; rfl) (by unfold maxLen; omega) (by omega) (by simp; omega) ?_; intro v7 w7 hown7 hgrow7 _)
          have hb1 := (hb.alloc hsz (Obj.cells #[Value.string (s.extract F k)] 9)).grown hgrow7 (by simp; omega) (by intro g hg; exact (hO.lt g hg).1)
          obtain ⟨A2, c2, rfl, _, _⟩ := own_shape hown7
          rw [HEX.out] at hown7
          have K := Lib.hid (And.intro hown7 hb1)
          clear hown7 hgrow7 hb1 hO hb
          go_wp2_with fail
          go_roundw
          case rel => exact ⟨k + 1, A2, c2, n + 1, by omega, by go_num, rfl, Lib.hid (by rw [if_pos hk1, HS.out, HNO.out]; simp), by rw [if_pos hk1, HS.out]; go_num, by rw [if_pos hk1, HS.out]; simpa using K.out.1, K.out.2⟩
          case measure => simp [intOf]; omega
        · have dx : ((x.toNat : Int) == (c.toNat : Int)) = false := by simp; intro h; exact hxc (UInt8.toNat_inj.1 (by omega))
          have HS := Lib.hid (show spF c (s.data.toList.take (k + 1)) = (acc, cur ++ [x]) by rw [HT.out]; unfold spS; rw [if_neg hxc])
          have hFF : k + 1 - (cur.length + 1) = F := by have := HHF.out.1; omega
          clear hxc
          go_wp2_with fail
          go_roundw
          case rel => exact ⟨k + 1, A1, c1, n, by omega, by go_num, rfl, Lib.hid (by rw [if_pos hk1, HS.out, HNO.out]), by rw [if_pos hk1, HS.out, List.length_append, List.length_singleton, hFF], by rw [if_pos hk1, HS.out]; exact hO, hb⟩
          case measure => simp [intOf]; omega
      · obtain rfl : k = s.size := by omega
        have hns : ¬ s.size + 1 ≤ s.size := by omega
        have HS := Lib.hid (show splitL c s.data.toList = acc ++ [cur] by rw [← sp_all, HHF.out.2.1, HHF.out.2.2.1, ← hl, List.take_length])
        have hne : ((s.size : Int) == (s.size : Int)) = true := by simp
        go_wp2_with (at_builtin; refine wpList_append_own _ rfl _ _ 48 rfl (w.heap.size) 9 i0 (.string ⟨#[]⟩) 1 16 Tryz.underlying48 hi hz0 hz1 hz2 rfl (by decide) _ _ _ rfl (World.ownsRow.alloc hO _) ⟨wr.heap.size, 0, none⟩ 1 1 [.string (s.extract F s.size)] rfl rfl (cell_one_at _ _ (by simp)) (by intro u hu; simp at hu; subst hu; rfl) (by unfold maxLen; omega) (by omega) (by simp; omega) ?_; intro v7 w7 hown7 hgrow7 _)
        have hb1 := (hb.alloc hsz (Obj.cells #[Value.string (s.extract F s.size)] 9)).grown hgrow7 (by simp; omega) (by intro g hg; exact (hO.lt g hg).1)
        obtain ⟨A2, c2, rfl, _, _⟩ := own_shape hown7
        rw [HEX.out] at hown7
        have K := Lib.hid (And.intro hown7 hb1)
        clear hown7 hgrow7 hb1 hO hb
        go_wp2_with fail
        go_roundw
        case rel => exact ⟨s.size + 1, A2, c2, n + 1, by omega, by go_num, rfl, Lib.hid (by rw [if_neg hns, HS.out, HNO.out]; simp), by rw [if_neg hns]; go_num, by rw [if_neg hns, HS.out]; simpa using K.out.1, K.out.2⟩
        case measure => simp [intOf]
end Go.Proofs.YtodloeonlaljpaaGreatDoor

/- Contracts of MahonRow and EulerRow, program and reference. -/
namespace Go.Proofs.YtodloeonlaljpaaGreatDoor
set_option maxRecDepth 100000
open Go Go.RowKit

theorem own_put {α : Type} {f : α → Value} {w : World} {base e g n cap : Nat} {xs : List α} (h : w.ownsRow base e 1 (.slice (some ⟨g, 0, none⟩) n cap) n (xs.map f)) (j : Nat) (hj : j < xs.length) (x : α) :
    w.cell? ⟨g, j, none⟩ = some (f xs[j]) ∧ w.frozen? ⟨g, j, none⟩ = false ∧ (w.setCell ⟨g, j, none⟩ (f x)).ownsRow base e 1 (.slice (some ⟨g, 0, none⟩) n cap) n ((xs.set j x).map f) := by
  have hl := own_len h
  simp only [List.length_map] at hl
  refine ⟨?_, h.frozenAt j, ?_⟩
  · rw [h.cellAt j (by omega)]; simp [hj]
  · rw [List.map_set]; exact (h.stored j (f x)).1

theorem made_zeros {w : World} {base e n : Nat} {v : Value} (h : w.ownsRow base e 1 v n (madeCells (Value.int .i64 0).cells (n * 1)).toList) : w.ownsRow base e 1 v n ((List.replicate n (0 : Int)).map (Value.int .i64)) := by
  rw [show (Value.int .i64 0).cells = #[.int .i64 0] from rfl, toList_madeCells_one, Nat.mul_one] at h
  simpa using h




end Go.Proofs.YtodloeonlaljpaaGreatDoor

/- Texts: FormatInt of one digit, PermText. -/
namespace Go.Proofs.YtodloeonlaljpaaGreatDoor
set_option maxRecDepth 100000
open Go Go.RowKit

theorem infoU8 : (Tryz.prog.info? 5).map (fun i => (i.zero, i.size, i.bytes)) = some (some (.int .u8 0), 1, 1) := by kernel_rfl
/-- A string off its bytes. -/
def bs (l : List UInt8) : ByteArray := ⟨l.toArray⟩
def dig (x : Int) : UInt8 := UInt8.ofNat (48 + x).toNat

theorem bs_append (l l' : List UInt8) : bs l ++ bs l' = bs (l ++ l') := by
  apply ByteArray.ext
  simp [bs]
theorem bs_size (l : List UInt8) : (bs l).size = l.length := by simp [bs, ByteArray.size]
theorem bs_extract (l : List UInt8) (i : Nat) (h : i < l.length) : (bs l).extract i (i + 1) = bs [l[i]] := by
  apply ByteArray.ext
  simp only [bs, ByteArray.data_extract, List.extract_toArray]
  congr 1
  rw [List.extract_eq_take_drop, List.drop_eq_getElem_cons h, Nat.add_sub_cancel_left]
  rfl
theorem fold_bs (ns : List Int) (l : List UInt8) : ns.foldl (fun (r : ByteArray) (n : Int) => r.push (UInt8.ofNat n.toNat)) (bs l) = bs (l ++ ns.map fun n => UInt8.ofNat n.toNat) := by
  induction ns generalizing l with
  | nil => simp
  | cons n t ih =>
    have : (bs l).push (UInt8.ofNat n.toNat) = bs (l ++ [UInt8.ofNat n.toNat]) := by simp [bs, ByteArray.push]
    rw [List.foldl_cons, this, ih]
    simp
/-- 'string(b)' of a slice of bytes that is read. -/
theorem conv_bytes {w : World} {B b off c n : Nat} {ns : List Int} (h : Rd (Value.int .u8) w B (some ⟨b, off, none⟩) ns) (hn : ns.length = n) :
    (convert 22 9 (.slice (some ⟨b, off, none⟩) n c)).run Tryz.prog w = .ok (.string (bs (ns.map fun n => UInt8.ofNat n.toNat))) w := by
  rw [run_convert_bytes_string w 22 9 5 _ _ _ Tryz.underlying22 Tryz.underlying5 Tryz.underlying9, run_bytesToString w ⟨b, off, none⟩ n c ns]
  · rw [show ByteArray.empty = bs [] from rfl, fold_bs]; rfl
  · have hl := run_loadCells_list (P := Tryz.prog) (w := w) ⟨b, off, none⟩ (ns.map (Value.int .u8)) (by
      intro j v hv
      rw [List.getElem?_map] at hv
      rcases hj : ns[j]? with _ | x
      · rw [hj] at hv; cases hv
      · rw [hj] at hv
        injection hv with hv
        obtain ⟨hlt, hx⟩ := List.getElem?_eq_some_iff.1 hj
        obtain ⟨b', off', he, _, hc⟩ := h (by omega)
        injection he with he
        injection he with h1 h2
        subst h1 h2
        rw [show (⟨b, off, none⟩ : Addr).add j = ⟨b, off + j, none⟩ by unfold Addr.add; by_cases h : j = 0 <;> simp [h], hc j hlt, ← hv, hx])
    rw [List.length_map, hn] at hl
    exact hl

set_option maxHeartbeats 1000000 in
theorem format_one (x : Int) (w : World) (hx : 1 ≤ x ∧ x ≤ 9) :
    Calls Tryz.prog 98 #[.int .i64 x] w (Rb w (.string (bs [dig x]))) := by
  go_enter Tryz.func98, Tryz.ntmps98
  have d0 : (x == 0) = false := by simp; omega
  have d1 : decide (x < 0) = false := decide_eq_false (by omega)
  have d2 : (x != 0) = true := by simp; omega
  have t1 : x.tmod 10 = x := Int.tmod_eq_of_lt (by omega) (by omega)
  have t2 : x.tdiv 10 = 0 := Int.tdiv_eq_zero_of_lt (by omega) (by omega)
  go_wp2
  go_loopw [0, 4] (fun i o wr => ((i = .int .i64 x ∧ o = .string ⟨#[]⟩) ∨ (i = .int .i64 0 ∧ o = .string (bs [dig x]))) ∧ Below w.heap.size w wr) (fun i _ _ => (intOf i).toNat)
  case atStart => exact ⟨.inl ⟨rfl, rfl⟩, Below.refl _ _⟩
  case round =>
    obtain ⟨⟨rfl, rfl⟩ | ⟨rfl, rfl⟩, hb⟩ := hrel
    · have hr : Rd (Value.int .u8) (wr.alloc (Obj.cells #[Value.int IntKind.u8 (48 + x)] 5)) (wr.heap.size + 1) (some ⟨wr.heap.size, 0, none⟩) [48 + x] := fun _ => ⟨wr.heap.size, 0, rfl, Nat.lt_succ_self _, fun j hj => by
        obtain rfl : j = 0 := by simpa using hj
        simp⟩
      have hcv := conv_bytes (c := 1) (n := 1) hr rfl
      have hb1 := hb.alloc hb.size (Obj.cells #[Value.int IntKind.u8 (48 + x)] 5)
      go_wp2
      go_roundw
      case rel => exact ⟨.inr ⟨rfl, by rw [show (ByteArray.mk #[]) = bs [] from rfl, bs_append]; rfl⟩, hb1⟩
      case measure => simp [intOf]; omega
    · go_wp2
      go_ret
      exact ⟨rfl, hb⟩

/-- What PermText writes of a permutation. -/
def textD (xs : List Int) : List UInt8 := if xs = [] then [45] else xs.map dig
def digL (xs : List Int) (k : Nat) : List Int := (xs.take k).map fun x => 48 + x
theorem digL_length (xs : List Int) (k : Nat) (h : k ≤ xs.length) : (digL xs k).length = k := by simp [digL]; omega
theorem digL_succ (xs : List Int) (k : Nat) (h : k < xs.length) : digL xs (k + 1) = digL xs k ++ [48 + xs[k]] := by
  unfold digL; rw [List.take_succ_eq_append_getElem h, List.map_append]; rfl
def ptext (xs : List Int) : ByteArray := if permB xs then bs (textD xs) else bs []

set_option maxHeartbeats 1000000 in
theorem permText_impl (A : Option Addr) (c : Nat) (xs : List Int) (w : World) (h : In w A c xs) :
    Calls Tryz.prog 64 #[.slice A xs.length c] w (Rb w (.string (ptext xs))) := by
  obtain ⟨i0, hi, hz0, hz1, hz2⟩ := info_parts infoU8
  have hl := h.len
  by_cases hp : permB xs = true
  · have HT := Lib.hid (show ptext xs = bs (textD xs) by unfold ptext; rw [if_pos hp])
    have h8 := (permB_true hp).1
    have hr := (permB_true hp).2.1
    go_enter Tryz.func64, Tryz.ntmps64
    go_wp2_with fail
    (with_reducible refine (isPerm_impl A c xs _ h).mono ?_)
    rintro e wp ⟨rfl, hbp⟩
    rw [hp]
    clear hp
    by_cases h0 : xs = []
    · subst h0
      go_wp2
      go_ret
      exact ⟨by rw [HT.out]; rfl, hbp⟩
    · have hne : 0 < xs.length := List.length_pos_iff.2 h0
      have d0 : ((xs.length : Int) == 0) = false := by simp; omega
      have HD := Lib.hid (show textD xs = (digL xs xs.length).map fun n => UInt8.ofNat n.toNat by unfold textD digL; rw [if_neg h0, List.take_length, List.map_map]; rfl)
      clear h0
      have hx := (h.next hbp).rd
      have HR := Lib.hid hr
      clear hr
      go_wp2
      have hown0 : (wp.alloc (.cells #[] 5)).ownsRow wp.heap.size 5 1 (.slice (some ⟨wp.heap.size, 0, none⟩) 0 0) 0 ((digL xs 0).map (Value.int .u8)) := World.ownsRow_lit wp #[] 0 (Nat.le_refl _) (by unfold maxLen; omega) rfl
      have hb0 := (Below.refl wp.heap.size wp).alloc (Nat.le_refl _) (.cells #[] 5)
      go_loopw [3, 15] (fun v i wr => ∃ (k : Nat) (A' : Option Addr) (c' : Nat), k ≤ xs.length ∧ i = .int .i64 k ∧ v = .slice A' k c' ∧ wr.ownsRow wp.heap.size 5 1 (.slice A' k c') k ((digL xs k).map (Value.int .u8)) ∧ Below wp.heap.size wp wr) (fun _ i _ => xs.length - (intOf i).toNat)
      case atStart => exact ⟨0, _, _, Nat.zero_le _, rfl, rfl, hown0, hb0⟩
      case round =>
        clear hown0 hb0
        obtain ⟨k, A', c', hk, rfl, rfl, hown, hb⟩ := hrel
        have hsz := hb.size
        rcases Nat.lt_or_ge k xs.length with hlt | hge
        · obtain ⟨b, off, rfl, _, hc⟩ := (hx.below hb) hne
          have c1 := hc k hlt
          have hbx := HR.out xs[k] (List.getElem_mem hlt)
          have HS := Lib.hid (digL_succ xs k hlt)
          clear hc
          go_wp2_with (at_builtin; refine wpList_append_own _ rfl _ _ 22 rfl (wp.heap.size) 5 i0 (.int .u8 0) 1 1 Tryz.underlying22 hi hz0 hz1 hz2 rfl (by decide) _ _ _ rfl (World.ownsRow.alloc hown _) ⟨wr.heap.size, 0, none⟩ 1 1 [.int .u8 (48 + xs[k])] rfl rfl (cell_one_new _ _ _) (by intro u hu; simp at hu; subst hu; rfl) (by unfold maxLen; omega) (by omega) (by simp; omega) ?_; intro v1 w1 hown1 hgrow1 _)
          have hb1 := (hb.alloc hsz (Obj.cells #[Value.int .u8 (48 + xs[k])] 5)).grown hgrow1 (by simp; omega) (by intro g hg; exact ((hown.lt g hg).1))
          have hS2 : w1.ownsRow wp.heap.size 5 1 v1 (k + 1) ((digL xs (k + 1)).map (Value.int .u8)) := by rw [HS.out]; simpa using hown1
          obtain ⟨A1, cc, rfl, _, _⟩ := own_shape hS2
          have hH1 := Lib.hid hS2
          have hH2 := Lib.hid hb1
          clear hS2 hown1 hgrow1 hb1 hown hb
          go_wp2
          go_roundw
          case rel => exact ⟨k + 1, A1, cc, by omega, by go_num, rfl, hH1.out, hH2.out⟩
          case measure => simp [intOf]; omega
        · obtain rfl : k = xs.length := by omega
          obtain ⟨g, cap, hv, _, hgl⟩ := hown.form hne
          have hA' : A' = some ⟨g, 0, none⟩ := by injection hv
          subst hA'
          have hrd : Rd (Value.int .u8) wr wr.heap.size (some ⟨g, 0, none⟩) (digL xs xs.length) := Rd.of_own (c := c') (by rw [digL_length xs xs.length (Nat.le_refl _)]; exact hown)
          have hcv := conv_bytes (c := c') hrd (digL_length xs xs.length (Nat.le_refl _))
          clear hv
          go_wp2
          go_ret
          exact ⟨by rw [HT.out, HD.out]; rfl, hbp.trans (hb.mono hbp.size)⟩
  · have hpf : permB xs = false := by simpa using hp
    have HT := Lib.hid (show ptext xs = bs [] by unfold ptext; rw [hpf]; rfl)
    go_enter Tryz.func64, Tryz.ntmps64
    go_wp2_with fail
    (with_reducible refine (isPerm_impl A c xs _ h).mono ?_)
    rintro e wp ⟨rfl, hbp⟩
    rw [hpf]
    go_wp2
    go_ret
    exact ⟨by rw [HT.out]; rfl, hbp⟩
end Go.Proofs.YtodloeonlaljpaaGreatDoor

/- NearText, program and reference. -/
namespace Go.Proofs.YtodloeonlaljpaaGreatDoor
set_option maxRecDepth 100000
open Go Go.RowKit

/-- The text of the first k letters, a mark ahead of each place that is not joined. -/
def joinT (l : List UInt8) (ys : List Int) : Nat → List UInt8
  | 0 => []
  | k + 1 => joinT l ys k ++ (if 0 < k ∧ (k : Int) ∉ ys then [95] else []) ++ [l[k]?.getD 0]
def ntext (xs ys : List Int) : ByteArray := if nearB xs ys then bs (joinT (textD xs) ys (textD xs).length) else bs []
theorem joinT_size (l : List UInt8) (ys : List Int) (k : Nat) : (joinT l ys k).length ≤ 2 * k := by
  induction k with
  | zero => simp [joinT]
  | succ k ih => simp only [joinT, List.length_append, List.length_cons, List.length_nil]; split <;> simp <;> omega
theorem textD_len (xs : List Int) : (textD xs).length ≤ xs.length + 1 := by unfold textD; split <;> simp
theorem nearB_perm {xs ys : List Int} (h : nearB xs ys = true) : permB xs = true := by
  unfold nearB at h; simp only [Bool.and_eq_true] at h; exact h.1


end Go.Proofs.YtodloeonlaljpaaGreatDoor
