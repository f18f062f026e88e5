/- Several texts in one, each with its own head: M1, M3, L2, S1, OL, Q2, C3, T1, H2, H1. No program of ours. -/
import Derived.Deep.RegionHeld3
import Derived.StillTailTactics
import Derived.Laws.BytesString
import Derived.Deep.DeepCutAuto
import Derived.Deep.CutRange
import Derived.Test.YtodloeonlaljpaaGreatMMeets2
/- Plain: permutations as lists: how many there can be in a range; a permutation is its own pattern. -/
namespace Go.Proofs.YtodloeonlaljpaaGreat
set_option maxRecDepth 100000
open Go

theorem nodup_len_le : ∀ (k : Nat) (l : List Int) (lo : Int), l.Nodup → (∀ y ∈ l, lo ≤ y ∧ y < lo + k) → l.length ≤ k
  | 0, l, lo, _, h => by
    cases l with
    | nil => simp
    | cons y l => have := h y (by simp); omega
  | k + 1, l, lo, hn, h => by
    have h1 := nodup_len_le k (l.erase (lo + k)) lo (hn.erase _) (fun y hy => by
      have hm := List.mem_of_mem_erase hy
      have hne : y ≠ lo + k := fun e => by
        subst e
        exact (hn.mem_erase_iff.1 hy).1 rfl
      have := h y hm
      omega)
    have h2 := List.length_erase (a := lo + k) (l := l)
    split at h2 <;> omega

theorem belowN_eq {l : List Int} {m : Nat} (hn : l.Nodup) (hr : ∀ y ∈ l, 1 ≤ y ∧ y ≤ m) (hl : l.length = m) (x : Int) (hx : 1 ≤ x ∧ x ≤ m) : (belowN l x : Int) = x - 1 := by
  have h1 := nodup_len_le (x - 1).toNat (l.filter fun y => decide (y < x)) 1 (hn.filter _) (fun y hy => by
    have := List.mem_filter.1 hy
    have h := hr y this.1
    have h2 : y < x := by simpa using this.2
    omega)
  have h2 := nodup_len_le (m + 1 - x).toNat (l.filter fun y => !decide (y < x)) x (hn.filter _) (fun y hy => by
    have := List.mem_filter.1 hy
    have h := hr y this.1
    have h2 : ¬ y < x := by simpa using this.2
    omega)
  have h3 : (l.filter fun y => decide (y < x)).length + (l.filter fun y => !decide (y < x)).length = l.length := by
    clear h1 h2 hn hr hl
    induction l with
    | nil => rfl
    | cons y l ih => by_cases h : y < x <;> simp [h] <;> omega
  unfold belowN
  omega

theorem patL_self {l : List Int} {m : Nat} (hn : l.Nodup) (hr : ∀ y ∈ l, 1 ≤ y ∧ y ≤ m) (hl : l.length = m) : patL l = l := by
  unfold patL
  conv => rhs; rw [← List.map_id l]
  exact List.map_congr_left fun x hx => by rw [belowN_eq hn hr hl x (hr x hx)]; simp

/-- In a permutation of n each number up to n occurs. -/
theorem perm_mem {l : List Int} {m : Nat} (hn : l.Nodup) (hr : ∀ y ∈ l, 1 ≤ y ∧ y ≤ m) (hl : l.length = m) (x : Int) (hx : 1 ≤ x ∧ x ≤ m) : x ∈ l := by
  refine Classical.byContradiction fun hno => ?_
  have h1 := nodup_len_le (x - 1).toNat (l.filter fun y => decide (y < x)) 1 (hn.filter _) (fun y hy => by
    have := List.mem_filter.1 hy
    have h := hr y this.1
    have h2 : y < x := by simpa using this.2
    omega)
  have h2 := nodup_len_le (m - x).toNat (l.filter fun y => !decide (y < x)) (x + 1) (hn.filter _) (fun y hy => by
    have := List.mem_filter.1 hy
    have h := hr y this.1
    have h2 : ¬ y < x := by simpa using this.2
    have h3 : y ≠ x := fun e => hno (by subst e; exact this.1)
    omega)
  have h3 : (l.filter fun y => decide (y < x)).length + (l.filter fun y => !decide (y < x)).length = l.length := by
    clear h1 h2 hn hr hl hno
    induction l with
    | nil => rfl
    | cons y l ih => by_cases h : y < x <;> simp [h] <;> omega
  omega

def cutAt (xs : List Int) (i : Nat) : List Int := xs.take i ++ xs.drop (i + 1)
theorem cutAt_length (xs : List Int) (i : Nat) (h : i < xs.length) : (cutAt xs i).length = xs.length - 1 := by simp [cutAt]; omega
theorem cutAt_split {xs : List Int} {i : Nat} (h : i < xs.length) : xs = xs.take i ++ (xs[i] :: xs.drop (i + 1)) := by
  rw [← List.drop_eq_getElem_cons h, List.take_append_drop]
/-- The greatest number cut out of a permutation leaves the lesser ones, a permutation. -/
theorem parent_eq {xs : List Int} {i : Nat} (hp : permB xs = true) (hi : i < xs.length) (hx : xs[i] = (xs.length : Int)) : patL (cutAt xs i) = xs.filter fun y => decide (y < (xs.length : Int)) := by
  obtain ⟨_, hr, hn⟩ := permB_true hp
  have hs := cutAt_split hi
  have hf : (xs.filter fun y => decide (y < (xs.length : Int))) = cutAt xs i := by
    have key : ∀ l : List Int, (∀ y ∈ l, y ≠ (xs.length : Int)) → (∀ y ∈ l, 1 ≤ y ∧ y ≤ (xs.length : Int)) → l.filter (fun y => decide (y < (xs.length : Int))) = l := fun l h1 h2 => List.filter_eq_self.2 fun y hy => by
      have a := h1 y hy
      have b := (h2 y hy).2
      simp; omega
    have hn' := hn
    rw [hs, List.nodup_append] at hn'
    obtain ⟨_, hn2, hn3⟩ := hn'
    rw [List.nodup_cons] at hn2
    conv => lhs; arg 2; rw [hs]
    rw [List.filter_append, List.filter_cons, if_neg (by rw [hx]; simp)]
    rw [key _ (fun y hy e => hn3 y hy _ (List.mem_cons_self) (by rw [hx]; exact e)) (fun y hy => hr y (List.mem_of_mem_take hy)), key _ (fun y hy e => hn2.1 (by rw [hx, ← e]; exact hy)) (fun y hy => hr y (List.mem_of_mem_drop hy))]
    rfl
  rw [hf]
  refine patL_self (m := xs.length - 1) ?_ ?_ (cutAt_length xs i hi)
  · rw [← hf]; exact hn.filter _
  · intro y hy
    rw [← hf] at hy
    have h1 := List.mem_filter.1 hy
    have h2 := hr y h1.1
    have h3 : y < (xs.length : Int) := by simpa using h1.2
    omega
end Go.Proofs.YtodloeonlaljpaaGreat

/- Plain maths: ascending lists of places, occurrences of a pattern, breadth first and depth first. -/
namespace Go.Proofs.YtodloeonlaljpaaGreat
set_option maxRecDepth 100000

/-- The place behind the last one. -/
def fromI (l : List Int) : Int := match l.getLast? with
  | none => 1
  | some x => x + 1
theorem fromI_nil : fromI [] = 1 := rfl
theorem fromI_snoc (l : List Int) (x : Int) : fromI (l ++ [x]) = x + 1 := by simp [fromI]
def ways (n : Nat) (l : List Int) : List Int := marks (fromI l) ((n : Int) + 1 - fromI l).toNat
theorem ways_mem {n : Nat} {l : List Int} {x : Int} : x ∈ ways n l ↔ fromI l ≤ x ∧ x ≤ n := by
  unfold ways marks
  rw [List.mem_map]
  constructor
  · rintro ⟨i, hi, rfl⟩
    have := List.mem_range.1 hi
    omega
  · rintro ⟨h1, h2⟩
    exact ⟨(x - fromI l).toNat, List.mem_range.2 (by omega), by omega⟩
def asc1 (n : Nat) (l : List Int) : List (List Int) := (ways n l).map fun x => l ++ [x]
def ascX (n : Nat) (ls : List (List Int)) : List (List Int) := ls.flatMap (asc1 n)
def ascI (n : Nat) : Nat → List (List Int)
  | 0 => [[]]
  | k + 1 => ascX n (ascI n k)
def ascF (n : Nat) : Nat → List Int → List (List Int)
  | 0, l => [l]
  | k + 1, l => (ways n l).flatMap fun x => ascF n k (l ++ [x])
theorem asc_iter (n : Nat) : ∀ (k i : Nat), ascI n (i + k) = (ascI n i).flatMap (ascF n k) := by
  intro k
  induction k with
  | zero => intro i; simp [ascF]
  | succ k ih =>
    intro i
    have h := ih (i + 1)
    rw [show i + (k + 1) = i + 1 + k by omega, h]
    show (ascX n (ascI n i)).flatMap (ascF n k) = _
    unfold ascX
    rw [List.flatMap_assoc]
    congr 1
    funext p
    unfold asc1
    rw [List.flatMap_map]
    rfl
theorem asc_fill (n k : Nat) : ascF n k [] = ascI n k := by
  have h := asc_iter n k 0
  rw [Nat.zero_add] at h
  rw [h]
  simp [ascI]
/-- Ascending, from 1 to n. -/
def Asc (n : Nat) (l : List Int) : Prop := (∀ x ∈ l, 1 ≤ x ∧ x ≤ n ∧ x < fromI l) ∧ l.Nodup
theorem Asc.nil (n : Nat) : Asc n [] := ⟨by simp, by simp⟩
theorem Asc.from {n : Nat} {l : List Int} (h : Asc n l) : 1 ≤ fromI l := by
  rcases hl : l.getLast? with _ | x
  · simp [fromI, hl]
  · have hm : x ∈ l := List.mem_of_getLast? hl
    have := h.1 x hm
    simp only [fromI, hl]
    omega
theorem Asc.snoc {n : Nat} {l : List Int} (h : Asc n l) {x : Int} (hx : x ∈ ways n l) : Asc n (l ++ [x]) := by
  obtain ⟨h1, h2⟩ := ways_mem.1 hx
  have hf := h.from
  refine ⟨fun y hy => ?_, (nodup_snoc l x).2 ⟨h.2, fun hm => by have := h.1 x hm; omega⟩⟩
  rw [fromI_snoc]
  rcases List.mem_append.1 hy with hy | hy
  · have := h.1 y hy
    omega
  · obtain rfl := List.mem_singleton.1 hy
    omega
theorem ascI_mem {n : Nat} : ∀ {k : Nat} {l : List Int}, l ∈ ascI n k → l.length = k ∧ Asc n l := by
  intro k
  induction k with
  | zero =>
    intro l h
    have : l = [] := by simpa [ascI] using h
    subst this
    exact ⟨rfl, Asc.nil n⟩
  | succ k ih =>
    intro l h
    obtain ⟨m, hm, hl⟩ := List.mem_flatMap.1 h
    obtain ⟨x, hx, rfl⟩ := List.mem_map.1 hl
    obtain ⟨h1, h2⟩ := ih hm
    exact ⟨by simp [h1], h2.snoc hx⟩
theorem marks_len (k : Int) (n : Nat) : (marks k n).length = n := by simp [marks]
theorem ways_le {n : Nat} {l : List Int} (h : 1 ≤ fromI l) : (ways n l).length ≤ n := by
  unfold ways
  rw [marks_len]
  omega
theorem ascI_le (n k : Nat) : (ascI n k).length ≤ n ^ k := by
  induction k with
  | zero => simp [ascI]
  | succ k ih =>
    have h := flatMap_le (asc1 n) n (ascI n k) (fun p hp => by
      unfold asc1
      rw [List.length_map]
      exact ways_le (ascI_mem hp).2.from)
    have h2 := Nat.mul_le_mul_right n ih
    rw [Nat.pow_succ]
    exact Nat.le_trans h h2

/-- The numbers at places. -/
def atL (p l : List Int) : List Int := l.map fun x => p[(x - 1).toNat]?.getD 0
theorem atL_length (p l : List Int) : (atL p l).length = l.length := by simp [atL]
def nth (p : List Int) (i : Int) : Int := p[i.toNat]?.getD 0
/-- The last place agrees with all before it. -/
def fitsB (p q l : List Int) : Bool := (List.range (l.length - 1)).all fun k => decide (q[k]?.getD 0 < q[l.length - 1]?.getD 0) == decide ((atL p l)[k]?.getD 0 < (atL p l)[l.length - 1]?.getD 0)
def occF (p q : List Int) : Nat → List Int → List (List Int)
  | 0, l => [l]
  | k + 1, l => ((ways p.length l).filter fun x => fitsB p q (l ++ [x])).flatMap fun x => occF p q k (l ++ [x])
def occI (p q : List Int) : List (List Int) := (ascI p.length q.length).filter fun l => decide (patL (atL p l) = q)
def occL (p q : List Int) : List (List Int) := occF p q q.length []
def allfits (p q l : List Int) : Bool := (List.range l.length).all fun j => fitsB p q (l.take (j + 1))
theorem allfits_snoc (p q l : List Int) (x : Int) : allfits p q (l ++ [x]) = (allfits p q l && fitsB p q (l ++ [x])) := by
  unfold allfits
  rw [List.length_append, List.length_singleton, List.range_succ, List.all_append]
  have h1 : ((List.range l.length).all fun j => fitsB p q ((l ++ [x]).take (j + 1))) = (List.range l.length).all fun j => fitsB p q (l.take (j + 1)) := by
    rw [Bool.eq_iff_iff, List.all_eq_true, List.all_eq_true]
    constructor
    · intro h j hj
      have h2 := h j hj
      have := List.mem_range.1 hj
      rwa [List.take_append_of_le_length (by omega)] at h2
    · intro h j hj
      have := List.mem_range.1 hj
      rw [List.take_append_of_le_length (by omega)]
      exact h j hj
  rw [h1]
  simp only [List.all_cons, List.all_nil, Bool.and_true]
  rw [List.take_of_length_le (by simp)]
theorem ascF_mem {n : Nat} : ∀ {k : Nat} {l m : List Int}, m ∈ ascF n k l → ∃ t, m = l ++ t ∧ t.length = k := by
  intro k
  induction k with
  | zero =>
    intro l m h
    have : m = l := by simpa [ascF] using h
    subst this
    exact ⟨[], by simp, rfl⟩
  | succ k ih =>
    intro l m h
    obtain ⟨x, _, hm⟩ := List.mem_flatMap.1 h
    obtain ⟨t, rfl, ht⟩ := ih hm
    exact ⟨x :: t, by simp, by simp [ht]⟩
theorem allfits_prefix {p q l t : List Int} (h : allfits p q (l ++ t) = true) : allfits p q l = true := by
  induction t generalizing l with
  | nil => simpa using h
  | cons x t ih =>
    have h2 : allfits p q ((l ++ [x]) ++ t) = true := by simpa using h
    have h3 := ih h2
    rw [allfits_snoc] at h3
    simp only [Bool.and_eq_true] at h3
    exact h3.1
theorem occF_filter (p q : List Int) : ∀ (k : Nat) (l : List Int), allfits p q l = true → occF p q k l = (ascF p.length k l).filter (allfits p q) := by
  intro k
  induction k with
  | zero => intro l h; simp [occF, ascF, h]
  | succ k ih =>
    intro l h
    show ((ways p.length l).filter fun x => fitsB p q (l ++ [x])).flatMap (fun x => occF p q k (l ++ [x])) = ((ways p.length l).flatMap fun x => ascF p.length k (l ++ [x])).filter (allfits p q)
    rw [List.filter_flatMap]
    generalize ways p.length l = W
    induction W with
    | nil => rfl
    | cons x W ihW =>
      rw [List.flatMap_cons, ← ihW]
      by_cases hf : fitsB p q (l ++ [x]) = true
      · rw [List.filter_cons_of_pos (by simpa using hf), List.flatMap_cons, ih (l ++ [x]) (by rw [allfits_snoc, h, hf]; rfl)]
      · rw [List.filter_cons_of_neg (by simpa using hf)]
        have : (ascF p.length k (l ++ [x])).filter (allfits p q) = [] := by
          rw [List.filter_eq_nil_iff]
          intro m hm ha
          obtain ⟨t, rfl, _⟩ := ascF_mem hm
          have h2 := allfits_prefix ha
          rw [allfits_snoc] at h2
          simp only [Bool.and_eq_true] at h2
          exact hf h2.2
        rw [this]
        rfl

theorem nodup_inj {l : List Int} (h : l.Nodup) {i j : Nat} (hi : i < l.length) (hj : j < l.length) (e : l[i] = l[j]) : i = j := by
  rw [List.nodup_iff_pairwise_ne] at h
  rcases Nat.lt_trichotomy i j with a | a | a
  · exact absurd e (List.pairwise_iff_getElem.1 h i j hi hj a)
  · exact a
  · exact absurd e.symm (List.pairwise_iff_getElem.1 h j i hj hi a)
theorem filter_len {L q : List Int} (P Q : Int → Bool) (hl : L.length = q.length) (h : ∀ j (h1 : j < L.length) (h2 : j < q.length), P L[j] = Q q[j]) : (L.filter P).length = (q.filter Q).length := by
  induction L generalizing q with
  | nil => cases q with
    | nil => rfl
    | cons a t => simp at hl
  | cons a t ih => cases q with
    | nil => simp at hl
    | cons b u =>
      have h0 := h 0 (by simp) (by simp)
      have h1 := ih (q := u) (by simpa using hl) (fun j h1 h2 => h (j + 1) (by simpa using h1) (by simpa using h2))
      simp only [List.getElem_cons_zero] at h0
      rw [List.filter_cons, List.filter_cons, h0]
      split <;> simp [h1]
theorem belowN_lt {L : List Int} {x y : Int} (hm : x ∈ L) (h : x < y) : belowN L x < belowN L y := by
  unfold belowN
  have h1 : ((L.filter fun z => decide (z < y)).filter fun z => decide (z < x)) = L.filter fun z => decide (z < x) := by
    rw [List.filter_filter]
    congr 1
    funext z
    by_cases hz : z < x
    · simp [hz, show z < y by omega]
    · simp [hz]
  rw [← h1]
  apply List.length_filter_lt_length_iff_exists.2
  exact ⟨x, List.mem_filter.2 ⟨hm, by simpa using h⟩, by simp⟩
theorem belowN_mono {L : List Int} {x y : Int} (h : x ≤ y) : belowN L x ≤ belowN L y := by
  unfold belowN
  have h1 : ((L.filter fun z => decide (z < y)).filter fun z => decide (z < x)) = L.filter fun z => decide (z < x) := by
    rw [List.filter_filter]
    congr 1
    funext z
    by_cases hz : z < x
    · simp [hz, show z < y by omega]
    · simp [hz]
  rw [← h1]
  exact List.length_filter_le _ _
theorem patL_lt {L : List Int} {i j : Nat} (hi : i < L.length) (hj : j < L.length) : ((patL L)[i]'(by rw [patL_length]; exact hi) < (patL L)[j]'(by rw [patL_length]; exact hj)) ↔ L[i] < L[j] := by
  simp only [patL, List.getElem_map]
  constructor
  · intro h
    rcases Int.lt_or_le L[i] L[j] with h1 | h1
    · exact h1
    · have := belowN_mono (L := L) h1
      omega
  · intro h
    have := belowN_lt (List.getElem_mem hi) h
    omega
/-- A list has a pattern where both rise and fall alike. -/
theorem patL_iff {L q : List Int} (hl : L.length = q.length) (hL : L.Nodup) (hq : permB q = true) :
    patL L = q ↔ ∀ i j (hi : i < L.length) (hj : j < L.length), i < j → (q[i]'(by omega) < q[j]'(by omega) ↔ L[i] < L[j]) := by
  obtain ⟨_, hr, hn⟩ := permB_true hq
  have hself := patL_self hn (m := q.length) hr rfl
  constructor
  · intro h i j hi hj hij
    subst h
    exact patL_lt hi hj
  · intro h
    rw [← hself]
    apply List.ext_getElem
    · rw [patL_length, patL_length, hl]
    · intro i h1 h2
      rw [patL_length] at h1 h2
      simp only [patL, List.getElem_map]
      have : belowN L L[i] = belowN q q[i] := by
        apply filter_len _ _ hl
        intro j h3 h4
        rw [decide_eq_decide]
        rcases Nat.lt_trichotomy j i with hlt | rfl | hgt
        · exact (h j i h3 h1 hlt).symm
        · constructor <;> intro hh <;> omega
        · have h5 := h i j h1 h3 hgt
          have e1 : L[i] ≠ L[j] := fun e => by have := nodup_inj hL _ _ e; omega
          have e2 : q[i] ≠ q[j] := fun e => by have := nodup_inj hn _ _ e; omega
          omega
      rw [this]
theorem nth_inj {p : List Int} (hp : p.Nodup) {x y : Int} (hx : 1 ≤ x ∧ x ≤ p.length) (hy : 1 ≤ y ∧ y ≤ p.length) (h : p[(x - 1).toNat]?.getD 0 = p[(y - 1).toNat]?.getD 0) : x = y := by
  have h1 : (x - 1).toNat < p.length := by omega
  have h2 : (y - 1).toNat < p.length := by omega
  rw [List.getElem?_eq_getElem h1, List.getElem?_eq_getElem h2] at h
  simp only [Option.getD_some] at h
  have := nodup_inj hp _ _ h
  omega
theorem atL_nodup {p l : List Int} (hp : p.Nodup) (hl : Asc p.length l) : (atL p l).Nodup := by
  unfold atL
  rw [List.nodup_iff_pairwise_ne, List.pairwise_map]
  have h := hl.2
  rw [List.nodup_iff_pairwise_ne] at h
  refine h.imp_of_mem fun {a b} ha hb hab e => hab ?_
  have h1 := hl.1 a ha
  have h2 := hl.1 b hb
  exact nth_inj hp ⟨h1.1, h1.2.1⟩ ⟨h2.1, h2.2.1⟩ e
theorem fitsB_iff {p q l : List Int} {n : Nat} (hl : l.length = n + 1) (hq : n < q.length) : fitsB p q l = true ↔ ∀ k (hk : k < n), (q[k] < q[n] ↔ (atL p l)[k]'(by rw [atL_length]; omega) < (atL p l)[n]'(by rw [atL_length]; omega)) := by
  unfold fitsB
  rw [List.all_eq_true]
  have hn : l.length - 1 = n := by omega
  rw [hn]
  constructor
  · intro h k hk
    have h1 := h k (List.mem_range.2 hk)
    rw [List.getElem?_eq_getElem (show k < q.length by omega), List.getElem?_eq_getElem hq, List.getElem?_eq_getElem (show k < (atL p l).length by rw [atL_length]; omega), List.getElem?_eq_getElem (show n < (atL p l).length by rw [atL_length]; omega)] at h1
    simpa using h1
  · intro h k hk
    have hk := List.mem_range.1 hk
    have h1 := h k hk
    rw [List.getElem?_eq_getElem (show k < q.length by omega), List.getElem?_eq_getElem hq, List.getElem?_eq_getElem (show k < (atL p l).length by rw [atL_length]; omega), List.getElem?_eq_getElem (show n < (atL p l).length by rw [atL_length]; omega)]
    simpa using h1
theorem allfits_iff {p q l : List Int} (hl : l.length = q.length) : allfits p q l = true ↔ ∀ i j (hi : i < l.length) (hj : j < l.length), i < j → (q[i]'(by omega) < q[j]'(by omega) ↔ (atL p l)[i]'(by rw [atL_length]; omega) < (atL p l)[j]'(by rw [atL_length]; omega)) := by
  unfold allfits
  rw [List.all_eq_true]
  have key : ∀ (j : Nat) (hj : j < l.length) (k : Nat) (hk : k < j + 1), (atL p (l.take (j + 1)))[k]'(by rw [atL_length, List.length_take]; omega) = (atL p l)[k]'(by rw [atL_length]; omega) := by
    intro j hj k hk
    simp [atL]
  constructor
  · intro h i j hi hj hij
    have h1 := (fitsB_iff (p := p) (q := q) (n := j) (by rw [List.length_take]; omega) (by omega)).1 (h j (List.mem_range.2 hj)) i hij
    rw [key j hj i (by omega), key j hj j (by omega)] at h1
    exact h1
  · intro h j hj
    have hj := List.mem_range.1 hj
    rw [fitsB_iff (n := j) (by rw [List.length_take]; omega) (by omega)]
    intro k hk
    rw [key j hj k (by omega), key j hj j (by omega)]
    exact h k j (by omega) hj hk
theorem allfits_pat {p q l : List Int} (hp : permB p = true) (hq : permB q = true) (hl : l ∈ ascI p.length q.length) : allfits p q l = decide (patL (atL p l) = q) := by
  obtain ⟨h1, h2⟩ := ascI_mem hl
  have hn := atL_nodup (permB_true hp).2.2 h2
  have hi := patL_iff (L := atL p l) (q := q) (by rw [atL_length, h1]) hn hq
  rw [Bool.eq_iff_iff, allfits_iff h1, decide_eq_true_eq, hi]
  constructor
  · intro h i j hi hj hij
    rw [atL_length] at hi hj
    exact h i j hi hj hij
  · intro h i j hi hj hij
    exact h i j (by rw [atL_length]; exact hi) (by rw [atL_length]; exact hj) hij
theorem occ_eq {p q : List Int} (hp : permB p = true) (hq : permB q = true) : occL p q = occI p q := by
  unfold occL occI
  rw [occF_filter p q q.length [] rfl, asc_fill]
  exact List.filter_congr fun l hl => allfits_pat hp hq hl
theorem occF_le (p q : List Int) : ∀ (k : Nat) (l : List Int), 1 ≤ fromI l → (occF p q k l).length ≤ p.length ^ k := by
  intro k
  induction k with
  | zero => intro l _; simp [occF]
  | succ k ih =>
    intro l hl
    have hm : ∀ x ∈ (ways p.length l).filter fun x => fitsB p q (l ++ [x]), (occF p q k (l ++ [x])).length ≤ p.length ^ k := fun x hx => by
      have := (ways_mem.1 (List.mem_filter.1 hx).1).1
      exact ih _ (by rw [fromI_snoc]; omega)
    have h := flatMap_le (fun x => occF p q k (l ++ [x])) (p.length ^ k) _ hm
    have h1 : ((ways p.length l).filter fun x => fitsB p q (l ++ [x])).length ≤ p.length := Nat.le_trans (List.length_filter_le _ _) (ways_le hl)
    have h2 := Nat.mul_le_mul_right (p.length ^ k) h1
    rw [Nat.pow_succ, Nat.mul_comm]
    exact Nat.le_trans h h2

/-- Does the pattern occur? -/
def hasB (p q : List Int) : Bool := !(occL p q).isEmpty
/-- Places counted from 0, as the program counts them. -/
def from0 (l : List Int) : Int := match l.getLast? with
  | none => 0
  | some x => x + 1
theorem from0_up (l : List Int) : fromI (l.map (· + 1)) = from0 l + 1 := by
  unfold fromI from0
  rw [List.getLast?_map]
  cases l.getLast? <;> rfl
def up (l : List Int) : List Int := l.map (· + 1)
def hasF (p q : List Int) : Nat → List Int → Bool
  | 0, _ => true
  | k + 1, l => (marks (from0 l) ((p.length : Int) - (k + 1) + 1 - from0 l).toNat).any fun i => fitsB p q (up (l ++ [i])) && hasF p q k (l ++ [i])
theorem occF_none (p q : List Int) : ∀ (k : Nat) (l : List Int), (p.length : Int) + 1 < fromI l + k → 1 ≤ k → occF p q k l = [] := by
  intro k
  induction k with
  | zero => intro l _ h; omega
  | succ k ih =>
    intro l h _
    show ((ways p.length l).filter fun x => fitsB p q (l ++ [x])).flatMap (fun x => occF p q k (l ++ [x])) = []
    rw [List.flatMap_eq_nil_iff]
    intro x hx
    obtain ⟨h1, h2⟩ := ways_mem.1 (List.mem_filter.1 hx).1
    rcases Nat.eq_zero_or_pos k with rfl | hk
    · exfalso; simp at h; omega
    · exact ih _ (by rw [fromI_snoc]; push_cast at h; omega) hk
theorem hasF_eq (p q : List Int) : ∀ (k : Nat) (l : List Int), hasF p q k l = !(occF p q k (up l)).isEmpty := by
  intro k
  induction k with
  | zero => intro l; simp [hasF, occF]
  | succ k ih =>
    intro l
    have hup : ∀ x, up l ++ [x + 1] = up (l ++ [x]) := fun x => by simp [up]
    rw [Bool.eq_iff_iff]
    constructor
    · intro h
      obtain ⟨i, hi, h1⟩ := List.any_eq_true.1 h
      simp only [Bool.and_eq_true] at h1
      rw [ih] at h1
      obtain ⟨m, hm, rfl⟩ := List.mem_map.1 hi
      have hm := List.mem_range.1 hm
      rw [Bool.not_eq_true', List.isEmpty_eq_false_iff] at h1 ⊢
      intro he
      have h2 : (from0 l + m + 1) ∈ (ways p.length (up l)).filter fun x => fitsB p q (up l ++ [x]) := by
        refine List.mem_filter.2 ⟨ways_mem.2 ?_, by rw [hup]; exact h1.1⟩
        rw [show fromI (up l) = from0 l + 1 from from0_up l]
        push_cast at hm
        omega
      have h3 := List.flatMap_eq_nil_iff.1 he _ h2
      rw [hup] at h3
      exact h1.2 h3
    · intro h
      rw [Bool.not_eq_true', List.isEmpty_eq_false_iff] at h
      have hne : ∃ x, x ∈ ((ways p.length (up l)).filter fun x => fitsB p q (up l ++ [x])) ∧ occF p q k (up l ++ [x]) ≠ [] := by
        apply Classical.byContradiction
        intro hno
        apply h
        show ((ways p.length (up l)).filter fun x => fitsB p q (up l ++ [x])).flatMap (fun x => occF p q k (up l ++ [x])) = []
        rw [List.flatMap_eq_nil_iff]
        intro x hx
        apply Classical.byContradiction
        intro hc
        exact hno ⟨x, hx, hc⟩
      obtain ⟨x, hx, hc⟩ := hne
      obtain ⟨hx1, hx2⟩ := List.mem_filter.1 hx
      obtain ⟨h1, h2⟩ := ways_mem.1 hx1
      rw [show fromI (up l) = from0 l + 1 from from0_up l] at h1
      obtain ⟨i, rfl⟩ : ∃ i, x = i + 1 := ⟨x - 1, by omega⟩
      rw [hup] at hx2 hc
      refine List.any_eq_true.2 ⟨i, List.mem_map.2 ⟨(i - from0 l).toNat, List.mem_range.2 ?_, by omega⟩, ?_⟩
      · rcases Nat.eq_zero_or_pos k with rfl | hk
        · simp; omega
        · have : ¬ ((p.length : Int) + 1 < fromI (up (l ++ [i])) + k) := fun h => hc (occF_none p q k _ h hk)
          rw [show fromI (up (l ++ [i])) = from0 (l ++ [i]) + 1 from from0_up _] at this
          have e : from0 (l ++ [i]) = i + 1 := by simp [from0]
          rw [e] at this
          push_cast
          omega
      · simp only [Bool.and_eq_true]
        rw [ih, Bool.not_eq_true', List.isEmpty_eq_false_iff]
        exact ⟨hx2, hc⟩
theorem hasF_all (p q : List Int) : hasF p q q.length [] = hasB p q := hasF_eq p q q.length []
end Go.Proofs.YtodloeonlaljpaaGreat

/- The laws' own helpers for meshes: turned from N2. -/
namespace Go.Proofs.YtodloeonlaljpaaGreat
set_option maxRecDepth 100000
open Go Go.RowKit






end Go.Proofs.YtodloeonlaljpaaGreat

/- A list of rows that is sifted: some of its rows go into another list. -/
namespace Go.Proofs.YtodloeonlaljpaaGreat
set_option maxRecDepth 100000
open Go Go.RowKit

/-- The rows of a list (blocks from a to b), and another outer slice beside them. -/
structure Sift (w : World) (lo a b : Nat) (rs : List Row) (o : Outer) (A : Option Addr) (c : Nat) (vs : List Value) : Prop where
  rows : Own w a b rs [o]
  out : w.ownsRow lo 36 1 (.slice A vs.length c) vs.length vs
  off : ∀ g, (Value.slice A vs.length c).ownBlock = some g → g < a ∨ b ≤ g

section
variable {w w' : World} {lo a b : Nat} {rs : List Row} {o : Outer} {A : Option Addr} {c : Nat} {vs : List Value}
theorem Sift.below (h : Sift w lo a b rs o A c vs) (hb : Below w.heap.size w w') : Sift w' lo a b rs o A c vs := ⟨h.rows.below hb, own_below h.out hb, h.off⟩
theorem Sift.dr (h : Sift w lo a b rs o A c vs) (hd : Dr w w') : Sift w' lo a b rs o A c vs := ⟨h.rows.dr hd, hd.own h.out, h.off⟩
theorem Sift.outN {n : Nat} (h : Sift w lo a b rs o A c vs) (hn : vs.length = n) : w.ownsRow lo 36 1 (.slice A n c) n vs := by subst hn; exact h.out
theorem Sift.grow {n : Nat} {u v1 : Value} {ob : Obj} (h : Sift w lo a b rs o A c vs) (hb : b ≤ w.heap.size) (hn : vs.length = n)
    (h1 : w'.ownsRow lo 36 1 v1 (n + 1) (vs ++ [u])) (hg : (w.alloc ob).grownBy w' (Value.slice A n c).ownBlock) (hat : v1.ownBlock = (Value.slice A n c).ownBlock ∨ v1.ownBlock = some (w.alloc ob).heap.size) :
    ∃ A1 c1, v1 = .slice A1 (n + 1) c1 ∧ Sift w' lo a b rs o A1 c1 (vs ++ [u]) ∧ w.grownBy w' (Value.slice A n c).ownBlock := by
  subst hn
  obtain ⟨A1, c1, rfl, _, _⟩ := own_shape h1
  have hg2 : w.grownBy w' (Value.slice A vs.length c).ownBlock := grown_trans (World.grownBy_alloc w ob _) hg
  refine ⟨A1, c1, rfl, ⟨?_, by simpa using h1, fun g hgg => ?_⟩, hg2⟩
  · rcases hv : (Value.slice A vs.length c).ownBlock with _ | g
    · rw [hv] at hg2
      exact h.rows.below (below_none hg2)
    · rw [hv] at hg2
      have hoff := h.off g hv
      exact h.rows.span (Span.of_grown (lo := g) (hi := g + 1) hg2 (fun q hq => by injection hq with hq; omega)) (by omega)
  · have hgg' : (Value.slice A1 (vs.length + 1) c1).ownBlock = some g := by simpa [Value.ownBlock] using hgg
    rcases hat with e | e
    · rw [e] at hgg'; exact h.off g hgg'
    · rw [e] at hgg'
      injection hgg' with hgg'
      simp at hgg'
      exact .inr (by omega)
theorem Sift.olim {n : Nat} (h : Sift w lo a b rs o A c vs) (hn : vs.length = n) : ∀ g, (Value.slice A n c).ownBlock = some g → lo ≤ g := fun g hg => by
  subst hn
  exact (h.out.lt g hg).1
theorem Sift.done {rs' : List Row} (h : Sift w lo a b rs o A c vs) (hv : vs = rs'.map Row.v) (hs : rs'.Sublist rs) (hlo : lo ≤ a) (hb : b ≤ w.heap.size) : Own w lo w.heap.size rs' [⟨A, c, rs'.map Row.v⟩] := by
  subst hv
  exact ((h.rows.bare.sub hs).wider hlo hb).with_ h.out (Nat.le_refl _)
/-- The list is there; the other one is the empty literal that lay before it. -/
theorem Sift.start {w0 : World} (h : Own w a b rs [o]) (ho : w0.ownsRow lo 36 1 (.slice A 0 c) 0 []) (hb : Below w0.heap.size w0 w) (ha : w0.heap.size ≤ a) : Sift w lo a b rs o A c [] :=
  ⟨h, own_below ho hb, fun g hg => .inl (by have := (ho.lt g hg).2; omega)⟩
end
end Go.Proofs.YtodloeonlaljpaaGreat

/- An outer slice of a call's own whose rows are only read, or are the call's own: it grows by append. -/
namespace Go.Proofs.YtodloeonlaljpaaGreat
set_option maxRecDepth 100000
open Go Go.RowKit

/-- A row that lies below lo, or is owned. -/
def RowOk (w : World) (lo : Nat) (r : Row) : Prop := r.xs.length ≤ r.c ∧ (Rd (Value.int .i64) w lo r.A r.xs ∨ w.ownsRow lo 3 1 r.v r.xs.length (r.xs.map (Value.int .i64)))
structure OutL (w : World) (lo : Nat) (A : Option Addr) (c : Nat) (rs : List Row) : Prop where
  out : w.ownsRow lo 36 1 (.slice A rs.length c) rs.length (rs.map Row.v)
  rows : ∀ r ∈ rs, RowOk w lo r
theorem own_typesO {w : World} {b1 e1 n1 b2 e2 n2 : Nat} {v1 v2 : Value} {x1 x2 : List Value} (h1 : w.ownsRow b1 e1 1 v1 n1 x1) (h2 : w.ownsRow b2 e2 1 v2 n2 x2) (he : e1 ≠ e2) : v1.ownBlock = none ∨ v1.ownBlock ≠ v2.ownBlock := by
  rcases h1.2 with ⟨e, _⟩ | ⟨g1, c1, cur1, e1', _, hh1, _⟩
  · exact .inl (by rw [e]; rfl)
  · refine .inr fun h => ?_
    rcases h2.2 with ⟨e, _⟩ | ⟨g2, c2, cur2, e2', _, hh2, _⟩
    · rw [e, e1'] at h; cases h
    · rw [e1', e2'] at h
      injection h with h
      simp only at h
      subst h
      rw [hh1] at hh2
      injection hh2 with hh2
      injection hh2 with _ ht _
      exact he ht
section
variable {w w' : World} {lo : Nat} {A : Option Addr} {c : Nat} {rs : List Row} {r : Row}
theorem RowOk.in_ (h : RowOk w lo r) (hl : r.xs.length ≤ 1048576) (hlo : lo ≤ w.heap.size) : In w r.A r.c r.xs := ⟨hl, h.1, by
  rcases h.2 with h2 | h2
  · exact h2.more hlo
  · exact Rd.of_own (c := r.c) h2⟩
theorem RowOk.of_in {A : Option Addr} {c : Nat} {xs : List Int} (h : In w A c xs) (hlo : w.heap.size ≤ lo) : RowOk w lo ⟨A, c, xs⟩ := ⟨h.cap, .inl (h.rd.more hlo)⟩
theorem RowOk.below (h : RowOk w lo r) (hb : Below w.heap.size w w') (hlo : lo ≤ w.heap.size) : RowOk w' lo r := ⟨h.1, by
  rcases h.2 with h2 | h2
  · exact .inl (h2.below (hb.mono hlo))
  · exact .inr (own_below h2 hb)⟩
theorem RowOk.dr (h : RowOk w lo r) (hd : Dr w w') : RowOk w' lo r := ⟨h.1, h.2.imp (fun h => h.dr hd) fun h => hd.own h⟩
/-- A cell of another kind is written. -/
theorem RowOk.span {a b : Nat} (h : RowOk w lo r) (hs : Span a b w w') (ha : lo ≤ a) (hlo : lo ≤ w.heap.size) (hg : ∀ g, r.v.ownBlock = some g → g < a ∨ b ≤ g) : RowOk w' lo r := ⟨h.1, by
  rcases h.2 with h2 | h2
  · exact .inl (h2.below (hs.below ha hlo))
  · exact .inr (own_span h2 hs hg)⟩
theorem OutL.below (h : OutL w lo A c rs) (hb : Below w.heap.size w w') (hlo : lo ≤ w.heap.size) : OutL w' lo A c rs := ⟨own_below h.out hb, fun r hr => (h.rows r hr).below hb hlo⟩
theorem OutL.dr (h : OutL w lo A c rs) (hd : Dr w w') : OutL w' lo A c rs := ⟨hd.own h.out, fun r hr => (h.rows r hr).dr hd⟩
/-- A block that is no row of whole numbers and not the outer slice's is written. -/
theorem OutL.box {g i : Nat} {cs : Array Value} {t : TypeId} (h : OutL w lo A c rs) (hlo : lo ≤ g) (hls : lo ≤ w.heap.size) (ho : w.heap[g]? = some (Obj.cells cs t (0, 0))) (h1 : t ≠ 3) (h2 : t ≠ 36) (v : Value) : OutL (w.setCell ⟨g, i, none⟩ v) lo A c rs := by
  have hs : Span g (g + 1) w (w.setCell ⟨g, i, none⟩ v) := Span.set (p := ⟨g, i, none⟩) (Nat.le_refl _) (Nat.lt_succ_self _) _
  have key : ∀ {b e n : Nat} {u : Value} {xs : List Value}, w.ownsRow b e 1 u n xs → t ≠ e → ∀ q, u.ownBlock = some q → q < g ∨ g + 1 ≤ q := by
    intro b e n u xs ho2 hne q hq
    rcases ho2.2 with ⟨e1, _⟩ | ⟨g1, c1, cur1, e1', _, hh1, _⟩
    · rw [e1] at hq; cases hq
    · rw [e1'] at hq
      injection hq with hq
      have hq : g1 = q := hq
      subst hq
      by_cases hgq : g1 = g
      · subst hgq
        rw [ho] at hh1
        injection hh1 with hh1
        injection hh1 with _ ht _
        exact absurd ht hne
      · omega
  refine ⟨own_span h.out hs (key h.out h2), fun r hr => ?_⟩
  have hr := h.rows r hr
  refine ⟨hr.1, ?_⟩
  rcases hr.2 with h3 | h3
  · exact .inl (h3.below (hs.below hlo hls))
  · exact .inr (own_span h3 hs (key h3 h1))
theorem OutL.inL (h : OutL w lo A c rs) (hlo : lo ≤ w.heap.size) (hs : rs.length + sizeR rs ≤ 1048576) : InL w A c rs := by
  refine ⟨hs, ⟨fun r hr => (h.rows r hr).1, fun r hr => ((h.rows r hr).in_ (by have := sizeR_mem hr; omega) hlo).rd, fun o ho => ?_, fun o ho => ?_⟩⟩
  · obtain rfl := List.mem_singleton.1 ho
    have := (own_caps (A := A) (n := rs.length) (c := c) h.out).1
    simpa using this
  · obtain rfl := List.mem_singleton.1 ho
    exact Rd.of_own (f := id) (e := 36) (c := c) (by rw [List.map_id, List.length_map]; exact h.out)
/-- append of a row's header. -/
theorem OutL.push {o : Obj} {v1 : Value} {n : Nat} (h : OutL w lo A c rs) (hn : rs.length = n) (hlo : lo ≤ w.heap.size) (hr : RowOk w lo r)
    (h1 : w'.ownsRow lo 36 1 v1 (n + 1) (rs.map Row.v ++ [r.v])) (hg : (w.alloc o).grownBy w' (Value.slice A n c).ownBlock) :
    ∃ A1 c1, v1 = .slice A1 (n + 1) c1 ∧ OutL w' lo A1 c1 (rs ++ [r]) ∧ w.grownBy w' (Value.slice A n c).ownBlock ∧ w.heap.size < w'.heap.size := by
  subst hn
  obtain ⟨A1, c1, rfl, _, _⟩ := own_shape h1
  have hgg := grown_trans (World.grownBy_alloc w o _) hg
  have hsz : w.heap.size < w'.heap.size := by have := hg.size; simp at this; omega
  have key : ∀ s, RowOk w lo s → RowOk w' lo s := fun s hs => by
    refine ⟨hs.1, ?_⟩
    rcases hs.2 with h3 | h3
    · exact .inl (h3.grown hgg hlo fun g hgq => (h.out.lt g hgq).1)
    · exact .inr (h3.kept hgg (own_typesO h3 h.out (by decide)))
  refine ⟨A1, c1, rfl, ⟨by simpa using h1, fun s hs => ?_⟩, hgg, hsz⟩
  rcases List.mem_append.1 hs with hs | hs
  · exact key s (h.rows s hs)
  · obtain rfl := List.mem_singleton.1 hs
    exact key _ hr
/-- append of rows' headers. -/
theorem OutL.pushes {v1 : Value} {n m : Nat} {qs : List Row} (h : OutL w lo A c rs) (hn : rs.length = n) (hm : qs.length = m) (hlo : lo ≤ w.heap.size) (hr : ∀ r ∈ qs, RowOk w lo r)
    (h1 : w'.ownsRow lo 36 1 v1 (n + m) (rs.map Row.v ++ qs.map Row.v)) (hgg : w.grownBy w' (Value.slice A n c).ownBlock) :
    ∃ A1 c1, v1 = .slice A1 (n + m) c1 ∧ OutL w' lo A1 c1 (rs ++ qs) := by
  subst hn hm
  obtain ⟨A1, c1, rfl, _, _⟩ := own_shape h1
  have key : ∀ s, RowOk w lo s → RowOk w' lo s := fun s hs => by
    refine ⟨hs.1, ?_⟩
    rcases hs.2 with h3 | h3
    · exact .inl (h3.grown hgg hlo fun g hgq => (h.out.lt g hgq).1)
    · exact .inr (h3.kept hgg (own_typesO h3 h.out (by decide)))
  refine ⟨A1, c1, rfl, ⟨by simpa using h1, fun s hs => ?_⟩⟩
  rcases List.mem_append.1 hs with hs | hs
  · exact key s (h.rows s hs)
  · exact key s (hr s hs)
theorem OutL.nil (w : World) (lo : Nat) : OutL w lo none 0 [] := ⟨⟨rfl, .inl ⟨rfl, rfl⟩⟩, fun _ hr => (List.not_mem_nil hr).elim⟩
theorem OutL.lt (h : OutL w lo A c rs) {n : Nat} (hn : rs.length = n) : ∀ g, (Value.slice A n c).ownBlock = some g → lo ≤ g ∧ g < w.heap.size := fun g hg => by subst hn; exact h.out.lt g hg
end
/-- The row [x, y] that was laid down by a literal. -/
theorem RowOk.two {w : World} {lo bl : Nat} {x y : Int} (h : w.heap[bl]? = some (Obj.cells #[.int .i64 x, .int .i64 y] 3 (0, 0))) (hl : lo ≤ bl) : RowOk w lo ⟨some ⟨bl, 0, none⟩, 2, [x, y]⟩ := by
  exact ⟨Nat.le_refl _, .inr ⟨rfl, .inr ⟨bl, 2, #[.int .i64 x, .int .i64 y], rfl, hl, h, Nat.le_refl _, by unfold maxLen; omega, rfl, rfl⟩⟩⟩
end Go.Proofs.YtodloeonlaljpaaGreat

/- Contracts of OverlapsOf, IsLoose, CountRuns. -/
namespace Go.Proofs.YtodloeonlaljpaaGreat
set_option maxRecDepth 100000
open Go Go.RowKit

theorem In.own {w : World} {base e c : Nat} {A : Option Addr} {xs : List Int} (h : w.ownsRow base e 1 (.slice A xs.length c) xs.length (xs.map (Value.int .i64))) (hl : xs.length ≤ 1048576) : In w A c xs :=
  ⟨hl, (own_caps h).1, Rd.of_own h⟩
theorem sizeI (w : World) : (sizeOf (Tryz.prog.elem 36)).run Tryz.prog w = .ok 1 w := by kernel_rfl

def ovH (xs : List Int) (k : Nat) : Bool := decide (patL (xs.take k) = patL (xs.drop (xs.length - k)))
def ovTo (xs : List Int) (k : Nat) : List Int := ((List.range k).filter fun i => decide (1 ≤ i) && ovH xs i).map fun i : Nat => (i : Int)
theorem ovTo_succ (xs : List Int) (k : Nat) (h : 1 ≤ k) : ovTo xs (k + 1) = if ovH xs k = true then ovTo xs k ++ [(k : Int)] else ovTo xs k := by
  unfold ovTo
  rw [List.range_succ, List.filter_append]
  have : decide (1 ≤ k) = true := by simpa using h
  by_cases hk : ovH xs k = true <;> simp [hk, h]
theorem ovTo_length (xs : List Int) (k : Nat) : (ovTo xs k).length ≤ k := by
  unfold ovTo
  rw [List.length_map]
  exact Nat.le_trans (List.length_filter_le _ _) (by simp)
def ovG (xs : List Int) : List Int := if permB xs = true then ovTo xs xs.length else []
theorem ovG_length (xs : List Int) : (ovG xs).length ≤ 8 := by
  unfold ovG
  split
  · rename_i h
    have := ovTo_length xs xs.length
    have := (permB_true h).1
    omega
  · simp






def runH (p q : List Int) (i : Nat) : Bool := decide (patL ((p.drop i).take q.length) = q)
def runsTo (p q : List Int) (k : Nat) : Nat := ((List.range k).filter (runH p q)).length
theorem runsTo_succ (p q : List Int) (k : Nat) : runsTo p q (k + 1) = runsTo p q k + (if runH p q k = true then 1 else 0) := by
  unfold runsTo
  rw [List.range_succ, List.filter_append, List.length_append]
  congr 1
  by_cases h : runH p q k = true <;> simp [h]
theorem runsTo_le (p q : List Int) (k : Nat) : runsTo p q k ≤ k := Nat.le_trans (List.length_filter_le _ _) (by simp)
def runsN (p q : List Int) : Nat := runsTo p q (p.length + 1 - q.length)
def runsG (p q : List Int) : Int := if permB p = true ∧ permB q = true ∧ q.length ≠ 0 then (runsN p q : Int) else -1



end Go.Proofs.YtodloeonlaljpaaGreat

/- Contracts of MahonRow and EulerRow, program and reference. -/
namespace Go.Proofs.YtodloeonlaljpaaGreat
set_option maxRecDepth 100000
open Go Go.RowKit

theorem own_put {α : Type} {f : α → Value} {w : World} {base e g n cap : Nat} {xs : List α} (h : w.ownsRow base e 1 (.slice (some ⟨g, 0, none⟩) n cap) n (xs.map f)) (j : Nat) (hj : j < xs.length) (x : α) :
    w.cell? ⟨g, j, none⟩ = some (f xs[j]) ∧ w.frozen? ⟨g, j, none⟩ = false ∧ (w.setCell ⟨g, j, none⟩ (f x)).ownsRow base e 1 (.slice (some ⟨g, 0, none⟩) n cap) n ((xs.set j x).map f) := by
  have hl := own_len h
  simp only [List.length_map] at hl
  refine ⟨?_, h.frozenAt j, ?_⟩
  · rw [h.cellAt j (by omega)]; simp [hj]
  · rw [List.map_set]; exact (h.stored j (f x)).1

theorem made_zeros {w : World} {base e n : Nat} {v : Value} (h : w.ownsRow base e 1 v n (madeCells (Value.int .i64 0).cells (n * 1)).toList) : w.ownsRow base e 1 v n ((List.replicate n (0 : Int)).map (Value.int .i64)) := by
  rw [show (Value.int .i64 0).cells = #[.int .i64 0] from rfl, toList_madeCells_one, Nat.mul_one] at h
  simpa using h




end Go.Proofs.YtodloeonlaljpaaGreat

/- Texts: FormatInt of one digit, PermText. -/
namespace Go.Proofs.YtodloeonlaljpaaGreat
set_option maxRecDepth 100000
open Go Go.RowKit

theorem infoU8 : (Tryz.prog.info? 5).map (fun i => (i.zero, i.size, i.bytes)) = some (some (.int .u8 0), 1, 1) := by kernel_rfl
/-- A string off its bytes. -/
def bs (l : List UInt8) : ByteArray := ⟨l.toArray⟩
def dig (x : Int) : UInt8 := UInt8.ofNat (48 + x).toNat

theorem bs_append (l l' : List UInt8) : bs l ++ bs l' = bs (l ++ l') := by
  apply ByteArray.ext
  simp [bs]
theorem bs_size (l : List UInt8) : (bs l).size = l.length := by simp [bs, ByteArray.size]
theorem bs_extract (l : List UInt8) (i : Nat) (h : i < l.length) : (bs l).extract i (i + 1) = bs [l[i]] := by
  apply ByteArray.ext
  simp only [bs, ByteArray.data_extract, List.extract_toArray]
  congr 1
  rw [List.extract_eq_take_drop, List.drop_eq_getElem_cons h, Nat.add_sub_cancel_left]
  rfl
theorem fold_bs (ns : List Int) (l : List UInt8) : ns.foldl (fun (r : ByteArray) (n : Int) => r.push (UInt8.ofNat n.toNat)) (bs l) = bs (l ++ ns.map fun n => UInt8.ofNat n.toNat) := by
  induction ns generalizing l with
  | nil => simp
  | cons n t ih =>
    have : (bs l).push (UInt8.ofNat n.toNat) = bs (l ++ [UInt8.ofNat n.toNat]) := by simp [bs, ByteArray.push]
    rw [List.foldl_cons, this, ih]
    simp
/-- 'string(b)' of a slice of bytes that is read. -/
theorem conv_bytes {w : World} {B b off c n : Nat} {ns : List Int} (h : Rd (Value.int .u8) w B (some ⟨b, off, none⟩) ns) (hn : ns.length = n) :
    (convert 22 9 (.slice (some ⟨b, off, none⟩) n c)).run Tryz.prog w = .ok (.string (bs (ns.map fun n => UInt8.ofNat n.toNat))) w := by
  rw [run_convert_bytes_string w 22 9 5 _ _ _ Tryz.underlying22 Tryz.underlying5 Tryz.underlying9, run_bytesToString w ⟨b, off, none⟩ n c ns]
  · rw [show ByteArray.empty = bs [] from rfl, fold_bs]; rfl
  · have hl := run_loadCells_list (P := Tryz.prog) (w := w) ⟨b, off, none⟩ (ns.map (Value.int .u8)) (by
      intro j v hv
      rw [List.getElem?_map] at hv
      rcases hj : ns[j]? with _ | x
      · rw [hj] at hv; cases hv
      · rw [hj] at hv
        injection hv with hv
        obtain ⟨hlt, hx⟩ := List.getElem?_eq_some_iff.1 hj
        obtain ⟨b', off', he, _, hc⟩ := h (by omega)
        injection he with he
        injection he with h1 h2
        subst h1 h2
        rw [show (⟨b, off, none⟩ : Addr).add j = ⟨b, off + j, none⟩ by unfold Addr.add; by_cases h : j = 0 <;> simp [h], hc j hlt, ← hv, hx])
    rw [List.length_map, hn] at hl
    exact hl


/-- What PermText writes of a permutation. -/
def textD (xs : List Int) : List UInt8 := if xs = [] then [45] else xs.map dig
def digL (xs : List Int) (k : Nat) : List Int := (xs.take k).map fun x => 48 + x
theorem digL_length (xs : List Int) (k : Nat) (h : k ≤ xs.length) : (digL xs k).length = k := by simp [digL]; omega
theorem digL_succ (xs : List Int) (k : Nat) (h : k < xs.length) : digL xs (k + 1) = digL xs k ++ [48 + xs[k]] := by
  unfold digL; rw [List.take_succ_eq_append_getElem h, List.map_append]; rfl
def ptext (xs : List Int) : ByteArray := if permB xs then bs (textD xs) else bs []

set_option maxHeartbeats 1000000 in
theorem permText_impl (A : Option Addr) (c : Nat) (xs : List Int) (w : World) (h : In w A c xs) :
    Calls Tryz.prog 83 #[.slice A xs.length c] w (Rb w (.string (ptext xs))) := by
  obtain ⟨i0, hi, hz0, hz1, hz2⟩ := info_parts infoU8
  have hl := h.len
  by_cases hp : permB xs = true
  · have HT := Lib.hid (show ptext xs = bs (textD xs) by unfold ptext; rw [if_pos hp])
    have h8 := (permB_true hp).1
    have hr := (permB_true hp).2.1
    go_enter Tryz.func83, Tryz.ntmps83
    go_wp2_with fail
    (with_reducible refine (isPerm_impl A c xs _ h).mono ?_)
    rintro e wp ⟨rfl, hbp⟩
    rw [hp]
    clear hp
    by_cases h0 : xs = []
    · subst h0
      go_wp2
      go_ret
      exact ⟨by rw [HT.out]; rfl, hbp⟩
    · have hne : 0 < xs.length := List.length_pos_iff.2 h0
      have d0 : ((xs.length : Int) == 0) = false := by simp; omega
      have HD := Lib.hid (show textD xs = (digL xs xs.length).map fun n => UInt8.ofNat n.toNat by unfold textD digL; rw [if_neg h0, List.take_length, List.map_map]; rfl)
      clear h0
      have hx := (h.next hbp).rd
      have HR := Lib.hid hr
      clear hr
      go_wp2
      have hown0 : (wp.alloc (.cells #[] 5)).ownsRow wp.heap.size 5 1 (.slice (some ⟨wp.heap.size, 0, none⟩) 0 0) 0 ((digL xs 0).map (Value.int .u8)) := World.ownsRow_lit wp #[] 0 (Nat.le_refl _) (by unfold maxLen; omega) rfl
      have hb0 := (Below.refl wp.heap.size wp).alloc (Nat.le_refl _) (.cells #[] 5)
      go_loopw [3, 15] (fun v i wr => ∃ (k : Nat) (A' : Option Addr) (c' : Nat), k ≤ xs.length ∧ i = .int .i64 k ∧ v = .slice A' k c' ∧ wr.ownsRow wp.heap.size 5 1 (.slice A' k c') k ((digL xs k).map (Value.int .u8)) ∧ Below wp.heap.size wp wr) (fun _ i _ => xs.length - (intOf i).toNat)
      case atStart => exact ⟨0, _, _, Nat.zero_le _, rfl, rfl, hown0, hb0⟩
      case round =>
        clear hown0 hb0
        obtain ⟨k, A', c', hk, rfl, rfl, hown, hb⟩ := hrel
        have hsz := hb.size
        rcases Nat.lt_or_ge k xs.length with hlt | hge
        · obtain ⟨b, off, rfl, _, hc⟩ := (hx.below hb) hne
          have c1 := hc k hlt
          have hbx := HR.out xs[k] (List.getElem_mem hlt)
          have HS := Lib.hid (digL_succ xs k hlt)
          clear hc
          go_wp2_with (at_builtin; refine wpList_append_own _ rfl _ _ 22 rfl (wp.heap.size) 5 i0 (.int .u8 0) 1 1 Tryz.underlying22 hi hz0 hz1 hz2 rfl (by decide) _ _ _ rfl (World.ownsRow.alloc hown _) ⟨wr.heap.size, 0, none⟩ 1 1 [.int .u8 (48 + xs[k])] rfl rfl (cell_one_new _ _ _) (by intro u hu; simp at hu; subst hu; rfl) (by unfold maxLen; omega) (by omega) (by simp; omega) ?_; intro v1 w1 hown1 hgrow1 _)
          have hb1 := (hb.alloc hsz (Obj.cells #[Value.int .u8 (48 + xs[k])] 5)).grown hgrow1 (by simp; omega) (by intro g hg; exact ((hown.lt g hg).1))
          have hS2 : w1.ownsRow wp.heap.size 5 1 v1 (k + 1) ((digL xs (k + 1)).map (Value.int .u8)) := by rw [HS.out]; simpa using hown1
          obtain ⟨A1, cc, rfl, _, _⟩ := own_shape hS2
          have hH1 := Lib.hid hS2
          have hH2 := Lib.hid hb1
          clear hS2 hown1 hgrow1 hb1 hown hb
          go_wp2
          go_roundw
          case rel => exact ⟨k + 1, A1, cc, by omega, by go_num, rfl, hH1.out, hH2.out⟩
          case measure => simp [intOf]; omega
        · obtain rfl : k = xs.length := by omega
          obtain ⟨g, cap, hv, _, hgl⟩ := hown.form hne
          have hA' : A' = some ⟨g, 0, none⟩ := by injection hv
          subst hA'
          have hrd : Rd (Value.int .u8) wr wr.heap.size (some ⟨g, 0, none⟩) (digL xs xs.length) := Rd.of_own (c := c') (by rw [digL_length xs xs.length (Nat.le_refl _)]; exact hown)
          have hcv := conv_bytes (c := c') hrd (digL_length xs xs.length (Nat.le_refl _))
          clear hv
          go_wp2
          go_ret
          exact ⟨by rw [HT.out, HD.out]; rfl, hbp.trans (hb.mono hbp.size)⟩
  · have hpf : permB xs = false := by simpa using hp
    have HT := Lib.hid (show ptext xs = bs [] by unfold ptext; rw [hpf]; rfl)
    go_enter Tryz.func83, Tryz.ntmps83
    go_wp2_with fail
    (with_reducible refine (isPerm_impl A c xs _ h).mono ?_)
    rintro e wp ⟨rfl, hbp⟩
    rw [hpf]
    go_wp2
    go_ret
    exact ⟨by rw [HT.out]; rfl, hbp⟩
end Go.Proofs.YtodloeonlaljpaaGreat

/- Does a pattern occur: the reference's search. -/
namespace Go.Proofs.YtodloeonlaljpaaGreat
set_option maxRecDepth 100000
open Go Go.RowKit

def fit1 (p q m : List Int) (k : Nat) : Bool := decide (q[k]?.getD 0 < q[m.length - 1]?.getD 0) == decide ((atL p m)[k]?.getD 0 < (atL p m)[m.length - 1]?.getD 0)
def fit1To (p q m : List Int) (k : Nat) : Bool := (List.range k).all (fit1 p q m)
theorem fit1To_succ (p q m : List Int) (k : Nat) : fit1To p q m (k + 1) = (fit1To p q m k && fit1 p q m k) := by simp [fit1To, List.range_succ]
theorem fit1To_all (p q m : List Int) : fit1To p q m (m.length - 1) = fitsB p q m := rfl
theorem fit1To_false {p q m : List Int} {k n : Nat} (h : k < n) (h1 : fit1 p q m k = false) : fit1To p q m n = false := by
  unfold fit1To
  rw [List.all_eq_false]
  exact ⟨k, List.mem_range.2 h, by simp [h1]⟩

set_option maxHeartbeats 1000000 in
theorem l7Fits_any (A B D : Option Addr) (c d f N : Nat) (p q m : List Int) (w : World) (hn : m.length = N) (hN1 : 1 ≤ N) (hq : N ≤ q.length) (hq8 : q.length ≤ 1000) (hp8 : p.length ≤ 1000) (hm : ∀ x ∈ m, 1 ≤ x ∧ x ≤ p.length)
    (hpr : Rd (Value.int .i64) w w.heap.size A p) (hqr : Rd (Value.int .i64) w w.heap.size B q) (hmr : Rd (Value.int .i64) w w.heap.size D m) :
    Calls Tryz.prog 122 #[.slice A p.length c, .slice B q.length d, .slice D N f] w (Rq w (.bool (fitsB p q m))) := by
  have HG := Lib.hid (show fitsB p q m = fit1To p q m (N - 1) by rw [← fit1To_all, hn])
  have hnm : N - 1 < m.length := by omega
  have hq1 : N - 1 < q.length := by omega
  have hxl := hm m[N - 1] (List.getElem_mem hnm)
  have hn1000 : N ≤ 1000 := by omega
  have HN := Lib.hid hn
  obtain ⟨cx, hcx⟩ : ∃ cx : Nat, (cx : Int) + 1 = m[N - 1] := ⟨(m[N - 1] - 1).toNat, by omega⟩
  have hcxp : cx < p.length := by omega
  obtain ⟨bp, op, rfl, _, hcp⟩ := hpr (by omega)
  obtain ⟨bq, oq, rfl, _, hcq⟩ := hqr (by omega)
  obtain ⟨bm, om, rfl, _, hcm⟩ := hmr (by omega)
  have c1 := hcm (N - 1) hnm
  have c2 := hcp cx hcxp
  have c3 := hcq (N - 1) hq1
  rw [← hcx] at c1
  have HX := Lib.hid (show (atL p m)[m.length - 1]?.getD 0 = p[cx] by
    unfold atL
    rw [List.getElem?_map, hn, List.getElem?_eq_getElem hnm, ← hcx]
    simp only [Option.map_some, Option.getD_some, Int.add_sub_cancel, Int.toNat_natCast]
    rw [List.getElem?_eq_getElem hcxp]; rfl)
  have e1 : IntKind.i64.wrap ((cx : Int) + 1 - 1) = (cx : Int) := by rw [Int.add_sub_cancel]; exact IntWalk.i64_in _ (by omega)
  have e2 : (cx : Int) < (p.length : Int) := by omega
  have e3 : (N : Int) - 1 < (q.length : Int) := by omega
  have e30 : 1 ≤ (N : Int) := by omega
  have e31 : 0 ≤ (N : Int) - 1 := by omega
  have e32 : (N : Int) - 1 < (N : Int) := by omega
  have e33 : ((N : Int) - 1).toNat = N - 1 := by omega
  clear hn hxl hcx hpr hqr hmr
  go_enter Tryz.func122, Tryz.ntmps122
  go_wp2_with fail
  go_loopw [8] (fun i wr => ∃ k : Nat, k ≤ N - 1 ∧ i = .int .i64 k ∧ Hid (fit1To p q m k = true) ∧ Dr w wr) (fun i _ => N - 1 - (intOf i).toNat)
  case atStart => exact ⟨0, Nat.zero_le _, rfl, Lib.hid rfl, Dr.refl _⟩
  case round =>
    obtain ⟨k, hk, rfl, HF, hd⟩ := hrel
    rcases Nat.lt_or_ge k (N - 1) with hlt | hge
    · have hkm : k < m.length := by omega
      have hkl := hm m[k] (List.getElem_mem hkm)
      obtain ⟨ck, hck⟩ : ∃ ck : Nat, (ck : Int) + 1 = m[k] := ⟨(m[k] - 1).toNat, by omega⟩
      have hckp : ck < p.length := by omega
      have hkq : k < q.length := by omega
      have g1 : wr.cell? ⟨bm, om + (N - 1), none⟩ = some (.int .i64 ((cx : Int) + 1)) := (hd.cell _).trans c1
      have g2 : wr.cell? ⟨bp, op + cx, none⟩ = some (.int .i64 p[cx]) := (hd.cell _).trans c2
      have g3 : wr.cell? ⟨bq, oq + (N - 1), none⟩ = some (.int .i64 q[N - 1]) := (hd.cell _).trans c3
      have g4 : wr.cell? ⟨bm, om + k, none⟩ = some (.int .i64 m[k]) := (hd.cell _).trans (hcm k hkm)
      have g5 : wr.cell? ⟨bp, op + ck, none⟩ = some (.int .i64 p[ck]) := (hd.cell _).trans (hcp ck hckp)
      have g6 : wr.cell? ⟨bq, oq + k, none⟩ = some (.int .i64 q[k]) := (hd.cell _).trans (hcq k hkq)
      rw [← hck] at g4
      have HK := Lib.hid (show fit1 p q m k = (decide (q[k] < q[N - 1]) == decide (p[ck] < p[cx])) by
        unfold fit1
        rw [HX.out]
        have : (atL p m)[k]?.getD 0 = p[ck] := by
          unfold atL
          rw [List.getElem?_map, List.getElem?_eq_getElem hkm, ← hck]
          simp only [Option.map_some, Option.getD_some, Int.add_sub_cancel, Int.toNat_natCast]
          rw [List.getElem?_eq_getElem hckp]; rfl
        rw [this, HN.out, List.getElem?_eq_getElem hkq, List.getElem?_eq_getElem hq1]
        rfl)
      have e4 : IntKind.i64.wrap ((ck : Int) + 1 - 1) = (ck : Int) := by rw [Int.add_sub_cancel]; exact IntWalk.i64_in _ (by omega)
      have e5 : (ck : Int) < (p.length : Int) := by omega
      have e6 : (k : Int) < (q.length : Int) := by omega
      have e7 : (k : Int) < (N : Int) := by omega
      have e8 : (k : Int) < (N : Int) - 1 := by omega
      clear hkl hck
      by_cases hf : fit1 p q m k = true
      · have HH := Lib.hid (show fit1To p q m (k + 1) = true by rw [fit1To_succ, HF.out, hf]; rfl)
        have hne : (!(decide (q[k] < q[N - 1]) == decide (p[ck] < p[cx]))) = false := by
          have := HK.out
          rw [hf] at this
          revert this
          cases decide (q[k] < q[N - 1]) <;> cases decide (p[ck] < p[cx]) <;> simp
        clear hf HK
        go_wp2_with fail
        go_quiet (fail)
        go_wp2_with fail
        go_roundw
        case rel => exact ⟨k + 1, by omega, by go_num, HH, (by first | with_reducible assumption | with_reducible exact hd | with_reducible exact Dr.drewN hd _ | with_reducible exact Dr.drewN (Dr.drewN hd _) _ | with_reducible exact Dr.drew hd)⟩
        case measure => simp [intOf]; omega
      · have hff : fit1 p q m k = false := by simpa using hf
        have HH := Lib.hid (show fit1To p q m (N - 1) = false from fit1To_false hlt hff)
        have hne : (!(decide (q[k] < q[N - 1]) == decide (p[ck] < p[cx]))) = true := by
          have := HK.out
          rw [hff] at this
          revert this
          cases decide (q[k] < q[N - 1]) <;> cases decide (p[ck] < p[cx]) <;> simp
        clear hf hff HK
        go_wp2_with fail
        go_quiet (fail)
        go_wp2_with fail
        go_ret
        exact ⟨ret_bool (by rw [HG.out, HH.out]), (by first | with_reducible assumption | with_reducible exact hd | with_reducible exact Dr.drewN hd _ | with_reducible exact Dr.drewN (Dr.drewN hd _) _ | with_reducible exact Dr.drew hd)⟩
    · obtain rfl : k = N - 1 := by omega
      have e8 : ((N - 1 : Nat) : Int) = (N : Int) - 1 := by omega
      go_wp2_with fail
      go_ret
      exact ⟨ret_bool (by rw [HG.out, HF.out]), hd⟩
def findTo (p q : List Int) (k : Nat) (l : List Int) (u : Nat) : List (List Int) := ((marks (fromI l) u).filter fun x => fitsB p q (l ++ [x])).flatMap fun x => occF p q k (l ++ [x])
theorem findTo_succ (p q : List Int) (k : Nat) (l : List Int) (u : Nat) : findTo p q k l (u + 1) = if fitsB p q (l ++ [fromI l + u]) = true then findTo p q k l u ++ occF p q k (l ++ [fromI l + u]) else findTo p q k l u := by
  unfold findTo
  rw [marks_succ, List.filter_append]
  by_cases h : fitsB p q (l ++ [fromI l + u]) = true <;> simp [h]
theorem findTo_le (p q : List Int) (k : Nat) (l : List Int) (u : Nat) (h : 1 ≤ fromI l) : (findTo p q k l u).length ≤ u * p.length ^ k := by
  have hm : ∀ x ∈ (marks (fromI l) u).filter fun x => fitsB p q (l ++ [x]), (occF p q k (l ++ [x])).length ≤ p.length ^ k := fun x hx => by
    obtain ⟨i, _, rfl⟩ := List.mem_map.1 (List.mem_filter.1 hx).1
    exact occF_le p q k _ (by rw [fromI_snoc]; omega)
  have h1 := flatMap_le (fun x => occF p q k (l ++ [x])) (p.length ^ k) _ hm
  have h2 := List.length_filter_le (fun x => fitsB p q (l ++ [x])) (marks (fromI l) u)
  rw [marks_len] at h2
  exact Nat.le_trans h1 (Nat.mul_le_mul_right _ h2)
theorem Asc.le {n : Nat} {l : List Int} (h : Asc n l) : fromI l ≤ n + 1 := by
  rcases hl : l.getLast? with _ | x
  · simp [fromI, hl]; omega
  · have := h.1 x (List.mem_of_getLast? hl)
    simp only [fromI, hl]
    omega

set_option maxHeartbeats 8000000 in
theorem find_rec (p q : List Int) (hp8 : p.length ≤ 8) (hq8 : q.length ≤ 8) : ∀ (k : Nat) (F rs : List Row) (r : Row) (A B D : Option Addr) (c d f lo : Nat) (w : World), r.xs.length + k = q.length → Asc p.length r.xs → lo ≤ w.heap.size → rs.length + p.length ^ k ≤ 100000000 →
    Rd (Value.int .i64) w lo A p → Rd (Value.int .i64) w lo B q → Own w lo w.heap.size (F ++ rs ++ [r]) [⟨D, f, rs.map Row.v⟩] →
    Calls Tryz.prog 112 #[.slice A p.length c, .slice B q.length d, .slice r.A r.xs.length r.c, .slice D rs.length f] w (Filled w lo F rs (occF p q k r.xs)) := by
  obtain ⟨i0, hi, hz0, hz1, hz2⟩ := info_parts infoI
  obtain ⟨j0, hj, hy0, hy1, hy2⟩ := info_parts infoL
  intro k
  induction k with
  | zero =>
    intro F rs r A B D c d f lo w hr has hlo hcount hp hq hO
    have hcount : rs.length + 1 ≤ 100000000 := by simpa using hcount
    have d1 : ((r.xs.length : Int) == (q.length : Int)) = true := by simp; omega
    have ho := hO.outN (n := rs.length) (by simp)
    have HR := Lib.hid hr
    clear hr
    go_enter Tryz.func112, Tryz.ntmps112
    go_wp2_with (at_builtin; refine wpList_append_own _ rfl _ _ 24 rfl (lo) 36 j0 (.slice none 0 0) 1 24 Tryz.underlying24 hj hy0 hy1 hy2 rfl (by decide) _ _ _ rfl (World.ownsRow.alloc ho _) ⟨w.heap.size, 0, none⟩ 1 1 [Value.slice r.A r.xs.length r.c] rfl rfl (cell_one_at _ _ (by simp)) (by intro u hu; simp at hu; subst hu; rfl) (by unfold maxLen; omega) (by omega) (by simp; omega) ?_; intro v9 w9 hown9 hgrow9 _)
    obtain ⟨A5, c5, rfl, hO6, hg3⟩ := hO.grow (Nat.le_refl _) (by simp) hown9 hgrow9
    have hbw := (Below.refl lo w).grown hg3 hlo (fun g hg => (hO.olim (by simp) g hg).1)
    have K := Lib.hid (And.intro hO6 hbw)
    clear hO6 hbw hown9 hgrow9 hg3 hO ho
    go_wp2
    go_ret
    exact ⟨A5, c5, [r], rfl, rfl, by simpa [Row.v, List.append_assoc] using K.out.1, K.out.2⟩
  | succ k ih =>
    intro F rs r A B D c d f lo w hr has hlo hcount hp hq hO
    have d1 : ((r.xs.length : Int) == (q.length : Int)) = false := by simp; omega
    have hrl : r.xs.length < q.length := by omega
    have hfrom := has.from
    have hfromle := has.le
    obtain ⟨fr, hfr⟩ : ∃ fr : Nat, (fr : Int) = fromI r.xs := ⟨(fromI r.xs).toNat, by omega⟩
    have hfr1 : 1 ≤ fr := by omega
    have hfr2 : fr ≤ p.length + 1 := by omega
    obtain ⟨m, hm⟩ : ∃ m : Nat, m = ((p.length : Int) + 1 - fromI r.xs).toNat := ⟨_, rfl⟩
    have hmu : ∀ u : Nat, fr + u ≤ p.length ↔ u < m := fun u => by omega
    have hm8 : m ≤ p.length := by omega
    have HMU := Lib.hid hmu
    have HG := Lib.hid (show occF p q (k + 1) r.xs = findTo p q k r.xs m by rw [hm]; rfl)
    have HFR := Lib.hid hfr
    have hpow : ∀ u, u + 1 ≤ m → u * p.length ^ k + p.length ^ k ≤ p.length ^ (k + 1) := fun u hu => by
      have := Nat.mul_le_mul_right (p.length ^ k) (Nat.le_trans hu hm8)
      rw [Nat.add_mul, Nat.one_mul] at this
      rw [Nat.pow_succ, Nat.mul_comm (p.length ^ k)]
      exact this
    have HP := Lib.hid hpow
    have HR := Lib.hid hr
    have HC := Lib.hid hcount
    have hO0 : Own w lo w.heap.size (F ++ [r] ++ (rs ++ [])) [⟨D, f, (rs ++ []).map Row.v⟩] := by
      rw [List.append_nil]
      refine hO.perm ?_
      rw [List.append_assoc, List.append_assoc]
      exact List.Perm.append_left F List.perm_append_comm
    have hrd0 := own_row hO (r := r) (by simp) (Nat.le_refl _)
    clear hr hcount hpow hO hfr hm hmu
    go_enter Tryz.func112, Tryz.ntmps112
    go_upto_if 23 with (fail)
    go_cut [9] (fun s9 wx => s9 = .int .i64 (fr : Int) ∧ wx = w)
    case first =>
      rcases Nat.eq_zero_or_pos r.xs.length with h0 | h0
      · have h0f : r.xs = [] := List.eq_nil_of_length_eq_zero h0
        have HF := Lib.hid (show fr = 1 by have := HFR.out; rw [h0f, fromI_nil] at this; omega)
        have d2 : decide (0 < r.xs.length) = false := decide_eq_false (by omega)
        have d3 : r.xs.length ≤ 0 := by omega
        clear h0 h0f
        go_wp2_with fail
        go_meet
        exact ⟨by rw [HF.out]; rfl, rfl⟩
      · obtain ⟨b, off, hA, _, hc⟩ := hrd0.2 (by omega)
        have c1 := hc (r.xs.length - 1) (by omega)
        have HF := Lib.hid (show (fr : Int) = r.xs[r.xs.length - 1] + 1 by
          rw [HFR.out]
          have : r.xs.getLast? = some r.xs[r.xs.length - 1] := by rw [List.getLast?_eq_getElem?, List.getElem?_eq_getElem (by omega)]
          simp only [fromI, this])
        have d2 : decide (0 < r.xs.length) = true := decide_eq_true (by omega)
        have hb1 := has.1 r.xs[r.xs.length - 1] (List.getElem_mem (by omega))
        have e0 : 1 ≤ (r.xs.length : Int) := by omega
        have e2 : 0 ≤ (r.xs.length : Int) - 1 := by omega
        have e3 : (r.xs.length : Int) - 1 < r.xs.length := by omega
        have e1 : ((r.xs.length : Int) - 1).toNat = r.xs.length - 1 := by omega
        clear hc
        rw [hA]
        go_wp2_with fail
        rw [← hA]
        go_meet
        exact ⟨by rw [HF.out], rfl⟩
    case rest =>
      obtain ⟨rfl, rfl⟩ := hcut
      clear hrd0
      go_wp2_with fail
      go_loopw [3, 10] (fun o i wr => ∃ (u : Nat) (A1 : Option Addr) (c1 : Nat) (rs1 : List Row), u ≤ m ∧ i = .int .i64 ((fr : Int) + u) ∧ o = .slice A1 (rs.length + rs1.length) c1 ∧ Hid (rs1.map Row.xs = findTo p q k r.xs u) ∧
        Own wr lo wr.heap.size (F ++ [r] ++ (rs ++ rs1)) [⟨A1, c1, (rs ++ rs1).map Row.v⟩] ∧ Below lo wc wr ∧ lo ≤ wr.heap.size) (fun _ i _ => m - ((intOf i).toNat - fr))
      case atStart => exact ⟨0, D, f, [], Nat.zero_le _, by simp, rfl, Lib.hid rfl, hO0, Below.refl _ _, hlo⟩
      case round =>
        clear hO0
        obtain ⟨u, A1, c1, rs1, hu, rfl, rfl, HX, hO, hb, hlo1⟩ := hrel
        have hrd := own_row hO (r := r) (by simp) (Nat.le_refl _)
        rcases Nat.lt_or_ge u m with hlt | hge
        · have hle : fr + u ≤ p.length := (HMU.out u).2 hlt
          have own0 : (wr.alloc (.cells #[] 3)).ownsRow wr.heap.size 3 1 (.slice (some ⟨wr.heap.size, 0, none⟩) 0 0) 0 [] := World.ownsRow_lit wr #[] 0 (Nat.le_refl _) (by unfold maxLen; omega) rfl
          have hx0 := hrd.2.alloc (Nat.le_refl _) (.cells #[] 3)
          have hbA := (Below.refl wr.heap.size wr).alloc (Nat.le_refl _) (.cells #[] 3)
          go_wp2_with (first | ((at_builtin; refine wpList_append_rd _ rfl _ _ 36 rfl (wr.heap.size) 3 i0 (.int .i64 0) 8 Tryz.underlying36 hi hz0 hz1 hz2 rfl _ _ _ rfl own0 _ _ _ _ (r.xs) rfl rfl hx0 (fun _ => rfl) (by unfold maxLen; omega) (by omega) (by first | omega | (simp; done) | (simp; omega)) ?_; intro v1 w1 hown1 hgrow1); simp only [Nat.zero_add, List.nil_append] at hown1; obtain ⟨A3, c3, rfl, _, _⟩ := own_shape hown1; have hbB := hbA.grown hgrow1 (by simp) (fun g hg => (own0.lt g hg).1); have hszB := hbB.size) | (at_builtin; refine wpList_append_own _ rfl _ _ 36 rfl (wr.heap.size) 3 i0 (.int .i64 0) 1 8 Tryz.underlying36 hi hz0 hz1 hz2 rfl (by decide) _ _ _ rfl (World.ownsRow.alloc hown1 _) ⟨w1.heap.size, 0, none⟩ 1 1 [.int .i64 ((fr : Int) + u)] rfl rfl (cell_one_new _ _ _) (by intro u hu; simp at hu; subst hu; rfl) (by unfold maxLen; omega) (by omega) (by simp; omega) ?_; intro v2 w2 hown2 hgrow2 _))
          have hbC := (hbB.alloc hszB (Obj.cells #[Value.int .i64 ((fr : Int) + u)] 3)).grown hgrow2 (by simp; omega) (fun g hg => (hown1.lt g hg).1)
          have hrow : w2.ownsRow wr.heap.size 3 1 v2 (r.xs.length + 1) ((r.xs ++ [(fr : Int) + u]).map (Value.int .i64)) := by simpa using hown2
          obtain ⟨A4, c4, rfl, _, _⟩ := own_shape hrow
          have hszC := hbC.size
          have hO1 := hO.below hbC
          have hO2 := hO1.add (r := ⟨A4, c4, r.xs ++ [(fr : Int) + u]⟩) (by simpa [Row.v] using hrow) hszC hlo1
          have hb2 := hb.trans (hbC.mono hlo1)
          have hlo2 : lo ≤ w2.heap.size := by omega
          have hrow2 := own_row hO2 (r := ⟨A4, c4, r.xs ++ [(fr : Int) + u]⟩) (by simp) (Nat.le_refl _)
          have hp2 := hp.below hb2
          have hq2 := hq.below hb2
          have has2 : Asc p.length (r.xs ++ [(fr : Int) + u]) := has.snoc (ways_mem.2 ⟨by rw [← HFR.out]; omega, by omega⟩)
          have hmem : ∀ x ∈ r.xs ++ [(fr : Int) + u], 1 ≤ x ∧ x ≤ p.length := fun x hx => by have := has2.1 x hx; omega
          have hlen1 : (r.xs ++ [(fr : Int) + u]).length = r.xs.length + 1 := by simp
          have HT := Lib.hid (findTo_succ p q k r.xs u)
          have hcnt : rs.length + rs1.length + p.length ^ k ≤ 100000000 := by
            have h1 := congrArg List.length HX.out
            have h2 := findTo_le p q k r.xs u hfrom
            have h3 := HP.out u hlt
            have h4 := HC.out
            rw [List.length_map] at h1
            omega
          have HL1 := Lib.hid hlen1
          have hOk := hO1.wider (Nat.le_refl _) hszC
          clear hown1 hown2 hgrow1 hgrow2 hbA hbB hrow hx0 own0 hO hO1 hlen1
          go_wp2_with fail
          by_cases hft : fitsB p q (r.xs ++ [(fr : Int) + u]) = true
          · have HE := Lib.hid (show findTo p q k r.xs (u + 1) = findTo p q k r.xs u ++ occF p q k (r.xs ++ [(fr : Int) + u]) by rw [HT.out, ← HFR.out, if_pos hft])
            have HH := Lib.hid hft
            clear hft
            (with_reducible refine (l7Fits_any A B A4 c d c4 (r.xs.length + 1) p q (r.xs ++ [(fr : Int) + u]) w2 HL1.out (by omega) (by omega) (by omega) (by omega) hmem (hp2.more hlo2) (hq2.more hlo2) hrow2.2).mono ?_)
            rintro e w3 ⟨rfl, hd3⟩
            rw [HH.out]
            have hO3 := hO2.dr hd3
            have hsz3 : w3.heap.size = w2.heap.size := by rw [hd3.heap]
            rw [← hsz3] at hO3
            have hb3 := below_dr hb2 hd3
            have hlo3 : lo ≤ w3.heap.size := by omega
            have IH := ih (F ++ [r]) (rs ++ rs1) ⟨A4, c4, r.xs ++ [(fr : Int) + u]⟩ A B A1 c d c1 lo w3 (by have := HR.out; have := HL1.out; show (r.xs ++ [(fr : Int) + u]).length + k = _; omega) has2 hlo3 (by rw [List.length_append]; exact hcnt) (hp2.dr hd3) (hq2.dr hd3) hO3
            rw [show (Row.mk A4 c4 (r.xs ++ [(fr : Int) + u])).xs.length = r.xs.length + 1 by simp, List.length_append] at IH
            have IHH := Lib.hid IH
            clear IH hO2 hO3 hOk hsz3 hrow2
            go_wp2_with fail
            (with_reducible refine IHH.out.mono ?_)
            rintro e w4 ⟨A5, c5, rs2, rfl, hxs, hO4, hb4⟩
            have K := Lib.hid (And.intro hxs (And.intro hO4 (hb3.trans hb4)))
            have hlo4 : lo ≤ w4.heap.size := by have := hb4.size; omega
            clear hxs hO4 hb4 IHH hb2 hb3
            go_wp2_with fail
            go_roundw
            case rel => exact ⟨u + 1, A5, c5, rs1 ++ rs2, by omega, by go_num, by rw [List.length_append]; go_num, Lib.hid (by rw [HE.out, List.map_append, HX.out, K.out.1]), by rw [← List.append_assoc rs]; exact K.out.2.1, K.out.2.2, hlo4⟩
            case measure => simp [intOf]; omega
          · have hff : fitsB p q (r.xs ++ [(fr : Int) + u]) = false := by simpa using hft
            have HE := Lib.hid (show findTo p q k r.xs (u + 1) = findTo p q k r.xs u by rw [HT.out, ← HFR.out, if_neg hft])
            have HH := Lib.hid hff
            clear hft hff
            (with_reducible refine (l7Fits_any A B A4 c d c4 (r.xs.length + 1) p q (r.xs ++ [(fr : Int) + u]) w2 HL1.out (by omega) (by omega) (by omega) (by omega) hmem (hp2.more hlo2) (hq2.more hlo2) hrow2.2).mono ?_)
            rintro e w3 ⟨rfl, hd3⟩
            rw [HH.out]
            have hO3 := hOk.dr hd3
            have hsz3 : w3.heap.size = w2.heap.size := by rw [hd3.heap]
            rw [← hsz3] at hO3
            have hb3 := below_dr hb2 hd3
            have hlo3 : lo ≤ w3.heap.size := by omega
            clear hO2 hOk hsz3 hrow2 hb2
            go_wp2_with fail
            go_roundw
            case rel => exact ⟨u + 1, A1, c1, rs1, by omega, by go_num, rfl, Lib.hid (by rw [HE.out]; exact HX.out), hO3, hb3, hlo3⟩
            case measure => simp [intOf]; omega
        · obtain rfl : u = m := by omega
          have hgt : p.length < fr + u := by have := (HMU.out u); omega
          have hO2 : Own wr lo wr.heap.size (F ++ (rs ++ rs1)) [⟨A1, c1, (rs ++ rs1).map Row.v⟩] := hO.sub (by
            rw [List.append_assoc F]
            exact List.Sublist.append_left (List.sublist_append_right _ _) F)
          go_wp2_with fail
          go_ret
          exact ⟨A1, c1, rs1, rfl, by rw [HG.out]; exact HX.out, hO2, hb⟩
end Go.Proofs.YtodloeonlaljpaaGreat

/- Does a pattern occur: the program's search. -/
namespace Go.Proofs.YtodloeonlaljpaaGreat
set_option maxRecDepth 100000
open Go Go.RowKit

/-- The last of the chosen places fits with all before it (places counted from 0). -/
theorem fits_up {p q l : List Int} {i : Int} : fitsB p q (up (l ++ [i])) = (List.range l.length).all fun k => decide (q[k]?.getD 0 < q[l.length]?.getD 0) == decide (nth p (l[k]?.getD 0) < nth p i) := by
  unfold fitsB up
  simp only [List.map_append, List.map_cons, List.map_nil, List.length_append, List.length_map, List.length_cons, List.length_nil, Nat.zero_add, Nat.add_sub_cancel]
  rw [Bool.eq_iff_iff, List.all_eq_true, List.all_eq_true]
  have hat : ∀ k, k < l.length → (atL p (l.map (· + 1) ++ [i + 1]))[k]?.getD 0 = nth p (l[k]?.getD 0) := fun k hk => by
    unfold atL nth
    rw [List.getElem?_map, List.getElem?_append_left (by simpa using hk), List.getElem?_map, List.getElem?_eq_getElem hk]
    simp only [Option.map_some, Option.getD_some, Int.add_sub_cancel]
  have hlast : (atL p (l.map (· + 1) ++ [i + 1]))[l.length]?.getD 0 = nth p i := by
    unfold atL nth
    rw [List.getElem?_map, List.getElem?_append_right (by simp)]
    simp only [List.length_map, Nat.sub_self, List.getElem?_cons_zero, Option.map_some, Option.getD_some, Int.add_sub_cancel]
  constructor
  · intro h k hk
    have h1 := h k hk
    rw [hat k (List.mem_range.1 hk), hlast] at h1
    exact h1
  · intro h k hk
    rw [hat k (List.mem_range.1 hk), hlast]
    exact h k hk
/-- The fits among the first k of the chosen. -/
def fitTo (p q l : List Int) (i : Int) (k : Nat) : Bool := (List.range k).all fun k => decide (q[k]?.getD 0 < q[l.length]?.getD 0) == decide (nth p (l[k]?.getD 0) < nth p i)
theorem fitTo_succ (p q l : List Int) (i : Int) (k : Nat) : fitTo p q l i (k + 1) = (fitTo p q l i k && (decide (q[k]?.getD 0 < q[l.length]?.getD 0) == decide (nth p (l[k]?.getD 0) < nth p i))) := by
  simp [fitTo, List.range_succ]
theorem fitTo_all (p q l : List Int) (i : Int) : fitTo p q l i l.length = fitsB p q (up (l ++ [i])) := fits_up.symm
/-- What the search has found behind the first u places. -/
def hasTo (p q : List Int) (k : Nat) (l : List Int) (u : Nat) : Bool := (marks (from0 l) u).any fun i => fitsB p q (up (l ++ [i])) && hasF p q k (l ++ [i])
theorem hasTo_succ (p q : List Int) (k : Nat) (l : List Int) (u : Nat) : hasTo p q k l (u + 1) = (hasTo p q k l u || (fitsB p q (up (l ++ [from0 l + u])) && hasF p q k (l ++ [from0 l + u]))) := by
  unfold hasTo
  rw [marks_succ, List.any_append]
  simp
theorem hasTo_mono {p q : List Int} {k : Nat} {l : List Int} {u m : Nat} (h : u < m) (h1 : (fitsB p q (up (l ++ [from0 l + u])) && hasF p q k (l ++ [from0 l + u])) = true) : hasTo p q k l m = true := by
  unfold hasTo
  refine List.any_eq_true.2 ⟨from0 l + u, List.mem_map.2 ⟨u, List.mem_range.2 h, rfl⟩, h1⟩
/-- Chosen places, ascending and within p. -/
def Chos (n : Nat) (l : List Int) : Prop := (∀ x ∈ l, 0 ≤ x ∧ x < n) ∧ 0 ≤ from0 l ∧ from0 l ≤ n
theorem Chos.nil (n : Nat) : Chos n [] := ⟨by simp, by simp [from0], by simp [from0]⟩
theorem Chos.snoc {n : Nat} {l : List Int} (h : Chos n l) {x : Int} (h1 : 0 ≤ x) (h2 : x < n) : Chos n (l ++ [x]) := by
  refine ⟨fun y hy => ?_, by simp [from0]; omega, by simp [from0]; omega⟩
  rcases List.mem_append.1 hy with hy | hy
  · exact h.1 y hy
  · obtain rfl := List.mem_singleton.1 hy
    exact ⟨h1, h2⟩

set_option maxHeartbeats 8000000 in
theorem has_rec (p q : List Int) (hp8 : p.length ≤ 1000) (hq8 : q.length ≤ 1000) : ∀ (k : Nat) (l : List Int) (A B D : Option Addr) (c d f : Nat) (w : World), l.length + k = q.length → Chos p.length l →
    In w A c p → In w B d q → In w D f l →
    Calls Tryz.prog 73 #[.slice A p.length c, .slice B q.length d, .slice D l.length f] w (Rb w (.bool (hasF p q k l))) := by
  obtain ⟨i0, hi, hz0, hz1, hz2⟩ := info_parts infoI
  intro k
  induction k with
  | zero =>
    intro l A B D c d f w hk hch hp hq hl
    have d1 : ((l.length : Int) == (q.length : Int)) = true := by simp; omega
    have HK := Lib.hid hk
    clear hk
    go_enter Tryz.func73, Tryz.ntmps73
    go_wp2_with fail
    go_ret
    exact ⟨rfl, Below.refl _ _⟩
  | succ k ih =>
    intro l A B D c d f w hk hch hp hq hl
    have d1 : ((l.length : Int) == (q.length : Int)) = false := by simp; omega
    have hll : l.length ≤ 1000 := by omega
    have hlq : l.length < q.length := by omega
    obtain ⟨fr, hfr⟩ : ∃ fr : Nat, (fr : Int) = from0 l := ⟨(from0 l).toNat, by have := hch.2.1; omega⟩
    have hfr1 : fr ≤ p.length := by have := hch.2.2; omega
    have HFR := Lib.hid hfr
    obtain ⟨m, hm⟩ : ∃ m : Nat, m = ((p.length : Int) - (k + 1) + 1 - from0 l).toNat := ⟨_, rfl⟩
    have HM := Lib.hid hm
    have hm1 : ∀ u : Nat, (fr : Int) + u ≤ (p.length : Int) - (k + 1) ↔ u < m := fun u => by rw [hm, ← hfr]; omega
    have HM1 := Lib.hid hm1
    have HK := Lib.hid hk
    have HG := Lib.hid (show hasF p q (k + 1) l = hasTo p q k l m by rw [hm]; rfl)
    have hkq : (q.length : Int) - l.length = k + 1 := by omega
    clear hfr hm hm1 hk
    go_enter Tryz.func73, Tryz.ntmps73
    go_upto_if 20 with (fail)
    go_cut [7] (fun s7 wx => s7 = .int .i64 (fr : Int) ∧ wx = w)
    case first =>
      rcases Nat.eq_zero_or_pos l.length with h0 | h0
      · have h0f : l = [] := List.eq_nil_of_length_eq_zero h0
        have HF := Lib.hid (show fr = 0 by have := HFR.out; rw [h0f] at this; simp [from0] at this; omega)
        have d2 : decide (0 < l.length) = false := decide_eq_false (by omega)
        have d3 : l.length ≤ 0 := by omega
        clear h0 h0f
        go_wp2_with fail
        go_meet
        exact ⟨by rw [HF.out]; rfl, rfl⟩
      · obtain ⟨b, off, rfl, _, hc⟩ := hl.rd (by omega)
        have c1 := hc (l.length - 1) (by omega)
        have HF := Lib.hid (show (fr : Int) = l[l.length - 1] + 1 by
          rw [HFR.out]
          have hne : l ≠ [] := by intro e; rw [e] at h0; simp at h0
          have : l.getLast? = some l[l.length - 1] := by rw [List.getLast?_eq_getElem?, List.getElem?_eq_getElem (by omega)]
          simp only [from0, this])
        have d2 : decide (0 < l.length) = true := decide_eq_true (by omega)
        have hb1 := hch.1 l[l.length - 1] (List.getElem_mem (by omega))
        have e0 : 1 ≤ (l.length : Int) := by omega
        have e2 : 0 ≤ (l.length : Int) - 1 := by omega
        have e3 : (l.length : Int) - 1 < l.length := by omega
        have e1 : ((l.length : Int) - 1).toNat = l.length - 1 := by omega
        clear hc
        go_wp2_with fail
        go_meet
        exact ⟨by rw [HF.out], rfl⟩
    case rest =>
      obtain ⟨rfl, rfl⟩ := hcut
      go_wp2_with fail
      go_loopw [9] (fun i wr => ∃ u : Nat, u ≤ m ∧ i = .int .i64 ((fr : Int) + u) ∧ Hid (hasTo p q k l u = false) ∧ Below wc.heap.size wc wr) (fun i _ => m - ((intOf i).toNat - fr))
      case atStart => exact ⟨0, Nat.zero_le _, by simp, Lib.hid rfl, Below.refl _ _⟩
      case round =>
        obtain ⟨u, hu, rfl, HN, hb⟩ := hrel
        have hum := HM1.out u
        rcases Nat.lt_or_ge u m with hlt | hge
        · have hle : (fr : Int) + u ≤ (p.length : Int) - (k + 1) := hum.2 hlt
          have hpi : fr + u < p.length := by omega
          have hpr := (hp.next hb).rd
          have hqr := (hq.next hb).rd
          obtain ⟨bp, op, rfl, _, hcp⟩ := hpr (by omega)
          obtain ⟨bq, oq, rfl, _, hcq⟩ := hqr (by omega)
          have cpi := hcp (fr + u) hpi
          have cqk := hcq l.length hlq
          obtain ⟨wo, rfl⟩ : ∃ wo : World, wo = wr := ⟨_, rfl⟩
          have hni : nth p ((fr : Int) + u) = p[fr + u] := by
            unfold nth
            rw [show ((fr : Int) + u).toNat = fr + u by omega, List.getElem?_eq_getElem hpi]; rfl
          have HNI := Lib.hid hni
          clear hum hpr hqr hni
          go_wp2_with fail
          go_loopw [10, 44] (fun s i wr => ∃ j : Nat, j ≤ l.length ∧ i = .int .i64 j ∧ s = .bool (fitTo p q l ((fr : Int) + u) j) ∧ Dr wo wr) (fun _ i _ => l.length - (intOf i).toNat)
          case atStart => exact ⟨0, Nat.zero_le _, rfl, rfl, Dr.refl _⟩
          case round =>
            obtain ⟨j, hj, rfl, rfl, hd⟩ := hrel
            rcases Nat.lt_or_ge j l.length with hjl | hjg
            · obtain ⟨bl, ol, rfl, _, hcl⟩ := (hl.next hb).rd (by omega)
              have c1 : wr.cell? ⟨bl, ol + j, none⟩ = some (.int .i64 l[j]) := (hd.cell _).trans (hcl j hjl)
              have hlj := hch.1 l[j] (List.getElem_mem hjl)
              obtain ⟨cj, hcj⟩ : ∃ cj : Nat, (cj : Int) = l[j] := ⟨l[j].toNat, by omega⟩
              have hcjp : cj < p.length := by omega
              have hjq : j < q.length := by omega
              have c2 : wr.cell? ⟨bp, op + cj, none⟩ = some (.int .i64 p[cj]) := (hd.cell _).trans (hcp cj hcjp)
              have c3 : wr.cell? ⟨bp, op + (fr + u), none⟩ = some (.int .i64 p[fr + u]) := (hd.cell _).trans cpi
              have c4 : wr.cell? ⟨bq, oq + j, none⟩ = some (.int .i64 q[j]) := (hd.cell _).trans (hcq j hjq)
              have c5 : wr.cell? ⟨bq, oq + l.length, none⟩ = some (.int .i64 q[l.length]) := (hd.cell _).trans cqk
              rw [← hcj] at c1
              have HT := Lib.hid (show fitTo p q l ((fr : Int) + u) (j + 1) = (fitTo p q l ((fr : Int) + u) j && (decide (p[cj] < p[fr + u]) == decide (q[j] < q[l.length]))) by
                rw [fitTo_succ, HNI.out, List.getElem?_eq_getElem hjl, List.getElem?_eq_getElem hjq, List.getElem?_eq_getElem hlq]
                have : nth p l[j] = p[cj] := by unfold nth; rw [← hcj, Int.toNat_natCast, List.getElem?_eq_getElem hcjp]; rfl
                simp only [Option.getD_some, this]
                congr 1
                exact Bool.beq_comm)
              have e1 : IntKind.i64.wrap ((fr : Int) + u) = (fr : Int) + u := IntWalk.i64_in _ (by omega)
              have e2 : ((fr : Int) + u).toNat = fr + u := by omega
              have e3 : 0 ≤ (fr : Int) + u := by omega
              have e4 : (fr : Int) + u < (p.length : Int) := by omega
              have e5 : (cj : Int) < (p.length : Int) := by omega
              have e6 : (j : Int) < (q.length : Int) := by omega
              have e7 : (l.length : Int) < (q.length : Int) := by omega
              clear hcl hcj hlj
              by_cases hf : fitTo p q l ((fr : Int) + u) j = true
              · have HF := Lib.hid hf
                rw [hf]
                clear hf
                go_wp2_with fail
                go_quiet (fail)
                go_wp2_with fail
                go_roundw
                case rel => exact ⟨j + 1, by omega, by go_num, by rw [HT.out, HF.out, Bool.true_and], (by first | with_reducible assumption | with_reducible exact hd | with_reducible exact Dr.drewN hd _ | with_reducible exact Dr.drewN (Dr.drewN hd _) _ | with_reducible exact Dr.drew hd)⟩
                case measure => simp [intOf]; omega
              · have hff : fitTo p q l ((fr : Int) + u) j = false := by simpa using hf
                have HF := Lib.hid hff
                rw [hff]
                clear hf hff
                go_wp2_with fail
                go_quiet (fail)
                go_wp2_with fail
                go_roundw
                case rel => exact ⟨j + 1, by omega, by go_num, by rw [HT.out, HF.out, Bool.false_and], (by first | with_reducible assumption | with_reducible exact hd | with_reducible exact Dr.drewN hd _ | with_reducible exact Dr.drewN (Dr.drewN hd _) _ | with_reducible exact Dr.drew hd)⟩
                case measure => simp [intOf]; omega
            · obtain rfl : j = l.length := by omega
              have hbd := below_dr hb hd
              have hszd := hbd.size
              have hl2 := hl.next hbd
              have HHS := Lib.hid (hasTo_succ p q k l u)
              have HFE := Lib.hid (fitTo_all p q l ((fr : Int) + u))
              by_cases hf : fitTo p q l ((fr : Int) + u) l.length = true
              · have HF := Lib.hid (show fitsB p q (up (l ++ [(fr : Int) + u])) = true by rw [← HFE.out]; exact hf)
                rw [hf]
                clear hf
                go_wp2_with fail
                (with_reducible refine (clone_any D f l wr hl2).mono ?_)
                rintro e w2 ⟨A3, c3, rfl, _, _, hown, hbc⟩
                have hszc := hbc.size
                go_wp2_with (at_builtin; refine wpList_append_own_g _ (by rfl) _ _ 36 rfl (wr.heap.size) 3 i0 (.int .i64 0) 1 8 Tryz.underlying36 hi hz0 hz1 hz2 rfl (by decide) _ _ _ rfl (World.ownsRow.alloc hown _) ⟨w2.heap.size, 0, none⟩ 1 1 [.int .i64 ((fr : Int) + u)] rfl rfl (cell_one_new _ _ _) (by intro u hu; simp at hu; subst hu; rfl) (by unfold maxLen; omega) (by omega) (by simp; omega) ?_; intro v1 w1 hown1 hgrow1 _)
                have hrow : w1.ownsRow wr.heap.size 3 1 v1 (l ++ [(fr : Int) + u]).length ((l ++ [(fr : Int) + u]).map (Value.int .i64)) := by simpa using hown1
                obtain ⟨A4, c4, rfl, hA41, _⟩ := own_shape hrow
                have hg1 := grown_trans (World.grownBy_alloc w2 (Obj.cells #[Value.int .i64 ((fr : Int) + u)] 3) _) hgrow1
                have hlm := fun g hg => hown.lt g hg
                have hbw := hbc.grown hg1 hszc (fun g hg => (hlm g hg).1)
                have hbw2 := hbd.trans (hbw.mono hszd)
                have hin : In w1 A4 c4 (l ++ [(fr : Int) + u]) := ⟨by rw [List.length_append, List.length_singleton]; omega, hA41, Rd.of_own hrow⟩
                have hch2 := hch.snoc (x := (fr : Int) + u) (by omega) (by omega)
                have IH := ih (l ++ [(fr : Int) + u]) (some ⟨bp, op, none⟩) (some ⟨bq, oq, none⟩) A4 c d c4 w1 (by have := HK.out; rw [List.length_append, List.length_singleton]; omega) hch2 (hp.next hbw2) (hq.next hbw2) hin
                have IHH := Lib.hid (Calls.mono IH (fun e w' h => h))
                clear hown hown1 hgrow1 hg1 hrow hlm hbc hbw hin hch2 IH
                (with_reducible refine IHH.out.mono ?_)
                rintro e w3 ⟨rfl, hb3⟩
                have hbz := hbw2.trans (hb3.mono hbw2.size)
                by_cases hr : hasF p q k (l ++ [(fr : Int) + u]) = true
                · have HE := Lib.hid (show hasTo p q k l m = true from hasTo_mono hlt (by rw [← HFR.out, HF.out, hr]; rfl))
                  rw [hr]
                  clear hr IHH hbw2 hb3
                  go_wp2_with fail
                  go_ret
                  exact ⟨ret_bool (by rw [HG.out, HE.out]), hbz⟩
                · have hrf : hasF p q k (l ++ [(fr : Int) + u]) = false := by simpa using hr
                  have HE := Lib.hid (show hasTo p q k l (u + 1) = false by rw [HHS.out, HN.out, ← HFR.out, hrf]; simp)
                  rw [hrf]
                  clear hr hrf IHH hbw2 hb3
                  go_wp2_with fail
                  go_roundw
                  case rel => exact ⟨u + 1, by omega, by go_num, HE, hbz⟩
                  case measure => simp [intOf]; omega
              · have hff : fitTo p q l ((fr : Int) + u) l.length = false := by simpa using hf
                have HE := Lib.hid (show hasTo p q k l (u + 1) = false by
                  rw [HHS.out, HN.out, ← HFR.out, ← HFE.out, hff]; rfl)
                rw [hff]
                clear hf hff
                go_wp2_with fail
                go_roundw
                case rel => exact ⟨u + 1, by omega, by go_num, HE, hbd⟩
                case measure => simp [intOf]; omega
        · have hnle : ¬ ((fr : Int) + u ≤ (p.length : Int) - (k + 1)) := fun h => by have := hum.1 h; omega
          obtain rfl : u = m := by omega
          have hgt : (p.length : Int) - (k + 1) < (fr : Int) + u := by omega
          clear hum
          go_wp2_with fail
          go_ret
          exact ⟨ret_bool (by rw [HG.out, HN.out]), hb⟩
theorem has_b (A B : Option Addr) (c d : Nat) (p q : List Int) (w : World) (b : Bool) (hp : In w A c p) (hq : In w B d q) (hp8 : p.length ≤ 1000) (hq8 : q.length ≤ 1000) (hb : hasB p q = b) :
    Calls Tryz.prog 73 #[.slice A p.length c, .slice B q.length d, .slice none 0 0] w (Rb w (.bool b)) := by
  have h := has_rec p q hp8 hq8 q.length [] A B none c d 0 w (by simp) (Chos.nil _) hp hq ⟨by simp, by simp, Rd.nil_⟩
  rw [hasF_all, hb] at h
  exact h

/-- The program's order: by length, then letter by letter. -/
def cmpP (p q : List Int) : Int := if p.length = q.length then cmpL p q else cmpI p.length q.length
/-- The first number that is not zero. -/
def orL : List Int → Int
  | [] => 0
  | x :: t => if x = 0 then orL t else x
theorem orL_zero (xs : List Int) (k : Nat) (h : ∀ x ∈ xs.take k, x = 0) (hk : k ≤ xs.length) : orL xs = orL (xs.drop k) := by
  induction k generalizing xs with
  | zero => rfl
  | succ k ih =>
    cases xs with
    | nil => simp at hk
    | cons a t =>
      have ha := h a (by simp)
      have := ih t (fun x hx => h x (by simp [hx])) (by simpa using hk)
      simp only [orL, List.drop_succ_cons, if_pos ha]
      exact this
set_option maxHeartbeats 800000 in
theorem or_any (A : Option Addr) (c n : Nat) (xs : List Int) (w : World) (hn : xs.length = n) (hl : n ≤ 4611686018427387904) (hx : Rd (Value.int .i64) w w.heap.size A xs) :
    Calls Tryz.prog 109 #[.slice A n c] w fun e w' => e = .returned (.int .i64 (orL xs)) ∧ w = w' := by
  subst hn
  go_enter Tryz.func109, Tryz.ntmps109
  go_wp2
  go_loop [8] (fun i => ∃ k : Nat, k ≤ xs.length ∧ i = .int .i64 k ∧ ∀ x ∈ xs.take k, x = 0) (fun i => xs.length - (intOf i).toNat)
  case atStart => exact ⟨0, Nat.zero_le _, rfl, by simp⟩
  case round =>
    obtain ⟨k, hk, rfl, hz⟩ := hrel
    have HZ := Lib.hid hz
    clear hz
    rcases Nat.lt_or_ge k xs.length with hlt | hge
    · obtain ⟨b, off, rfl, _, hc⟩ := hx (by omega)
      have c1 := hc k hlt
      clear hc
      by_cases he : xs[k] = 0
      · have hd : (xs[k] != 0) = false := by simp [he]
        have HE := Lib.hid he
        clear he
        go_wp2
        go_round
        case rel => exact ⟨k + 1, by omega, by go_num, by
          intro x hx
          rw [List.take_succ_eq_append_getElem hlt] at hx
          rcases List.mem_append.1 hx with h | h
          · exact HZ.out x h
          · rw [List.mem_singleton.1 h]; exact HE.out⟩
        case measure => simp [intOf]; omega
      · have hd : (xs[k] != 0) = true := by simp [he]
        have HO := Lib.hid (show orL xs = xs[k] by rw [orL_zero xs k HZ.out hk, List.drop_eq_getElem_cons hlt, orL, if_neg he])
        clear he
        go_wp2
        go_ret
        exact ⟨ret_int HO.out.symm, rfl⟩
    · have HO := Lib.hid (show orL xs = 0 by rw [orL_zero xs k HZ.out hk, List.drop_eq_nil_of_le hge]; rfl)
      go_wp2
      go_ret
      exact ⟨ret_int HO.out.symm, rfl⟩
theorem cmpP_or (p q : List Int) : orL [cmpI p.length q.length, cmpL p q] = cmpP p q := by
  unfold cmpP
  by_cases h : p.length = q.length
  · have : cmpI (p.length : Int) q.length = 0 := (cmpI_zero _ _).2 (by rw [h])
    rw [if_pos h, this]
    simp only [orL, if_pos]
    split
    · rename_i h0; exact h0.symm
    · rfl
  · have : cmpI (p.length : Int) q.length ≠ 0 := fun h0 => h (by have := (cmpI_zero _ _).1 h0; omega)
    rw [if_neg h]
    simp only [orL, if_neg this]
set_option maxHeartbeats 800000 in
theorem comparePerms_any (A A' : Option Addr) (c c' n m : Nat) (p q : List Int) (w : World) (hn : p.length = n) (hm : q.length = m) (hl : n ≤ 1048576) (hl' : m ≤ 1048576)
    (hx : Rd (Value.int .i64) w w.heap.size A p) (hy : Rd (Value.int .i64) w w.heap.size A' q) :
    Calls Tryz.prog 72 #[.slice A n c, .slice A' m c'] w (Rb w (.int .i64 (cmpP p q))) := by
  subst hn hm
  have HO := Lib.hid (cmpP_or p q)
  have hnew : Rd (Value.int .i64) (w.alloc (Obj.cells #[.int .i64 (cmpI p.length q.length), .int .i64 (cmpL p q)] 3)) (w.alloc (Obj.cells #[.int .i64 (cmpI p.length q.length), .int .i64 (cmpL p q)] 3)).heap.size (some ⟨w.heap.size, 0, none⟩) [cmpI p.length q.length, cmpL p q] :=
    Rd.of_own (c := 2) (World.ownsRow_lit (base := w.heap.size) w #[.int .i64 (cmpI p.length q.length), .int .i64 (cmpL p q)] 2 (Nat.le_refl _) (by unfold maxLen; omega) rfl)
  have hb0 := (Below.refl w.heap.size w).alloc (Nat.le_refl _) (Obj.cells #[.int .i64 (cmpI p.length q.length), .int .i64 (cmpL p q)] 3)
  go_enter Tryz.func72, Tryz.ntmps72
  go_wp2_with fail
  (with_reducible refine (compare_any (p.length : Int) (q.length : Int) w).mono ?_)
  rintro e w' ⟨rfl, rfl⟩
  go_wp2_with fail
  (with_reducible refine (compareS_any A A' c c' p.length q.length p q w rfl rfl (by omega) (by omega) hx hy).mono ?_)
  rintro e w' ⟨rfl, rfl⟩
  go_wp2_with fail
  (with_reducible refine (or_any (some ⟨w.heap.size, 0, none⟩) 2 2 [cmpI p.length q.length, cmpL p q] _ rfl (by omega) hnew).mono ?_)
  rintro e w' ⟨rfl, rfl⟩
  go_wp2_with fail
  go_ret
  exact ⟨ret_int HO.out, hb0⟩
end Go.Proofs.YtodloeonlaljpaaGreat
