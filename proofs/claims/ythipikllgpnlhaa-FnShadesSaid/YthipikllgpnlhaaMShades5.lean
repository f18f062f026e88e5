/- Several texts in one, each with its own head: M3, H1, H2, L2, H3, Z2. No program of ours. -/
import Derived.Deep.DeepCutAuto
import Derived.Deep.CutRange
import Derived.Deep.RegionHeld3
import Derived.StillTailTactics
import Derived.Deep.AppendLies
import Derived.Deep.RegionLaw
import Derived.Test.YthipikllgpnlhaaMShades4
/- Plain maths: ascending lists of places, occurrences of a pattern, breadth first and depth first. -/
namespace Go.Proofs.Ythipikllgpnlhaa
set_option maxRecDepth 100000

/-- The place behind the last one. -/
def fromI (l : List Int) : Int := match l.getLast? with
  | none => 1
  | some x => x + 1
theorem fromI_nil : fromI [] = 1 := rfl
theorem fromI_snoc (l : List Int) (x : Int) : fromI (l ++ [x]) = x + 1 := by simp [fromI]
def ways (n : Nat) (l : List Int) : List Int := marks (fromI l) ((n : Int) + 1 - fromI l).toNat
theorem ways_mem {n : Nat} {l : List Int} {x : Int} : x ∈ ways n l ↔ fromI l ≤ x ∧ x ≤ n := by
  unfold ways marks
  rw [List.mem_map]
  constructor
  · rintro ⟨i, hi, rfl⟩
    have := List.mem_range.1 hi
    omega
  · rintro ⟨h1, h2⟩
    exact ⟨(x - fromI l).toNat, List.mem_range.2 (by omega), by omega⟩
def asc1 (n : Nat) (l : List Int) : List (List Int) := (ways n l).map fun x => l ++ [x]
def ascX (n : Nat) (ls : List (List Int)) : List (List Int) := ls.flatMap (asc1 n)
def ascI (n : Nat) : Nat → List (List Int)
  | 0 => [[]]
  | k + 1 => ascX n (ascI n k)
def ascF (n : Nat) : Nat → List Int → List (List Int)
  | 0, l => [l]
  | k + 1, l => (ways n l).flatMap fun x => ascF n k (l ++ [x])
theorem asc_iter (n : Nat) : ∀ (k i : Nat), ascI n (i + k) = (ascI n i).flatMap (ascF n k) := by
  intro k
  induction k with
  | zero => intro i; simp [ascF]
  | succ k ih =>
    intro i
    have h := ih (i + 1)
    rw [show i + (k + 1) = i + 1 + k by omega, h]
    show (ascX n (ascI n i)).flatMap (ascF n k) = _
    unfold ascX
    rw [List.flatMap_assoc]
    congr 1
    funext p
    unfold asc1
    rw [List.flatMap_map]
    rfl
theorem asc_fill (n k : Nat) : ascF n k [] = ascI n k := by
  have h := asc_iter n k 0
  rw [Nat.zero_add] at h
  rw [h]
  simp [ascI]
/-- Ascending, from 1 to n. -/
def Asc (n : Nat) (l : List Int) : Prop := (∀ x ∈ l, 1 ≤ x ∧ x ≤ n ∧ x < fromI l) ∧ l.Nodup
theorem Asc.nil (n : Nat) : Asc n [] := ⟨by simp, by simp⟩
theorem Asc.from {n : Nat} {l : List Int} (h : Asc n l) : 1 ≤ fromI l := by
  rcases hl : l.getLast? with _ | x
  · simp [fromI, hl]
  · have hm : x ∈ l := List.mem_of_getLast? hl
    have := h.1 x hm
    simp only [fromI, hl]
    omega
theorem Asc.snoc {n : Nat} {l : List Int} (h : Asc n l) {x : Int} (hx : x ∈ ways n l) : Asc n (l ++ [x]) := by
  obtain ⟨h1, h2⟩ := ways_mem.1 hx
  have hf := h.from
  refine ⟨fun y hy => ?_, (nodup_snoc l x).2 ⟨h.2, fun hm => by have := h.1 x hm; omega⟩⟩
  rw [fromI_snoc]
  rcases List.mem_append.1 hy with hy | hy
  · have := h.1 y hy
    omega
  · obtain rfl := List.mem_singleton.1 hy
    omega
theorem ascI_mem {n : Nat} : ∀ {k : Nat} {l : List Int}, l ∈ ascI n k → l.length = k ∧ Asc n l := by
  intro k
  induction k with
  | zero =>
    intro l h
    have : l = [] := by simpa [ascI] using h
    subst this
    exact ⟨rfl, Asc.nil n⟩
  | succ k ih =>
    intro l h
    obtain ⟨m, hm, hl⟩ := List.mem_flatMap.1 h
    obtain ⟨x, hx, rfl⟩ := List.mem_map.1 hl
    obtain ⟨h1, h2⟩ := ih hm
    exact ⟨by simp [h1], h2.snoc hx⟩
theorem marks_len (k : Int) (n : Nat) : (marks k n).length = n := by simp [marks]
theorem ways_le {n : Nat} {l : List Int} (h : 1 ≤ fromI l) : (ways n l).length ≤ n := by
  unfold ways
  rw [marks_len]
  omega
theorem ascI_le (n k : Nat) : (ascI n k).length ≤ n ^ k := by
  induction k with
  | zero => simp [ascI]
  | succ k ih =>
    have h := flatMap_le (asc1 n) n (ascI n k) (fun p hp => by
      unfold asc1
      rw [List.length_map]
      exact ways_le (ascI_mem hp).2.from)
    have h2 := Nat.mul_le_mul_right n ih
    rw [Nat.pow_succ]
    exact Nat.le_trans h h2

/-- The numbers at places. -/
def atL (p l : List Int) : List Int := l.map fun x => p[(x - 1).toNat]?.getD 0
theorem atL_length (p l : List Int) : (atL p l).length = l.length := by simp [atL]
def nth (p : List Int) (i : Int) : Int := p[i.toNat]?.getD 0
/-- The last place agrees with all before it. -/
def fitsB (p q l : List Int) : Bool := (List.range (l.length - 1)).all fun k => decide (q[k]?.getD 0 < q[l.length - 1]?.getD 0) == decide ((atL p l)[k]?.getD 0 < (atL p l)[l.length - 1]?.getD 0)
def occF (p q : List Int) : Nat → List Int → List (List Int)
  | 0, l => [l]
  | k + 1, l => ((ways p.length l).filter fun x => fitsB p q (l ++ [x])).flatMap fun x => occF p q k (l ++ [x])
def occI (p q : List Int) : List (List Int) := (ascI p.length q.length).filter fun l => decide (patL (atL p l) = q)
def occL (p q : List Int) : List (List Int) := occF p q q.length []
def allfits (p q l : List Int) : Bool := (List.range l.length).all fun j => fitsB p q (l.take (j + 1))
theorem allfits_snoc (p q l : List Int) (x : Int) : allfits p q (l ++ [x]) = (allfits p q l && fitsB p q (l ++ [x])) := by
  unfold allfits
  rw [List.length_append, List.length_singleton, List.range_succ, List.all_append]
  have h1 : ((List.range l.length).all fun j => fitsB p q ((l ++ [x]).take (j + 1))) = (List.range l.length).all fun j => fitsB p q (l.take (j + 1)) := by
    rw [Bool.eq_iff_iff, List.all_eq_true, List.all_eq_true]
    constructor
    · intro h j hj
      have h2 := h j hj
      have := List.mem_range.1 hj
      rwa [List.take_append_of_le_length (by omega)] at h2
    · intro h j hj
      have := List.mem_range.1 hj
      rw [List.take_append_of_le_length (by omega)]
      exact h j hj
  rw [h1]
  simp only [List.all_cons, List.all_nil, Bool.and_true]
  rw [List.take_of_length_le (by simp)]
theorem ascF_mem {n : Nat} : ∀ {k : Nat} {l m : List Int}, m ∈ ascF n k l → ∃ t, m = l ++ t ∧ t.length = k := by
  intro k
  induction k with
  | zero =>
    intro l m h
    have : m = l := by simpa [ascF] using h
    subst this
    exact ⟨[], by simp, rfl⟩
  | succ k ih =>
    intro l m h
    obtain ⟨x, _, hm⟩ := List.mem_flatMap.1 h
    obtain ⟨t, rfl, ht⟩ := ih hm
    exact ⟨x :: t, by simp, by simp [ht]⟩
theorem allfits_prefix {p q l t : List Int} (h : allfits p q (l ++ t) = true) : allfits p q l = true := by
  induction t generalizing l with
  | nil => simpa using h
  | cons x t ih =>
    have h2 : allfits p q ((l ++ [x]) ++ t) = true := by simpa using h
    have h3 := ih h2
    rw [allfits_snoc] at h3
    simp only [Bool.and_eq_true] at h3
    exact h3.1
theorem occF_filter (p q : List Int) : ∀ (k : Nat) (l : List Int), allfits p q l = true → occF p q k l = (ascF p.length k l).filter (allfits p q) := by
  intro k
  induction k with
  | zero => intro l h; simp [occF, ascF, h]
  | succ k ih =>
    intro l h
    show ((ways p.length l).filter fun x => fitsB p q (l ++ [x])).flatMap (fun x => occF p q k (l ++ [x])) = ((ways p.length l).flatMap fun x => ascF p.length k (l ++ [x])).filter (allfits p q)
    rw [List.filter_flatMap]
    generalize ways p.length l = W
    induction W with
    | nil => rfl
    | cons x W ihW =>
      rw [List.flatMap_cons, ← ihW]
      by_cases hf : fitsB p q (l ++ [x]) = true
      · rw [List.filter_cons_of_pos (by simpa using hf), List.flatMap_cons, ih (l ++ [x]) (by rw [allfits_snoc, h, hf]; rfl)]
      · rw [List.filter_cons_of_neg (by simpa using hf)]
        have : (ascF p.length k (l ++ [x])).filter (allfits p q) = [] := by
          rw [List.filter_eq_nil_iff]
          intro m hm ha
          obtain ⟨t, rfl, _⟩ := ascF_mem hm
          have h2 := allfits_prefix ha
          rw [allfits_snoc] at h2
          simp only [Bool.and_eq_true] at h2
          exact hf h2.2
        rw [this]
        rfl

theorem nodup_inj {l : List Int} (h : l.Nodup) {i j : Nat} (hi : i < l.length) (hj : j < l.length) (e : l[i] = l[j]) : i = j := by
  rw [List.nodup_iff_pairwise_ne] at h
  rcases Nat.lt_trichotomy i j with a | a | a
  · exact absurd e (List.pairwise_iff_getElem.1 h i j hi hj a)
  · exact a
  · exact absurd e.symm (List.pairwise_iff_getElem.1 h j i hj hi a)
theorem filter_len {L q : List Int} (P Q : Int → Bool) (hl : L.length = q.length) (h : ∀ j (h1 : j < L.length) (h2 : j < q.length), P L[j] = Q q[j]) : (L.filter P).length = (q.filter Q).length := by
  induction L generalizing q with
  | nil => cases q with
    | nil => rfl
    | cons a t => simp at hl
  | cons a t ih => cases q with
    | nil => simp at hl
    | cons b u =>
      have h0 := h 0 (by simp) (by simp)
      have h1 := ih (q := u) (by simpa using hl) (fun j h1 h2 => h (j + 1) (by simpa using h1) (by simpa using h2))
      simp only [List.getElem_cons_zero] at h0
      rw [List.filter_cons, List.filter_cons, h0]
      split <;> simp [h1]
theorem belowN_lt {L : List Int} {x y : Int} (hm : x ∈ L) (h : x < y) : belowN L x < belowN L y := by
  unfold belowN
  have h1 : ((L.filter fun z => decide (z < y)).filter fun z => decide (z < x)) = L.filter fun z => decide (z < x) := by
    rw [List.filter_filter]
    congr 1
    funext z
    by_cases hz : z < x
    · simp [hz, show z < y by omega]
    · simp [hz]
  rw [← h1]
  apply List.length_filter_lt_length_iff_exists.2
  exact ⟨x, List.mem_filter.2 ⟨hm, by simpa using h⟩, by simp⟩
theorem belowN_mono {L : List Int} {x y : Int} (h : x ≤ y) : belowN L x ≤ belowN L y := by
  unfold belowN
  have h1 : ((L.filter fun z => decide (z < y)).filter fun z => decide (z < x)) = L.filter fun z => decide (z < x) := by
    rw [List.filter_filter]
    congr 1
    funext z
    by_cases hz : z < x
    · simp [hz, show z < y by omega]
    · simp [hz]
  rw [← h1]
  exact List.length_filter_le _ _
theorem patL_lt {L : List Int} {i j : Nat} (hi : i < L.length) (hj : j < L.length) : ((patL L)[i]'(by rw [patL_length]; exact hi) < (patL L)[j]'(by rw [patL_length]; exact hj)) ↔ L[i] < L[j] := by
  simp only [patL, List.getElem_map]
  constructor
  · intro h
    rcases Int.lt_or_le L[i] L[j] with h1 | h1
    · exact h1
    · have := belowN_mono (L := L) h1
      omega
  · intro h
    have := belowN_lt (List.getElem_mem hi) h
    omega
/-- A list has a pattern where both rise and fall alike. -/
theorem patL_iff {L q : List Int} (hl : L.length = q.length) (hL : L.Nodup) (hq : permB q = true) :
    patL L = q ↔ ∀ i j (hi : i < L.length) (hj : j < L.length), i < j → (q[i]'(by omega) < q[j]'(by omega) ↔ L[i] < L[j]) := by
  obtain ⟨_, hr, hn⟩ := permB_true hq
  have hself := patL_self hn (m := q.length) hr rfl
  constructor
  · intro h i j hi hj hij
    subst h
    exact patL_lt hi hj
  · intro h
    rw [← hself]
    apply List.ext_getElem
    · rw [patL_length, patL_length, hl]
    · intro i h1 h2
      rw [patL_length] at h1 h2
      simp only [patL, List.getElem_map]
      have : belowN L L[i] = belowN q q[i] := by
        apply filter_len _ _ hl
        intro j h3 h4
        rw [decide_eq_decide]
        rcases Nat.lt_trichotomy j i with hlt | rfl | hgt
        · exact (h j i h3 h1 hlt).symm
        · constructor <;> intro hh <;> omega
        · have h5 := h i j h1 h3 hgt
          have e1 : L[i] ≠ L[j] := fun e => by have := nodup_inj hL _ _ e; omega
          have e2 : q[i] ≠ q[j] := fun e => by have := nodup_inj hn _ _ e; omega
          omega
      rw [this]
theorem nth_inj {p : List Int} (hp : p.Nodup) {x y : Int} (hx : 1 ≤ x ∧ x ≤ p.length) (hy : 1 ≤ y ∧ y ≤ p.length) (h : p[(x - 1).toNat]?.getD 0 = p[(y - 1).toNat]?.getD 0) : x = y := by
  have h1 : (x - 1).toNat < p.length := by omega
  have h2 : (y - 1).toNat < p.length := by omega
  rw [List.getElem?_eq_getElem h1, List.getElem?_eq_getElem h2] at h
  simp only [Option.getD_some] at h
  have := nodup_inj hp _ _ h
  omega
theorem atL_nodup {p l : List Int} (hp : p.Nodup) (hl : Asc p.length l) : (atL p l).Nodup := by
  unfold atL
  rw [List.nodup_iff_pairwise_ne, List.pairwise_map]
  have h := hl.2
  rw [List.nodup_iff_pairwise_ne] at h
  refine h.imp_of_mem fun {a b} ha hb hab e => hab ?_
  have h1 := hl.1 a ha
  have h2 := hl.1 b hb
  exact nth_inj hp ⟨h1.1, h1.2.1⟩ ⟨h2.1, h2.2.1⟩ e
theorem fitsB_iff {p q l : List Int} {n : Nat} (hl : l.length = n + 1) (hq : n < q.length) : fitsB p q l = true ↔ ∀ k (hk : k < n), (q[k] < q[n] ↔ (atL p l)[k]'(by rw [atL_length]; omega) < (atL p l)[n]'(by rw [atL_length]; omega)) := by
  unfold fitsB
  rw [List.all_eq_true]
  have hn : l.length - 1 = n := by omega
  rw [hn]
  constructor
  · intro h k hk
    have h1 := h k (List.mem_range.2 hk)
    rw [List.getElem?_eq_getElem (show k < q.length by omega), List.getElem?_eq_getElem hq, List.getElem?_eq_getElem (show k < (atL p l).length by rw [atL_length]; omega), List.getElem?_eq_getElem (show n < (atL p l).length by rw [atL_length]; omega)] at h1
    simpa using h1
  · intro h k hk
    have hk := List.mem_range.1 hk
    have h1 := h k hk
    rw [List.getElem?_eq_getElem (show k < q.length by omega), List.getElem?_eq_getElem hq, List.getElem?_eq_getElem (show k < (atL p l).length by rw [atL_length]; omega), List.getElem?_eq_getElem (show n < (atL p l).length by rw [atL_length]; omega)]
    simpa using h1
theorem allfits_iff {p q l : List Int} (hl : l.length = q.length) : allfits p q l = true ↔ ∀ i j (hi : i < l.length) (hj : j < l.length), i < j → (q[i]'(by omega) < q[j]'(by omega) ↔ (atL p l)[i]'(by rw [atL_length]; omega) < (atL p l)[j]'(by rw [atL_length]; omega)) := by
  unfold allfits
  rw [List.all_eq_true]
  have key : ∀ (j : Nat) (hj : j < l.length) (k : Nat) (hk : k < j + 1), (atL p (l.take (j + 1)))[k]'(by rw [atL_length, List.length_take]; omega) = (atL p l)[k]'(by rw [atL_length]; omega) := by
    intro j hj k hk
    simp [atL]
  constructor
  · intro h i j hi hj hij
    have h1 := (fitsB_iff (p := p) (q := q) (n := j) (by rw [List.length_take]; omega) (by omega)).1 (h j (List.mem_range.2 hj)) i hij
    rw [key j hj i (by omega), key j hj j (by omega)] at h1
    exact h1
  · intro h j hj
    have hj := List.mem_range.1 hj
    rw [fitsB_iff (n := j) (by rw [List.length_take]; omega) (by omega)]
    intro k hk
    rw [key j hj k (by omega), key j hj j (by omega)]
    exact h k j (by omega) hj hk
theorem allfits_pat {p q l : List Int} (hp : permB p = true) (hq : permB q = true) (hl : l ∈ ascI p.length q.length) : allfits p q l = decide (patL (atL p l) = q) := by
  obtain ⟨h1, h2⟩ := ascI_mem hl
  have hn := atL_nodup (permB_true hp).2.2 h2
  have hi := patL_iff (L := atL p l) (q := q) (by rw [atL_length, h1]) hn hq
  rw [Bool.eq_iff_iff, allfits_iff h1, decide_eq_true_eq, hi]
  constructor
  · intro h i j hi hj hij
    rw [atL_length] at hi hj
    exact h i j hi hj hij
  · intro h i j hi hj hij
    exact h i j (by rw [atL_length]; exact hi) (by rw [atL_length]; exact hj) hij
theorem occ_eq {p q : List Int} (hp : permB p = true) (hq : permB q = true) : occL p q = occI p q := by
  unfold occL occI
  rw [occF_filter p q q.length [] rfl, asc_fill]
  exact List.filter_congr fun l hl => allfits_pat hp hq hl
theorem occF_le (p q : List Int) : ∀ (k : Nat) (l : List Int), 1 ≤ fromI l → (occF p q k l).length ≤ p.length ^ k := by
  intro k
  induction k with
  | zero => intro l _; simp [occF]
  | succ k ih =>
    intro l hl
    have hm : ∀ x ∈ (ways p.length l).filter fun x => fitsB p q (l ++ [x]), (occF p q k (l ++ [x])).length ≤ p.length ^ k := fun x hx => by
      have := (ways_mem.1 (List.mem_filter.1 hx).1).1
      exact ih _ (by rw [fromI_snoc]; omega)
    have h := flatMap_le (fun x => occF p q k (l ++ [x])) (p.length ^ k) _ hm
    have h1 : ((ways p.length l).filter fun x => fitsB p q (l ++ [x])).length ≤ p.length := Nat.le_trans (List.length_filter_le _ _) (ways_le hl)
    have h2 := Nat.mul_le_mul_right (p.length ^ k) h1
    rw [Nat.pow_succ, Nat.mul_comm]
    exact Nat.le_trans h h2

/-- Does the pattern occur? -/
def hasB (p q : List Int) : Bool := !(occL p q).isEmpty
/-- Places counted from 0, as the program counts them. -/
def from0 (l : List Int) : Int := match l.getLast? with
  | none => 0
  | some x => x + 1
theorem from0_up (l : List Int) : fromI (l.map (· + 1)) = from0 l + 1 := by
  unfold fromI from0
  rw [List.getLast?_map]
  cases l.getLast? <;> rfl
def up (l : List Int) : List Int := l.map (· + 1)
def hasF (p q : List Int) : Nat → List Int → Bool
  | 0, _ => true
  | k + 1, l => (marks (from0 l) ((p.length : Int) - (k + 1) + 1 - from0 l).toNat).any fun i => fitsB p q (up (l ++ [i])) && hasF p q k (l ++ [i])
theorem occF_none (p q : List Int) : ∀ (k : Nat) (l : List Int), (p.length : Int) + 1 < fromI l + k → 1 ≤ k → occF p q k l = [] := by
  intro k
  induction k with
  | zero => intro l _ h; omega
  | succ k ih =>
    intro l h _
    show ((ways p.length l).filter fun x => fitsB p q (l ++ [x])).flatMap (fun x => occF p q k (l ++ [x])) = []
    rw [List.flatMap_eq_nil_iff]
    intro x hx
    obtain ⟨h1, h2⟩ := ways_mem.1 (List.mem_filter.1 hx).1
    rcases Nat.eq_zero_or_pos k with rfl | hk
    · exfalso; simp at h; omega
    · exact ih _ (by rw [fromI_snoc]; push_cast at h; omega) hk
theorem hasF_eq (p q : List Int) : ∀ (k : Nat) (l : List Int), hasF p q k l = !(occF p q k (up l)).isEmpty := by
  intro k
  induction k with
  | zero => intro l; simp [hasF, occF]
  | succ k ih =>
    intro l
    have hup : ∀ x, up l ++ [x + 1] = up (l ++ [x]) := fun x => by simp [up]
    rw [Bool.eq_iff_iff]
    constructor
    · intro h
      obtain ⟨i, hi, h1⟩ := List.any_eq_true.1 h
      simp only [Bool.and_eq_true] at h1
      rw [ih] at h1
      obtain ⟨m, hm, rfl⟩ := List.mem_map.1 hi
      have hm := List.mem_range.1 hm
      rw [Bool.not_eq_true', List.isEmpty_eq_false_iff] at h1 ⊢
      intro he
      have h2 : (from0 l + m + 1) ∈ (ways p.length (up l)).filter fun x => fitsB p q (up l ++ [x]) := by
        refine List.mem_filter.2 ⟨ways_mem.2 ?_, by rw [hup]; exact h1.1⟩
        rw [show fromI (up l) = from0 l + 1 from from0_up l]
        push_cast at hm
        omega
      have h3 := List.flatMap_eq_nil_iff.1 he _ h2
      rw [hup] at h3
      exact h1.2 h3
    · intro h
      rw [Bool.not_eq_true', List.isEmpty_eq_false_iff] at h
      have hne : ∃ x, x ∈ ((ways p.length (up l)).filter fun x => fitsB p q (up l ++ [x])) ∧ occF p q k (up l ++ [x]) ≠ [] := by
        apply Classical.byContradiction
        intro hno
        apply h
        show ((ways p.length (up l)).filter fun x => fitsB p q (up l ++ [x])).flatMap (fun x => occF p q k (up l ++ [x])) = []
        rw [List.flatMap_eq_nil_iff]
        intro x hx
        apply Classical.byContradiction
        intro hc
        exact hno ⟨x, hx, hc⟩
      obtain ⟨x, hx, hc⟩ := hne
      obtain ⟨hx1, hx2⟩ := List.mem_filter.1 hx
      obtain ⟨h1, h2⟩ := ways_mem.1 hx1
      rw [show fromI (up l) = from0 l + 1 from from0_up l] at h1
      obtain ⟨i, rfl⟩ : ∃ i, x = i + 1 := ⟨x - 1, by omega⟩
      rw [hup] at hx2 hc
      refine List.any_eq_true.2 ⟨i, List.mem_map.2 ⟨(i - from0 l).toNat, List.mem_range.2 ?_, by omega⟩, ?_⟩
      · rcases Nat.eq_zero_or_pos k with rfl | hk
        · simp; omega
        · have : ¬ ((p.length : Int) + 1 < fromI (up (l ++ [i])) + k) := fun h => hc (occF_none p q k _ h hk)
          rw [show fromI (up (l ++ [i])) = from0 (l ++ [i]) + 1 from from0_up _] at this
          have e : from0 (l ++ [i]) = i + 1 := by simp [from0]
          rw [e] at this
          push_cast
          omega
      · simp only [Bool.and_eq_true]
        rw [ih, Bool.not_eq_true', List.isEmpty_eq_false_iff]
        exact ⟨hx2, hc⟩
theorem hasF_all (p q : List Int) : hasF p q q.length [] = hasB p q := hasF_eq p q q.length []
end Go.Proofs.Ythipikllgpnlhaa

/- Does a pattern occur: the program's search. -/
namespace Go.Proofs.Ythipikllgpnlhaa
set_option maxRecDepth 100000
open Go Go.RowKit

/-- The last of the chosen places fits with all before it (places counted from 0). -/
theorem fits_up {p q l : List Int} {i : Int} : fitsB p q (up (l ++ [i])) = (List.range l.length).all fun k => decide (q[k]?.getD 0 < q[l.length]?.getD 0) == decide (nth p (l[k]?.getD 0) < nth p i) := by
  unfold fitsB up
  simp only [List.map_append, List.map_cons, List.map_nil, List.length_append, List.length_map, List.length_cons, List.length_nil, Nat.zero_add, Nat.add_sub_cancel]
  rw [Bool.eq_iff_iff, List.all_eq_true, List.all_eq_true]
  have hat : ∀ k, k < l.length → (atL p (l.map (· + 1) ++ [i + 1]))[k]?.getD 0 = nth p (l[k]?.getD 0) := fun k hk => by
    unfold atL nth
    rw [List.getElem?_map, List.getElem?_append_left (by simpa using hk), List.getElem?_map, List.getElem?_eq_getElem hk]
    simp only [Option.map_some, Option.getD_some, Int.add_sub_cancel]
  have hlast : (atL p (l.map (· + 1) ++ [i + 1]))[l.length]?.getD 0 = nth p i := by
    unfold atL nth
    rw [List.getElem?_map, List.getElem?_append_right (by simp)]
    simp only [List.length_map, Nat.sub_self, List.getElem?_cons_zero, Option.map_some, Option.getD_some, Int.add_sub_cancel]
  constructor
  · intro h k hk
    have h1 := h k hk
    rw [hat k (List.mem_range.1 hk), hlast] at h1
    exact h1
  · intro h k hk
    rw [hat k (List.mem_range.1 hk), hlast]
    exact h k hk
/-- The fits among the first k of the chosen. -/
def fitTo (p q l : List Int) (i : Int) (k : Nat) : Bool := (List.range k).all fun k => decide (q[k]?.getD 0 < q[l.length]?.getD 0) == decide (nth p (l[k]?.getD 0) < nth p i)
theorem fitTo_succ (p q l : List Int) (i : Int) (k : Nat) : fitTo p q l i (k + 1) = (fitTo p q l i k && (decide (q[k]?.getD 0 < q[l.length]?.getD 0) == decide (nth p (l[k]?.getD 0) < nth p i))) := by
  simp [fitTo, List.range_succ]
theorem fitTo_all (p q l : List Int) (i : Int) : fitTo p q l i l.length = fitsB p q (up (l ++ [i])) := fits_up.symm
/-- What the search has found behind the first u places. -/
def hasTo (p q : List Int) (k : Nat) (l : List Int) (u : Nat) : Bool := (marks (from0 l) u).any fun i => fitsB p q (up (l ++ [i])) && hasF p q k (l ++ [i])
theorem hasTo_succ (p q : List Int) (k : Nat) (l : List Int) (u : Nat) : hasTo p q k l (u + 1) = (hasTo p q k l u || (fitsB p q (up (l ++ [from0 l + u])) && hasF p q k (l ++ [from0 l + u]))) := by
  unfold hasTo
  rw [marks_succ, List.any_append]
  simp
theorem hasTo_mono {p q : List Int} {k : Nat} {l : List Int} {u m : Nat} (h : u < m) (h1 : (fitsB p q (up (l ++ [from0 l + u])) && hasF p q k (l ++ [from0 l + u])) = true) : hasTo p q k l m = true := by
  unfold hasTo
  refine List.any_eq_true.2 ⟨from0 l + u, List.mem_map.2 ⟨u, List.mem_range.2 h, rfl⟩, h1⟩
/-- Chosen places, ascending and within p. -/
def Chos (n : Nat) (l : List Int) : Prop := (∀ x ∈ l, 0 ≤ x ∧ x < n) ∧ 0 ≤ from0 l ∧ from0 l ≤ n
theorem Chos.nil (n : Nat) : Chos n [] := ⟨by simp, by simp [from0], by simp [from0]⟩
theorem Chos.snoc {n : Nat} {l : List Int} (h : Chos n l) {x : Int} (h1 : 0 ≤ x) (h2 : x < n) : Chos n (l ++ [x]) := by
  refine ⟨fun y hy => ?_, by simp [from0]; omega, by simp [from0]; omega⟩
  rcases List.mem_append.1 hy with hy | hy
  · exact h.1 y hy
  · obtain rfl := List.mem_singleton.1 hy
    exact ⟨h1, h2⟩


/-- The program's order: by length, then letter by letter. -/
def cmpP (p q : List Int) : Int := if p.length = q.length then cmpL p q else cmpI p.length q.length
end Go.Proofs.Ythipikllgpnlhaa

/- Does a pattern occur: the reference's search. -/
namespace Go.Proofs.Ythipikllgpnlhaa
set_option maxRecDepth 100000
open Go Go.RowKit

def fit1 (p q m : List Int) (k : Nat) : Bool := decide (q[k]?.getD 0 < q[m.length - 1]?.getD 0) == decide ((atL p m)[k]?.getD 0 < (atL p m)[m.length - 1]?.getD 0)
def fit1To (p q m : List Int) (k : Nat) : Bool := (List.range k).all (fit1 p q m)
theorem fit1To_succ (p q m : List Int) (k : Nat) : fit1To p q m (k + 1) = (fit1To p q m k && fit1 p q m k) := by simp [fit1To, List.range_succ]
theorem fit1To_all (p q m : List Int) : fit1To p q m (m.length - 1) = fitsB p q m := rfl
theorem fit1To_false {p q m : List Int} {k n : Nat} (h : k < n) (h1 : fit1 p q m k = false) : fit1To p q m n = false := by
  unfold fit1To
  rw [List.all_eq_false]
  exact ⟨k, List.mem_range.2 h, by simp [h1]⟩

set_option maxHeartbeats 1000000 in
theorem l7Fits_any (A B D : Option Addr) (c d f N : Nat) (p q m : List Int) (w : World) (hn : m.length = N) (hN1 : 1 ≤ N) (hq : N ≤ q.length) (hq8 : q.length ≤ 1000) (hp8 : p.length ≤ 1000) (hm : ∀ x ∈ m, 1 ≤ x ∧ x ≤ p.length)
    (hpr : Rd (Value.int .i64) w w.heap.size A p) (hqr : Rd (Value.int .i64) w w.heap.size B q) (hmr : Rd (Value.int .i64) w w.heap.size D m) :
    Calls Try.prog 146 #[.slice A p.length c, .slice B q.length d, .slice D N f] w (Rq w (.bool (fitsB p q m))) := by
  have HG := Lib.hid (show fitsB p q m = fit1To p q m (N - 1) by rw [← fit1To_all, hn])
  have hnm : N - 1 < m.length := by omega
  have hq1 : N - 1 < q.length := by omega
  have hxl := hm m[N - 1] (List.getElem_mem hnm)
  have hn1000 : N ≤ 1000 := by omega
  have HN := Lib.hid hn
  obtain ⟨cx, hcx⟩ : ∃ cx : Nat, (cx : Int) + 1 = m[N - 1] := ⟨(m[N - 1] - 1).toNat, by omega⟩
  have hcxp : cx < p.length := by omega
  obtain ⟨bp, op, rfl, _, hcp⟩ := hpr (by omega)
  obtain ⟨bq, oq, rfl, _, hcq⟩ := hqr (by omega)
  obtain ⟨bm, om, rfl, _, hcm⟩ := hmr (by omega)
  have c1 := hcm (N - 1) hnm
  have c2 := hcp cx hcxp
  have c3 := hcq (N - 1) hq1
  rw [← hcx] at c1
  have HX := Lib.hid (show (atL p m)[m.length - 1]?.getD 0 = p[cx] by
    unfold atL
    rw [List.getElem?_map, hn, List.getElem?_eq_getElem hnm, ← hcx]
    simp only [Option.map_some, Option.getD_some, Int.add_sub_cancel, Int.toNat_natCast]
    rw [List.getElem?_eq_getElem hcxp]; rfl)
  have e1 : IntKind.i64.wrap ((cx : Int) + 1 - 1) = (cx : Int) := by rw [Int.add_sub_cancel]; exact IntWalk.i64_in _ (by omega)
  have e2 : (cx : Int) < (p.length : Int) := by omega
  have e3 : (N : Int) - 1 < (q.length : Int) := by omega
  have e30 : 1 ≤ (N : Int) := by omega
  have e31 : 0 ≤ (N : Int) - 1 := by omega
  have e32 : (N : Int) - 1 < (N : Int) := by omega
  have e33 : ((N : Int) - 1).toNat = N - 1 := by omega
  clear hn hxl hcx hpr hqr hmr
  go_enter Try.func146, Try.ntmps146
  go_wp2_with fail
  go_loopw [8] (fun i wr => ∃ k : Nat, k ≤ N - 1 ∧ i = .int .i64 k ∧ Hid (fit1To p q m k = true) ∧ Dr w wr) (fun i _ => N - 1 - (intOf i).toNat)
  case atStart => exact ⟨0, Nat.zero_le _, rfl, Lib.hid rfl, Dr.refl _⟩
  case round =>
    obtain ⟨k, hk, rfl, HF, hd⟩ := hrel
    rcases Nat.lt_or_ge k (N - 1) with hlt | hge
    · have hkm : k < m.length := by omega
      have hkl := hm m[k] (List.getElem_mem hkm)
      obtain ⟨ck, hck⟩ : ∃ ck : Nat, (ck : Int) + 1 = m[k] := ⟨(m[k] - 1).toNat, by omega⟩
      have hckp : ck < p.length := by omega
      have hkq : k < q.length := by omega
      have g1 : wr.cell? ⟨bm, om + (N - 1), none⟩ = some (.int .i64 ((cx : Int) + 1)) := (hd.cell _).trans c1
      have g2 : wr.cell? ⟨bp, op + cx, none⟩ = some (.int .i64 p[cx]) := (hd.cell _).trans c2
      have g3 : wr.cell? ⟨bq, oq + (N - 1), none⟩ = some (.int .i64 q[N - 1]) := (hd.cell _).trans c3
      have g4 : wr.cell? ⟨bm, om + k, none⟩ = some (.int .i64 m[k]) := (hd.cell _).trans (hcm k hkm)
      have g5 : wr.cell? ⟨bp, op + ck, none⟩ = some (.int .i64 p[ck]) := (hd.cell _).trans (hcp ck hckp)
      have g6 : wr.cell? ⟨bq, oq + k, none⟩ = some (.int .i64 q[k]) := (hd.cell _).trans (hcq k hkq)
      rw [← hck] at g4
      have HK := Lib.hid (show fit1 p q m k = (decide (q[k] < q[N - 1]) == decide (p[ck] < p[cx])) by
        unfold fit1
        rw [HX.out]
        have : (atL p m)[k]?.getD 0 = p[ck] := by
          unfold atL
          rw [List.getElem?_map, List.getElem?_eq_getElem hkm, ← hck]
          simp only [Option.map_some, Option.getD_some, Int.add_sub_cancel, Int.toNat_natCast]
          rw [List.getElem?_eq_getElem hckp]; rfl
        rw [this, HN.out, List.getElem?_eq_getElem hkq, List.getElem?_eq_getElem hq1]
        rfl)
      have e4 : IntKind.i64.wrap ((ck : Int) + 1 - 1) = (ck : Int) := by rw [Int.add_sub_cancel]; exact IntWalk.i64_in _ (by omega)
      have e5 : (ck : Int) < (p.length : Int) := by omega
      have e6 : (k : Int) < (q.length : Int) := by omega
      have e7 : (k : Int) < (N : Int) := by omega
      have e8 : (k : Int) < (N : Int) - 1 := by omega
      clear hkl hck
      by_cases hf : fit1 p q m k = true
      · have HH := Lib.hid (show fit1To p q m (k + 1) = true by rw [fit1To_succ, HF.out, hf]; rfl)
        have hne : (!(decide (q[k] < q[N - 1]) == decide (p[ck] < p[cx]))) = false := by
          have := HK.out
          rw [hf] at this
          revert this
          cases decide (q[k] < q[N - 1]) <;> cases decide (p[ck] < p[cx]) <;> simp
        clear hf HK
        go_wp2_with fail
        go_quiet (fail)
        go_wp2_with fail
        go_roundw
        case rel => exact ⟨k + 1, by omega, by go_num, HH, (by first | with_reducible assumption | with_reducible exact hd | with_reducible exact Dr.drewN hd _ | with_reducible exact Dr.drewN (Dr.drewN hd _) _ | with_reducible exact Dr.drew hd)⟩
        case measure => simp [intOf]; omega
      · have hff : fit1 p q m k = false := by simpa using hf
        have HH := Lib.hid (show fit1To p q m (N - 1) = false from fit1To_false hlt hff)
        have hne : (!(decide (q[k] < q[N - 1]) == decide (p[ck] < p[cx]))) = true := by
          have := HK.out
          rw [hff] at this
          revert this
          cases decide (q[k] < q[N - 1]) <;> cases decide (p[ck] < p[cx]) <;> simp
        clear hf hff HK
        go_wp2_with fail
        go_quiet (fail)
        go_wp2_with fail
        go_ret
        exact ⟨ret_bool (by rw [HG.out, HH.out]), (by first | with_reducible assumption | with_reducible exact hd | with_reducible exact Dr.drewN hd _ | with_reducible exact Dr.drewN (Dr.drewN hd _) _ | with_reducible exact Dr.drew hd)⟩
    · obtain rfl : k = N - 1 := by omega
      have e8 : ((N - 1 : Nat) : Int) = (N : Int) - 1 := by omega
      go_wp2_with fail
      go_ret
      exact ⟨ret_bool (by rw [HG.out, HF.out]), hd⟩
def findTo (p q : List Int) (k : Nat) (l : List Int) (u : Nat) : List (List Int) := ((marks (fromI l) u).filter fun x => fitsB p q (l ++ [x])).flatMap fun x => occF p q k (l ++ [x])
theorem findTo_succ (p q : List Int) (k : Nat) (l : List Int) (u : Nat) : findTo p q k l (u + 1) = if fitsB p q (l ++ [fromI l + u]) = true then findTo p q k l u ++ occF p q k (l ++ [fromI l + u]) else findTo p q k l u := by
  unfold findTo
  rw [marks_succ, List.filter_append]
  by_cases h : fitsB p q (l ++ [fromI l + u]) = true <;> simp [h]
theorem findTo_le (p q : List Int) (k : Nat) (l : List Int) (u : Nat) (h : 1 ≤ fromI l) : (findTo p q k l u).length ≤ u * p.length ^ k := by
  have hm : ∀ x ∈ (marks (fromI l) u).filter fun x => fitsB p q (l ++ [x]), (occF p q k (l ++ [x])).length ≤ p.length ^ k := fun x hx => by
    obtain ⟨i, _, rfl⟩ := List.mem_map.1 (List.mem_filter.1 hx).1
    exact occF_le p q k _ (by rw [fromI_snoc]; omega)
  have h1 := flatMap_le (fun x => occF p q k (l ++ [x])) (p.length ^ k) _ hm
  have h2 := List.length_filter_le (fun x => fitsB p q (l ++ [x])) (marks (fromI l) u)
  rw [marks_len] at h2
  exact Nat.le_trans h1 (Nat.mul_le_mul_right _ h2)
theorem Asc.le {n : Nat} {l : List Int} (h : Asc n l) : fromI l ≤ n + 1 := by
  rcases hl : l.getLast? with _ | x
  · simp [fromI, hl]; omega
  · have := h.1 x (List.mem_of_getLast? hl)
    simp only [fromI, hl]
    omega

set_option maxHeartbeats 8000000 in
theorem find_rec (p q : List Int) (hp8 : p.length ≤ 8) (hq8 : q.length ≤ 8) : ∀ (k : Nat) (F rs : List Row) (r : Row) (A B D : Option Addr) (c d f lo : Nat) (w : World), r.xs.length + k = q.length → Asc p.length r.xs → lo ≤ w.heap.size → rs.length + p.length ^ k ≤ 100000000 →
    Rd (Value.int .i64) w lo A p → Rd (Value.int .i64) w lo B q → Own w lo w.heap.size (F ++ rs ++ [r]) [⟨D, f, rs.map Row.v⟩] →
    Calls Try.prog 127 #[.slice A p.length c, .slice B q.length d, .slice r.A r.xs.length r.c, .slice D rs.length f] w (Filled w lo F rs (occF p q k r.xs)) := by
  obtain ⟨i0, hi, hz0, hz1, hz2⟩ := info_parts infoI
  obtain ⟨j0, hj, hy0, hy1, hy2⟩ := info_parts infoL
  intro k
  induction k with
  | zero =>
    intro F rs r A B D c d f lo w hr has hlo hcount hp hq hO
    have hcount : rs.length + 1 ≤ 100000000 := by simpa using hcount
    have d1 : ((r.xs.length : Int) == (q.length : Int)) = true := by simp; omega
    have ho := hO.outN (n := rs.length) (by simp)
    have HR := Lib.hid hr
    clear hr
    go_enter Try.func127, Try.ntmps127
    go_wp2_with (at_builtin; refine wpList_append_own _ rfl _ _ 25 rfl (lo) 24 j0 (.slice none 0 0) 1 24 Try.underlying25 hj hy0 hy1 hy2 rfl (by decide) _ _ _ rfl (World.ownsRow.alloc ho _) ⟨w.heap.size, 0, none⟩ 1 1 [Value.slice r.A r.xs.length r.c] rfl rfl (cell_one_at _ _ (by simp)) (by intro u hu; simp at hu; subst hu; rfl) (by unfold maxLen; omega) (by omega) (by simp; omega) ?_; intro v9 w9 hown9 hgrow9 _)
    obtain ⟨A5, c5, rfl, hO6, hg3⟩ := hO.grow (Nat.le_refl _) (by simp) hown9 hgrow9
    have hbw := (Below.refl lo w).grown hg3 hlo (fun g hg => (hO.olim (by simp) g hg).1)
    have K := Lib.hid (And.intro hO6 hbw)
    clear hO6 hbw hown9 hgrow9 hg3 hO ho
    go_wp2
    go_ret
    exact ⟨A5, c5, [r], rfl, rfl, by simpa [Row.v, List.append_assoc] using K.out.1, K.out.2⟩
  | succ k ih =>
    intro F rs r A B D c d f lo w hr has hlo hcount hp hq hO
    have d1 : ((r.xs.length : Int) == (q.length : Int)) = false := by simp; omega
    have hrl : r.xs.length < q.length := by omega
    have hfrom := has.from
    have hfromle := has.le
    obtain ⟨fr, hfr⟩ : ∃ fr : Nat, (fr : Int) = fromI r.xs := ⟨(fromI r.xs).toNat, by omega⟩
    have hfr1 : 1 ≤ fr := by omega
    have hfr2 : fr ≤ p.length + 1 := by omega
    obtain ⟨m, hm⟩ : ∃ m : Nat, m = ((p.length : Int) + 1 - fromI r.xs).toNat := ⟨_, rfl⟩
    have hmu : ∀ u : Nat, fr + u ≤ p.length ↔ u < m := fun u => by omega
    have hm8 : m ≤ p.length := by omega
    have HMU := Lib.hid hmu
    have HG := Lib.hid (show occF p q (k + 1) r.xs = findTo p q k r.xs m by rw [hm]; rfl)
    have HFR := Lib.hid hfr
    have hpow : ∀ u, u + 1 ≤ m → u * p.length ^ k + p.length ^ k ≤ p.length ^ (k + 1) := fun u hu => by
      have := Nat.mul_le_mul_right (p.length ^ k) (Nat.le_trans hu hm8)
      rw [Nat.add_mul, Nat.one_mul] at this
      rw [Nat.pow_succ, Nat.mul_comm (p.length ^ k)]
      exact this
    have HP := Lib.hid hpow
    have HR := Lib.hid hr
    have HC := Lib.hid hcount
    have hO0 : Own w lo w.heap.size (F ++ [r] ++ (rs ++ [])) [⟨D, f, (rs ++ []).map Row.v⟩] := by
      rw [List.append_nil]
      refine hO.perm ?_
      rw [List.append_assoc, List.append_assoc]
      exact List.Perm.append_left F List.perm_append_comm
    have hrd0 := own_row hO (r := r) (by simp) (Nat.le_refl _)
    clear hr hcount hpow hO hfr hm hmu
    go_enter Try.func127, Try.ntmps127
    go_upto_if 23 with (fail)
    go_cut [9] (fun s9 wx => s9 = .int .i64 (fr : Int) ∧ wx = w)
    case first =>
      rcases Nat.eq_zero_or_pos r.xs.length with h0 | h0
      · have h0f : r.xs = [] := List.eq_nil_of_length_eq_zero h0
        have HF := Lib.hid (show fr = 1 by have := HFR.out; rw [h0f, fromI_nil] at this; omega)
        have d2 : decide (0 < r.xs.length) = false := decide_eq_false (by omega)
        have d3 : r.xs.length ≤ 0 := by omega
        clear h0 h0f
        go_wp2_with fail
        go_meet
        exact ⟨by rw [HF.out]; rfl, rfl⟩
      · obtain ⟨b, off, hA, _, hc⟩ := hrd0.2 (by omega)
        have c1 := hc (r.xs.length - 1) (by omega)
        have HF := Lib.hid (show (fr : Int) = r.xs[r.xs.length - 1] + 1 by
          rw [HFR.out]
          have : r.xs.getLast? = some r.xs[r.xs.length - 1] := by rw [List.getLast?_eq_getElem?, List.getElem?_eq_getElem (by omega)]
          simp only [fromI, this])
        have d2 : decide (0 < r.xs.length) = true := decide_eq_true (by omega)
        have hb1 := has.1 r.xs[r.xs.length - 1] (List.getElem_mem (by omega))
        have e0 : 1 ≤ (r.xs.length : Int) := by omega
        have e2 : 0 ≤ (r.xs.length : Int) - 1 := by omega
        have e3 : (r.xs.length : Int) - 1 < r.xs.length := by omega
        have e1 : ((r.xs.length : Int) - 1).toNat = r.xs.length - 1 := by omega
        clear hc
        rw [hA]
        go_wp2_with fail
        rw [← hA]
        go_meet
        exact ⟨by rw [HF.out], rfl⟩
    case rest =>
      obtain ⟨rfl, rfl⟩ := hcut
      clear hrd0
      go_wp2_with fail
      go_loopw [3, 10] (fun o i wr => ∃ (u : Nat) (A1 : Option Addr) (c1 : Nat) (rs1 : List Row), u ≤ m ∧ i = .int .i64 ((fr : Int) + u) ∧ o = .slice A1 (rs.length + rs1.length) c1 ∧ Hid (rs1.map Row.xs = findTo p q k r.xs u) ∧
        Own wr lo wr.heap.size (F ++ [r] ++ (rs ++ rs1)) [⟨A1, c1, (rs ++ rs1).map Row.v⟩] ∧ Below lo wc wr ∧ lo ≤ wr.heap.size) (fun _ i _ => m - ((intOf i).toNat - fr))
      case atStart => exact ⟨0, D, f, [], Nat.zero_le _, by simp, rfl, Lib.hid rfl, hO0, Below.refl _ _, hlo⟩
      case round =>
        clear hO0
        obtain ⟨u, A1, c1, rs1, hu, rfl, rfl, HX, hO, hb, hlo1⟩ := hrel
        have hrd := own_row hO (r := r) (by simp) (Nat.le_refl _)
        rcases Nat.lt_or_ge u m with hlt | hge
        · have hle : fr + u ≤ p.length := (HMU.out u).2 hlt
          have own0 : (wr.alloc (.cells #[] 3)).ownsRow wr.heap.size 3 1 (.slice (some ⟨wr.heap.size, 0, none⟩) 0 0) 0 [] := World.ownsRow_lit wr #[] 0 (Nat.le_refl _) (by unfold maxLen; omega) rfl
          have hx0 := hrd.2.alloc (Nat.le_refl _) (.cells #[] 3)
          have hbA := (Below.refl wr.heap.size wr).alloc (Nat.le_refl _) (.cells #[] 3)
          go_wp2_with (first | ((at_builtin; refine wpList_append_rd _ rfl _ _ 24 rfl (wr.heap.size) 3 i0 (.int .i64 0) 8 Try.underlying24 hi hz0 hz1 hz2 rfl _ _ _ rfl own0 _ _ _ _ (r.xs) rfl rfl hx0 (fun _ => rfl) (by unfold maxLen; omega) (by omega) (by first | omega | (simp; done) | (simp; omega)) ?_; intro v1 w1 hown1 hgrow1); simp only [Nat.zero_add, List.nil_append] at hown1; obtain ⟨A3, c3, rfl, _, _⟩ := own_shape hown1; have hbB := hbA.grown hgrow1 (by simp) (fun g hg => (own0.lt g hg).1); have hszB := hbB.size) | (at_builtin; refine wpList_append_own _ rfl _ _ 24 rfl (wr.heap.size) 3 i0 (.int .i64 0) 1 8 Try.underlying24 hi hz0 hz1 hz2 rfl (by decide) _ _ _ rfl (World.ownsRow.alloc hown1 _) ⟨w1.heap.size, 0, none⟩ 1 1 [.int .i64 ((fr : Int) + u)] rfl rfl (cell_one_new _ _ _) (by intro u hu; simp at hu; subst hu; rfl) (by unfold maxLen; omega) (by omega) (by simp; omega) ?_; intro v2 w2 hown2 hgrow2 _))
          have hbC := (hbB.alloc hszB (Obj.cells #[Value.int .i64 ((fr : Int) + u)] 3)).grown hgrow2 (by simp; omega) (fun g hg => (hown1.lt g hg).1)
          have hrow : w2.ownsRow wr.heap.size 3 1 v2 (r.xs.length + 1) ((r.xs ++ [(fr : Int) + u]).map (Value.int .i64)) := by simpa using hown2
          obtain ⟨A4, c4, rfl, _, _⟩ := own_shape hrow
          have hszC := hbC.size
          have hO1 := hO.below hbC
          have hO2 := hO1.add (r := ⟨A4, c4, r.xs ++ [(fr : Int) + u]⟩) (by simpa [Row.v] using hrow) hszC hlo1
          have hb2 := hb.trans (hbC.mono hlo1)
          have hlo2 : lo ≤ w2.heap.size := by omega
          have hrow2 := own_row hO2 (r := ⟨A4, c4, r.xs ++ [(fr : Int) + u]⟩) (by simp) (Nat.le_refl _)
          have hp2 := hp.below hb2
          have hq2 := hq.below hb2
          have has2 : Asc p.length (r.xs ++ [(fr : Int) + u]) := has.snoc (ways_mem.2 ⟨by rw [← HFR.out]; omega, by omega⟩)
          have hmem : ∀ x ∈ r.xs ++ [(fr : Int) + u], 1 ≤ x ∧ x ≤ p.length := fun x hx => by have := has2.1 x hx; omega
          have hlen1 : (r.xs ++ [(fr : Int) + u]).length = r.xs.length + 1 := by simp
          have HT := Lib.hid (findTo_succ p q k r.xs u)
          have hcnt : rs.length + rs1.length + p.length ^ k ≤ 100000000 := by
            have h1 := congrArg List.length HX.out
            have h2 := findTo_le p q k r.xs u hfrom
            have h3 := HP.out u hlt
            have h4 := HC.out
            rw [List.length_map] at h1
            omega
          have HL1 := Lib.hid hlen1
          have hOk := hO1.wider (Nat.le_refl _) hszC
          clear hown1 hown2 hgrow1 hgrow2 hbA hbB hrow hx0 own0 hO hO1 hlen1
          go_wp2_with fail
          by_cases hft : fitsB p q (r.xs ++ [(fr : Int) + u]) = true
          · have HE := Lib.hid (show findTo p q k r.xs (u + 1) = findTo p q k r.xs u ++ occF p q k (r.xs ++ [(fr : Int) + u]) by rw [HT.out, ← HFR.out, if_pos hft])
            have HH := Lib.hid hft
            clear hft
            (with_reducible refine (l7Fits_any A B A4 c d c4 (r.xs.length + 1) p q (r.xs ++ [(fr : Int) + u]) w2 HL1.out (by omega) (by omega) (by omega) (by omega) hmem (hp2.more hlo2) (hq2.more hlo2) hrow2.2).mono ?_)
            rintro e w3 ⟨rfl, hd3⟩
            rw [HH.out]
            have hO3 := hO2.dr hd3
            have hsz3 : w3.heap.size = w2.heap.size := by rw [hd3.heap]
            rw [← hsz3] at hO3
            have hb3 := below_dr hb2 hd3
            have hlo3 : lo ≤ w3.heap.size := by omega
            have IH := ih (F ++ [r]) (rs ++ rs1) ⟨A4, c4, r.xs ++ [(fr : Int) + u]⟩ A B A1 c d c1 lo w3 (by have := HR.out; have := HL1.out; show (r.xs ++ [(fr : Int) + u]).length + k = _; omega) has2 hlo3 (by rw [List.length_append]; exact hcnt) (hp2.dr hd3) (hq2.dr hd3) hO3
            rw [show (Row.mk A4 c4 (r.xs ++ [(fr : Int) + u])).xs.length = r.xs.length + 1 by simp, List.length_append] at IH
            have IHH := Lib.hid IH
            clear IH hO2 hO3 hOk hsz3 hrow2
            go_wp2_with fail
            (with_reducible refine IHH.out.mono ?_)
            rintro e w4 ⟨A5, c5, rs2, rfl, hxs, hO4, hb4⟩
            have K := Lib.hid (And.intro hxs (And.intro hO4 (hb3.trans hb4)))
            have hlo4 : lo ≤ w4.heap.size := by have := hb4.size; omega
            clear hxs hO4 hb4 IHH hb2 hb3
            go_wp2_with fail
            go_roundw
            case rel => exact ⟨u + 1, A5, c5, rs1 ++ rs2, by omega, by go_num, by rw [List.length_append]; go_num, Lib.hid (by rw [HE.out, List.map_append, HX.out, K.out.1]), by rw [← List.append_assoc rs]; exact K.out.2.1, K.out.2.2, hlo4⟩
            case measure => simp [intOf]; omega
          · have hff : fitsB p q (r.xs ++ [(fr : Int) + u]) = false := by simpa using hft
            have HE := Lib.hid (show findTo p q k r.xs (u + 1) = findTo p q k r.xs u by rw [HT.out, ← HFR.out, if_neg hft])
            have HH := Lib.hid hff
            clear hft hff
            (with_reducible refine (l7Fits_any A B A4 c d c4 (r.xs.length + 1) p q (r.xs ++ [(fr : Int) + u]) w2 HL1.out (by omega) (by omega) (by omega) (by omega) hmem (hp2.more hlo2) (hq2.more hlo2) hrow2.2).mono ?_)
            rintro e w3 ⟨rfl, hd3⟩
            rw [HH.out]
            have hO3 := hOk.dr hd3
            have hsz3 : w3.heap.size = w2.heap.size := by rw [hd3.heap]
            rw [← hsz3] at hO3
            have hb3 := below_dr hb2 hd3
            have hlo3 : lo ≤ w3.heap.size := by omega
            clear hO2 hOk hsz3 hrow2 hb2
            go_wp2_with fail
            go_roundw
            case rel => exact ⟨u + 1, A1, c1, rs1, by omega, by go_num, rfl, Lib.hid (by rw [HE.out]; exact HX.out), hO3, hb3, hlo3⟩
            case measure => simp [intOf]; omega
        · obtain rfl : u = m := by omega
          have hgt : p.length < fr + u := by have := (HMU.out u); omega
          have hO2 : Own wr lo wr.heap.size (F ++ (rs ++ rs1)) [⟨A1, c1, (rs ++ rs1).map Row.v⟩] := hO.sub (by
            rw [List.append_assoc F]
            exact List.Sublist.append_left (List.sublist_append_right _ _) F)
          go_wp2_with fail
          go_ret
          exact ⟨A1, c1, rs1, rfl, by rw [HG.out]; exact HX.out, hO2, hb⟩
end Go.Proofs.Ythipikllgpnlhaa

/- The laws' own helpers for meshes: turned from N2. -/
namespace Go.Proofs.Ythipikllgpnlhaa
set_option maxRecDepth 100000
open Go Go.RowKit

structure InM (w : World) (A : Option Addr) (c : Nat) (xs : List Int) (B : Option Addr) (k : Nat) (rs : List Row) : Prop where
  fst : In w A c xs
  snd : InL w B k rs
theorem InM.next {w w' : World} {A : Option Addr} {c : Nat} {xs : List Int} {B : Option Addr} {k : Nat} {rs : List Row} (h : InM w A c xs B k rs) (hb : Below w.heap.size w w') : InM w' A c xs B k rs := ⟨h.1.next hb, h.2.next hb⟩
theorem Read.tail {w : World} {B : Nat} {r : Row} {rs : List Row} {os : List Outer} (h : Read w B (r :: rs) os) : Read w B rs os := ⟨fun s hs => h.cap s (List.mem_cons_of_mem _ hs), fun s hs => h.rd s (List.mem_cons_of_mem _ hs), h.ocap, h.ord⟩
theorem Read.toM {w : World} {hi : Nat} {A B : Option Addr} {c k : Nat} {xs : List Int} {rs : List Row} (h : Read w hi (⟨A, c, xs⟩ :: rs) [⟨B, k, rs.map Row.v⟩]) (hl : xs.length ≤ 1048576) (hl' : rs.length + sizeR rs ≤ 1048576) (hB : hi ≤ w.heap.size) : InM w A c xs B k rs :=
  ⟨h.mem (r := ⟨A, c, xs⟩) List.mem_cons_self hl hB, h.tail.toL hl' hB⟩





end Go.Proofs.Ythipikllgpnlhaa

/- Occurrences and bases: the roots of the searches, IsBasis in program and reference. -/
namespace Go.Proofs.Ythipikllgpnlhaa
set_option maxRecDepth 100000
open Go Go.RowKit

/-- The two empty literals that the search begins with. -/
theorem find_root (A B : Option Addr) (c d : Nat) (p q : List Int) (w : World) (hp : In w A c p) (hq : In w B d q) (hp8 : p.length ≤ 8) (hq8 : q.length ≤ 8) :
    Calls Try.prog 127 #[.slice A p.length c, .slice B q.length d, .slice (some ⟨w.heap.size, 0, none⟩) 0 0, .slice (some ⟨w.heap.size + 1, 0, none⟩) 0 0] ((w.alloc (.cells #[] 3)).alloc (.cells #[] 24)) (RetL w (occL p q)) := by
  have own0 : (w.alloc (.cells #[] 3)).ownsRow w.heap.size 3 1 (Row.v ⟨some ⟨w.heap.size, 0, none⟩, 0, []⟩) 0 (([] : List Int).map (Value.int .i64)) := World.ownsRow_lit w #[] 0 (Nat.le_refl _) (by unfold maxLen; omega) rfl
  have hA : Own (w.alloc (.cells #[] 3)) w.heap.size (w.heap.size + 1) [⟨some ⟨w.heap.size, 0, none⟩, 0, []⟩] [] := by
    have := Own.add (os := []) (r := ⟨some ⟨w.heap.size, 0, none⟩, 0, []⟩) (Own.nil_ (w := w.alloc (.cells #[] 3)) (lo := w.heap.size) (hi := w.heap.size)) own0 (by simp) (Nat.le_refl _)
    simpa using this
  have hB : Own ((w.alloc (.cells #[] 3)).alloc (.cells #[] 24)) w.heap.size (w.heap.size + 1 + 1) [⟨some ⟨w.heap.size, 0, none⟩, 0, []⟩] [⟨some ⟨w.heap.size + 1, 0, none⟩, 0, []⟩] := by
    have h1 := hA.below ((Below.refl _ _).alloc (Nat.le_refl _) (.cells #[] 24))
    exact (h1.wider (Nat.le_refl _) (Nat.le_succ _)).with_ (A := some ⟨w.heap.size + 1, 0, none⟩) (c := 0) (vs := []) (by
      have := World.ownsRow_lit (base := w.heap.size) (e := 24) (size := 1) (w.alloc (.cells #[] 3)) #[] 0 (by simp) (by unfold maxLen; omega) rfl
      simpa using this) (by simp)
  have hb0 : Below w.heap.size w ((w.alloc (.cells #[] 3)).alloc (.cells #[] 24)) := ((Below.refl _ _).alloc (Nat.le_refl _) _).alloc (by simp) _
  have hpow : p.length ^ q.length ≤ 16777216 := by
    have h1 : p.length ^ q.length ≤ 8 ^ q.length := Nat.pow_le_pow_left hp8 _
    have h2 : 8 ^ q.length ≤ 8 ^ 8 := Nat.pow_le_pow_right (by omega) hq8
    omega
  have FSc := find_rec p q hp8 hq8 q.length [] [] ⟨some ⟨w.heap.size, 0, none⟩, 0, []⟩ A B (some ⟨w.heap.size + 1, 0, none⟩) c d 0 w.heap.size ((w.alloc (.cells #[] 3)).alloc (.cells #[] 24)) (by simp) (Asc.nil _) (by simp; omega) (by simp; omega) (hp.rd.below hb0) (hq.rd.below hb0) (by simpa using hB)
  exact FSc.mono fun e w' ⟨A', c', rs', he, hx, hO, hb⟩ => ⟨A', c', rs', by simpa using he, hx, by simpa using hO, hb0.trans hb⟩

/-- What a basis asks at the place k. -/
def basAt (L : List (List Int)) (k : Nat) : Bool :=
  permB (L[k]?.getD []) && decide ((L[k]?.getD []).length ≠ 0) && (decide (k = 0) || decide (cmpP (L[k - 1]?.getD []) (L[k]?.getD []) < 0)) && (List.range k).all fun i => !hasB (L[k]?.getD []) (L[i]?.getD [])
def basTo (L : List (List Int)) (k : Nat) : Bool := (List.range k).all (basAt L)
theorem basTo_succ (L : List (List Int)) (k : Nat) : basTo L (k + 1) = (basTo L k && basAt L k) := by simp [basTo, List.range_succ]
theorem basTo_false {L : List (List Int)} {k m : Nat} (h : k < m) (ht : basAt L k = false) : basTo L m = false := by
  unfold basTo
  rw [List.all_eq_false]
  exact ⟨k, List.mem_range.2 h, by simp [ht]⟩
theorem basTo_perm {L : List (List Int)} {k j : Nat} (h : basTo L k = true) (hj : j < k) (hl : j < L.length) : permB L[j] = true := by
  unfold basTo at h
  have := List.all_eq_true.1 h j (List.mem_range.2 hj)
  unfold basAt at this
  rw [List.getElem?_eq_getElem hl] at this
  simp only [Option.getD_some, Bool.and_eq_true] at this
  exact this.1.1.1
def basisB (L : List (List Int)) : Bool := decide (L.length ≤ 8) && basTo L L.length
def nohasTo (L : List (List Int)) (p : List Int) (i : Nat) : Bool := (List.range i).all fun i => !hasB p (L[i]?.getD [])
theorem nohasTo_succ (L : List (List Int)) (p : List Int) (i : Nat) : nohasTo L p (i + 1) = (nohasTo L p i && !hasB p (L[i]?.getD [])) := by simp [nohasTo, List.range_succ]
theorem nohasTo_false {L : List (List Int)} {p : List Int} {k m : Nat} (h : k < m) (ht : hasB p (L[k]?.getD []) = true) : nohasTo L p m = false := by
  unfold nohasTo
  rw [List.all_eq_false]
  exact ⟨k, List.mem_range.2 h, by simp [ht]⟩
theorem before_cmp (p q : List Int) : before p q = decide (cmpP p q < 0) := by
  unfold before cmpP
  by_cases h : p.length = q.length
  · rw [if_pos h, if_pos h]
  · rw [if_neg h, if_neg h]
    unfold cmpI
    rw [decide_eq_decide]
    constructor
    · intro hlt; rw [if_pos (by omega)]; omega
    · intro hlt
      split at hlt
      · omega
      · split at hlt <;> omega
theorem basAt_row {rs : List Row} {k : Nat} (hk : k < rs.length) : basAt (rs.map Row.xs) k = (permB rs[k].xs && decide (rs[k].xs.length ≠ 0) && (decide (k = 0) || decide (cmpP ((rs.map Row.xs)[k - 1]?.getD []) rs[k].xs < 0)) && nohasTo (rs.map Row.xs) rs[k].xs k) := by
  have hX : (rs.map Row.xs)[k]?.getD [] = rs[k].xs := by simp [hk]
  unfold basAt nohasTo
  rw [hX]
theorem getX {rs : List Row} {k : Nat} (hk : k < rs.length) : (rs.map Row.xs)[k]?.getD [] = rs[k].xs := by simp [hk]

end Go.Proofs.Ythipikllgpnlhaa

/- Copies and ordered lists of rows: l2Copy, l3Put, slices.Clone of a list of rows. -/
namespace Go.Proofs.Ythipikllgpnlhaa
set_option maxRecDepth 100000
open Go Go.RowKit

/-- append of a list that is read, at a step of a region that draws its order. -/
theorem step_append_rd {P : Program} {α : Type} {f : α → Value} (w : World) {ops : Array Oper} {o : Oper} {a : Act} {K : Act → World → Prop} {Q : Exit → Act → World → Prop} {E : Prop} (hgd : o.guard = none) (s x : Operand) (t : TypeId)
    (ho : o.op = .call { callee := .builtin .append, args := #[s, x], argTypes := #[t, t] })
    (base : Nat) (e : TypeId) (i : TypeInfo) (z : Value) (bytes : Nat) (ht : P.underlying t = some (.slice e)) (hi : P.info? e = some i) (hz : i.zero = some z)
    (hsize : i.size = 1) (hby : i.bytes = bytes) (hzs : z.cells.size = 1)
    (v : Value) (n : Nat) (xs : List Value) (hs : a.eval s = v) (hown : w.ownsRow base e 1 v n xs)
    (B : Nat) (A : Option Addr) (c m : Nat) (ys : List α) (hx : a.eval x = .slice A m c) (hm : ys.length = m) (hr : Rd f w B A ys) (h1 : ∀ y, (f y).oneCell' = true)
    (h63 : n + m ≤ maxLen) (hbytes : (n + m) * bytes ≤ 140737488355328) (hbase : base ≤ w.heap.size)
    (h : ∀ v' w', w'.ownsRow base e 1 v' (n + m) (xs ++ ys.map f) → w.grownBy w' v.ownBlock → K (a.put o.dst v') w') :
    if Region.wanted o (yielded ops a.tmps) = true then Oper.wp P o a w K Q else E := by
  have hw : Region.wanted o (yielded ops a.tmps) = true := by simp [Region.wanted, hgd]
  rw [if_pos hw]
  obtain ⟨v', w', hr2, h2, h3⟩ := run_append_rd (P := P) w base t o.type e i z bytes ht hi hz hsize hby hzs v n xs hown B A c m ys hm hr h1 h63 hbytes hbase
  unfold Oper.wp execOp
  simp only [ho, resolve, invoke, builtin, Sem.run_bind, Sem.run_pure, Result.andThen_ok, List.map_toArray, List.map_cons, List.map_nil, hs, hx, hr2]
  exact h v' w' h2 h3

theorem obj_newH {w : World} {o : Obj} {H : Nat} (h : w.heap.size = H) : (w.alloc o).heap[H]? = some o := by subst h; exact obj_new w o
theorem obj_belowS {w w' : World} {g : Nat} {o : Obj} (h : w.heap[g]? = some o) (hb : Below w.heap.size w w') : w'.heap[g]? = some o := obj_below h hb (obj_lt h)
/-- A block of another type than what was appended to. -/
theorem obj_grownT {w w' : World} {G base e n : Nat} {cs : Array Value} {t : TypeId} {v : Value} {vs : List Value} (h : w.heap[G]? = some (.cells cs t (0, 0))) (hown : w.ownsRow base e 1 v n vs) (hne : t ≠ e) (hg : w.grownBy w' v.ownBlock) : w'.heap[G]? = some (.cells cs t (0, 0)) := by
  refine (hg.block G (obj_lt h) (fun he => ?_)).trans h
  rcases hown.2 with ⟨rfl, _⟩ | ⟨q, cap, cur, rfl, _, hh, _⟩
  · cases he
  · injection he with he
    subst he
    rw [h] at hh
    injection hh with hh
    injection hh with _ ht _
    exact hne ht
/-- step_append_lies, what was owned handed on. -/
theorem step_append_liesX {P : Program} (w : World) {ops : Array Oper} {o : Oper} {a : Act} {K : Act → World → Prop} {Q : Exit → Act → World → Prop} {E : Prop} (hgd : o.guard = none) (s x : Operand) (t : TypeId)
    (ho : o.op = .call { callee := .builtin .append, args := #[s, x], argTypes := #[t, t] })
    (base : Nat) (e : TypeId) (i : TypeInfo) (z : Value) (size bytes : Nat) (ht : P.underlying t = some (.slice e)) (hi : P.info? e = some i) (hz : i.zero = some z)
    (hsize : i.size = size) (hby : i.bytes = bytes) (hzs : z.cells.size = size) (hsz : 0 < size)
    (v : Value) (n : Nat) (xs : List Value) (hs : a.eval s = v) (hown : w.ownsRow base e size v n xs)
    (ad : Addr) (m c : Nat) (news : List Value) (hx : a.eval x = .slice (some ad) m c) (hl : news.length = m * size) (hnews : ∀ j u, news[j]? = some u → w.cell? (ad.add j) = some u) (h1 : ∀ u ∈ news, u.oneCell' = true)
    (hm : 0 < m) (h63 : n + m ≤ maxLen) (hbytes : (n + m) * bytes ≤ 140737488355328) (hbase : base ≤ w.heap.size) (H : Nat) (hH : w.heap.size = H)
    (h : ∀ g cap w', w.ownsRow base e size v n xs → w'.ownsRow base e size (.slice (some ⟨g, 0, none⟩) (n + m) cap) (n + m) (xs ++ news) → w.grownBy w' v.ownBlock → (v.ownBlock = some g ∨ g = H) → g < w'.heap.size → K (a.put o.dst (.slice (some ⟨g, 0, none⟩) (n + m) cap)) w') :
    if Region.wanted o (yielded ops a.tmps) = true then Oper.wp P o a w K Q else E :=
  step_append_lies w hgd s x t ho base e i z size bytes ht hi hz hsize hby hzs hsz v n xs hs hown ad m c news hx hl hnews h1 hm h63 hbytes hbase H hH fun g cap w' => h g cap w' hown
theorem rowfact {V w4 : World} {b e1 n4 bl base e n : Nat} {v4 v : Value} {vs vs' : List Value} {cs : Array Value} {t : TypeId} (_ : w4.ownsRow b e1 1 v4 n4 (vs ++ [Value.slice (some ⟨bl, 0, none⟩) 2 2])) (hg : V.grownBy w4 v.ownBlock) (hown : V.ownsRow base e 1 v n vs') (hne : t ≠ e)
    (h : V.heap[bl]? = some (.cells cs t (0, 0))) : w4.heap[bl]? = some (.cells cs t (0, 0)) := obj_grownT h hown hne hg
theorem own_take {w : World} {base e n c k : Nat} {A : Option Addr} {vs : List Value} (h : w.ownsRow base e 1 (.slice A n c) n vs) (hk : k ≤ n) : w.ownsRow base e 1 (.slice A k c) k (vs.take k) := by
  have hl := own_len h
  refine ⟨by rw [List.length_take]; omega, ?_⟩
  rcases h.2 with ⟨hv, h0⟩ | ⟨g, cap, cur, hv, hb, hg, hnc, hcm, hcs, ht⟩
  · injection hv with h1 h2 h3
    subst h1 h3
    exact .inl ⟨by rw [show k = 0 by omega], by omega⟩
  · injection hv with h1 h2 h3
    subst h1 h3
    refine .inr ⟨g, c, cur, rfl, hb, hg, by omega, hcm, hcs, ?_⟩
    rw [← ht, Nat.mul_one, Nat.mul_one, List.take_take, Nat.min_eq_left hk]
theorem Own.kept {w w' : World} {lo hi n : Nat} {rs : List Row} {A : Option Addr} {c : Nat} {vs : List Value} (h : Own w lo hi rs [⟨A, c, vs⟩]) (hh : hi ≤ w.heap.size) (hn : vs.length = n) (hg : w.grownBy w' (Value.slice A n c).ownBlock) :
    Own w' lo w'.heap.size rs [] := by
  subst hn
  have hsz := hg.size
  exact ⟨fun r hr => (h.rows r hr).kept hg (by
      rcases hv : r.v.ownBlock with _ | g
      · exact .inl rfl
      · exact .inr fun e => own_ne h hr (List.mem_singleton.2 rfl) g hv e.symm), fun r hr g hg => by have := h.lt r hr g hg; omega, h.apart, fun _ ho => (List.not_mem_nil ho).elim, fun _ ho => (List.not_mem_nil ho).elim⟩
theorem ownBlock_len (A : Option Addr) (n m c c' : Nat) : (Value.slice A n c).ownBlock = (Value.slice A m c').ownBlock := by cases A <;> rfl

theorem below_grown {w w' : World} {row : Option Nat} (h : Below w.heap.size w w') : w.grownBy w' row := ⟨h.os, h.tape, h.output, h.size, fun k hk _ => h.block k hk⟩
theorem grown_then {w w' w'' : World} {row : Option Nat} {g H : Nat} (h : w.grownBy w' row) (k : w'.grownBy w'' (some g)) (hat : row = some g ∨ g = H) (hH : w.heap.size ≤ H) : w.grownBy w'' row :=
  ⟨k.os.trans h.os, k.tape.trans h.tape, k.output.trans h.output, Nat.le_trans h.size k.size, fun i hi hr => (k.block i (Nat.lt_of_lt_of_le hi h.size) (by
    rcases hat with e | e
    · rw [← e]; exact hr
    · intro he; injection he with he; omega)).trans (h.block i hi hr)⟩
theorem sizeL (w : World) : (sizeOf (Try.prog.elem 25)).run Try.prog w = .ok 1 w := by kernel_rfl
/-- A call's result: a list of rows of the call's own, the list that it was handed grown. -/
def RetP (w : World) (lo : Nat) (A : Option Addr) (L : List (List Int)) (e : Ending) (w' : World) : Prop :=
  ∃ A' c' rs, e = .returned (.slice A' rs.length c') ∧ rs.map Row.xs = L ∧ Own w' lo w'.heap.size rs [⟨A', c', rs.map Row.v⟩] ∧ w.grownBy w' (Value.slice A 0 0).ownBlock

set_option maxHeartbeats 2000000 in
theorem l2Copy_any (A : Option Addr) (c : Nat) (rs : List Row) (w : World) (h : InL w A c rs) :
    Calls Try.prog 119 #[.slice A rs.length c] w (RetL w (rs.map Row.xs)) := by
  obtain ⟨i0, hi, hz0, hz1, hz2⟩ := info_parts infoI
  obtain ⟨j0, hj, hy0, hy1, hy2⟩ := info_parts infoL
  have hlen := h.len
  have hlit := Own.lit (lo := w.heap.size) w (Nat.le_refl _)
  have hb0 := (Below.refl w.heap.size w).alloc (Nat.le_refl _) (.cells #[] 24)
  go_enter Try.func119, Try.ntmps119
  go_wp2_with fail
  go_loopw [3, 4] (fun v i wr => ∃ (k : Nat) (A1 : Option Addr) (c1 : Nat) (ds : List Row), k ≤ rs.length ∧ i = .int .i64 k ∧ v = .slice A1 ds.length c1 ∧ Hid (ds.map Row.xs = (rs.map Row.xs).take k) ∧ Own wr w.heap.size wr.heap.size ds [⟨A1, c1, ds.map Row.v⟩] ∧ Below w.heap.size w wr) (fun _ i _ => rs.length - (intOf i).toNat)
  case atStart => exact ⟨0, _, _, [], Nat.zero_le _, rfl, rfl, Lib.hid rfl, hlit, hb0⟩
  case round =>
    clear hlit hb0
    obtain ⟨k, A1, c1, ds, hk, rfl, rfl, HX, hO, hb⟩ := hrel
    have hdl : ds.length = k := by have := congrArg List.length HX.out; simp at this; omega
    rcases Nat.lt_or_ge k rs.length with hlt | hge
    · obtain ⟨b, off, rfl, _, hc⟩ := (h.next hb).read.at (by omega)
      have c1' := hc k hlt
      have hin := (h.next hb).row (List.getElem_mem hlt)
      have hrl := hin.len
      have hsz := hb.size
      have HD := Lib.hid hdl
      have hkd : ds.length ≤ 1048576 := by omega
      have HT := Lib.hid (show (rs.map Row.xs).take (k + 1) = (rs.map Row.xs).take k ++ [rs[k].xs] by rw [List.take_succ_eq_append_getElem (by simpa using hlt)]; simp)
      have own0 : (wr.alloc (.cells #[] 3)).ownsRow wr.heap.size 3 1 (.slice (some ⟨wr.heap.size, 0, none⟩) 0 0) 0 [] := World.ownsRow_lit wr #[] 0 (Nat.le_refl _) (by unfold maxLen; omega) rfl
      have hx0 := hin.rd.alloc (Nat.le_refl _) (.cells #[] 3)
      have hbA := (Below.refl wr.heap.size wr).alloc (Nat.le_refl _) (.cells #[] 3)
      clear hc hdl
      go_wp2_with (first
        | ((at_builtin; refine wpList_append_rd _ rfl _ _ 24 rfl (wr.heap.size) 3 i0 (.int .i64 0) 8 Try.underlying24 hi hz0 hz1 hz2 rfl _ _ _ rfl own0 _ _ _ _ (rs[k].xs) rfl rfl hx0 (fun _ => rfl) (by unfold maxLen; omega) (by omega) (by first | omega | (simp; done) | (simp; omega)) ?_; intro v1 w1 hown1 hgrow1)
           simp only [Nat.zero_add, List.nil_append] at hown1
           obtain ⟨A3, c3, rfl, _, _⟩ := own_shape hown1
           have hbB := hbA.grown hgrow1 (by simp) (fun g hg => (own0.lt g hg).1)
           have hszB := hbB.size
           have hO2 := (hO.below hbB).add (r := ⟨A3, c3, rs[k].xs⟩) hown1 hszB hb.size
           have ho2 := hO2.outN (n := ds.length) (by simp)
           clear hown1 hgrow1 hx0 own0 hbA)
        | (at_builtin; refine wpList_append_own _ rfl _ _ 25 rfl (w.heap.size) 24 j0 (.slice none 0 0) 1 24 Try.underlying25 hj hy0 hy1 hy2 rfl (by decide) _ _ _ rfl (World.ownsRow.alloc ho2 _) ⟨w1.heap.size, 0, none⟩ 1 1 [Value.slice A3 rs[k].xs.length c3] rfl rfl (cell_one_at _ _ (by simp)) (by intro u hu; simp at hu; subst hu; rfl) (by unfold maxLen; omega) (by omega) (by simp; omega) ?_; intro v9 w9 hown9 hgrow9 _))
      obtain ⟨A5, c5, rfl, hO3, hg3⟩ := hO2.grow (Nat.le_refl _) (by simp) hown9 hgrow9
      have hbw := (hb.trans (hbB.mono hb.size)).grown hg3 (by have := hb.size; omega) (fun g hg => (hO2.olim (by simp) g hg).1)
      have K := Lib.hid (And.intro hO3 hbw)
      clear hO3 hbw hown9 hgrow9 hg3 hO2 ho2 hbB hO hb
      go_wp2_with fail
      go_roundw
      case rel => exact ⟨k + 1, A5, c5, ds ++ [⟨A3, c3, rs[k].xs⟩], by omega, by go_num, by rw [List.length_append]; rfl, Lib.hid (by rw [HT.out, List.map_append, HX.out]; rfl), by simpa [Row.v] using K.out.1, K.out.2⟩
      case measure => simp [intOf]; omega
    · obtain rfl : k = rs.length := by omega
      have HT := Lib.hid (show (rs.map Row.xs).take rs.length = rs.map Row.xs from List.take_of_length_le (by simp))
      go_wp2_with fail
      go_ret
      exact ⟨A1, c1, ds, rfl, by rw [HX.out, HT.out], hO, hb⟩
theorem rd_rows {w : World} {B : Nat} {A : Option Addr} {rs : List Row} (h : Rd id w B A (rs.map Row.v)) : Rd Row.v w B A rs := fun h0 => by
  obtain ⟨b, off, e, hb, hc⟩ := h (by simpa using h0)
  exact ⟨b, off, e, hb, fun j hj => by rw [hc j (by simpa using hj)]; simp⟩
theorem read_rows {w : World} {B : Nat} {A : Option Addr} {c : Nat} {rs : List Row} (h : Read w B rs [⟨A, c, rs.map Row.v⟩]) : Rd Row.v w B A rs := rd_rows (h.ord _ (List.mem_singleton.2 rfl))
set_option maxHeartbeats 400000 in
theorem cloneL_any (A : Option Addr) (c : Nat) (rs : List Row) (w : World) (hlen : rs.length ≤ 1048576) (hx : Rd Row.v w w.heap.size A rs) :
    Calls Try.prog 117 #[.slice A rs.length c] w fun e w' => ∃ A' c', e = .returned (.slice A' rs.length c') ∧ w'.ownsRow w.heap.size 24 1 (.slice A' rs.length c') rs.length (rs.map Row.v) ∧ Below w.heap.size w w' := by
  obtain ⟨j0, hj, hy0, hy1, hy2⟩ := info_parts infoL
  have hnil := fun (w : World) (a : Option Addr) (l c : Nat) => Lib.run_eql_slice_nil (P := Try.prog) w 25 24 a l c 0 0 Try.underlying25
  cases A with
  | none =>
    have hx0 : rs = [] := by
      rcases Nat.eq_zero_or_pos rs.length with h0 | h0
      · exact List.eq_nil_of_length_eq_zero h0
      · obtain ⟨b, off, he, _⟩ := hx h0
        cases he
    subst hx0
    go_enter Try.func117, Try.ntmps117
    go_wp2
    go_ret
    exact ⟨none, 0, rfl, World.ownsRow_nil _ _ _ _, Below.refl _ _⟩
  | some ad =>
    have hown0 : (w.alloc (.cells #[] 24)).ownsRow w.heap.size 24 1 (.slice (some ⟨w.heap.size, 0, none⟩) 0 0) 0 [] := World.ownsRow_lit w #[] 0 (Nat.le_refl _) (by unfold maxLen; omega) rfl
    have hb0 := (Below.refl w.heap.size w).alloc (Nat.le_refl _) (.cells #[] 24)
    have hx0 := hx.alloc (Nat.le_refl _) (.cells #[] 24)
    go_enter Try.func117, Try.ntmps117
    go_wp2_with (at_builtin; refine wpList_append_rd _ rfl _ _ 25 rfl (w.heap.size) 24 j0 (.slice none 0 0) 24 Try.underlying25 hj hy0 hy1 hy2 rfl _ _ _ rfl hown0 _ _ _ _ (rs) rfl rfl hx0 (fun _ => rfl) (by unfold maxLen; omega) (by omega) (by first | omega | (simp; done) | (simp; omega)) ?_; intro v1 w1 hown1 hgrow1)
    have hb1 := hb0.grown hgrow1 (by simp) (by intro g hg; exact (hown0.lt g hg).1)
    simp only [Nat.zero_add, List.nil_append] at hown1
    obtain ⟨A1, c1, rfl, q1, q2⟩ := own_shape hown1
    go_wp2
    go_ret
    exact ⟨A1, c1, rfl, hown1, hb1⟩
theorem l2Before_b2 (A A' : Option Addr) (c c' n m : Nat) (xs ys : List Int) (w : World) (b : Bool) (hn : xs.length = n) (hm : ys.length = m) (hl : n ≤ 4611686018427387904) (hl' : m ≤ 4611686018427387904)
    (hx : Rd (Value.int .i64) w w.heap.size A xs) (hy : Rd (Value.int .i64) w w.heap.size A' ys) (hb : before xs ys = b) :
    Calls Try.prog 88 #[.slice A n c, .slice A' m c'] w (Rq w (.bool b)) := by
  subst hb; exact l2Before_any A A' c c' n m xs ys w hn hm hl hl' hx hy
set_option maxHeartbeats 4000000 in
theorem l3Put_any (A B : Option Addr) (c d lo : Nat) (rs : List Row) (p : List Int) (w : World) (hO : Own w lo w.heap.size rs [⟨A, c, rs.map Row.v⟩]) (hlo : lo ≤ w.heap.size) (hp : In w B d p)
    (hn : rs.length ≤ 1048576) (hr8 : ∀ r ∈ rs, r.xs.length ≤ 1048576) :
    Calls Try.prog 84 #[.slice A rs.length c, .slice B p.length d] w (RetP w lo A (putL (rs.map Row.xs) p)) := by
  obtain ⟨i0, hi, hz0, hz1, hz2⟩ := info_parts infoI
  obtain ⟨j0, hj, hy0, hy1, hy2⟩ := info_parts infoL
  have hpl := hp.len
  have hcap := (own_caps hO.out).1
  rw [List.length_map] at hcap
  have HR8 := Lib.hid hr8
  have HO := Lib.hid hO
  have HLO := Lib.hid hlo
  have hRd := hO.read
  clear hr8 hO hlo
  go_enter Try.func84, Try.ntmps84
  go_wp2_with fail
  go_loopw [5] (fun i wr => ∃ k : Nat, k ≤ rs.length ∧ i = .int .i64 k ∧ Hid (putAt (rs.map Row.xs) p rs.length = putAt (rs.map Row.xs) p k) ∧ Dr w wr) (fun i _ => (intOf i).toNat)
  case atStart => exact ⟨rs.length, Nat.le_refl _, rfl, Lib.hid rfl, Dr.refl _⟩
  case round =>
    obtain ⟨k, hk, rfl, HK, hd⟩ := hrel
    have hsz : wr.heap.size = w.heap.size := by rw [hd.heap]
    by_cases h0 : k = 0
    case' pos =>
      have d0 : decide ((k : Int) > 0) = false := decide_eq_false (by omega)
      have d0' : decide (0 < (k : Int)) = false := decide_eq_false (by omega)
      have d1 : decide (0 < k) = false := decide_eq_false (by omega)
      have d2 : ¬ 0 < k := by omega
      have HL := Lib.hid (show putL (rs.map Row.xs) p = (rs.map Row.xs).take k ++ p :: (rs.map Row.xs).drop k by
        have e : putAt (rs.map Row.xs) p (rs.map Row.xs).length = k := by
          rw [List.length_map, HK.out, h0]; rfl
        unfold putL
        rw [e, if_neg (by omega)])
      obtain ⟨wt, rfl⟩ : ∃ wt : World, wt = wr := ⟨_, rfl⟩
      have hdt := hd
      clear h0
      go_upto_region 6 with fail
    case' neg =>
      have hk0 : 0 < k := Nat.pos_of_ne_zero h0
      have d0 : decide ((k : Int) > 0) = true := decide_eq_true (by omega)
      have d0' : decide (0 < (k : Int)) = true := decide_eq_true (by omega)
      have hRr := (hRd.dr hd).more (B' := wr.heap.size) (by omega)
      obtain ⟨b, off, rfl, hbb, hc⟩ := hRr.at (by omega)
      have c1 := hc (k - 1) (by omega)
      have e1 : IntKind.i64.wrap ((k : Int) - 1) = (k : Int) - 1 := IntWalk.i64_in _ (by omega)
      have e2 : ((k : Int) - 1).toNat = k - 1 := by omega
      have e3 : 0 ≤ (k : Int) - 1 := by omega
      have e4 : (k : Int) - 1 < (rs.length : Int) := by omega
      obtain ⟨q, hq⟩ : ∃ q : Row, q = rs[k - 1]'(by omega) := ⟨_, rfl⟩
      have hqm : q ∈ rs := by rw [hq]; exact List.getElem_mem _
      have hql := HR8.out q hqm
      have hqr := hRr.rd q hqm
      have hpr := (hp.dr hd).rd
      rw [← hq] at c1
      have HXQ := Lib.hid (show (rs.map Row.xs)[k - 1]?.getD [] = q.xs by rw [hq]; simp [show k - 1 < rs.length by omega])
      have HSTEP := Lib.hid (show putAt (rs.map Row.xs) p k = if before p q.xs = true then putAt (rs.map Row.xs) p (k - 1) else k by
        obtain ⟨u, rfl⟩ : ∃ u, k = u + 1 := ⟨k - 1, by omega⟩
        have h := HXQ.out
        rw [Nat.add_sub_cancel] at h
        rw [putAt, h]; rfl)
      have HC := Lib.hid hc
      clear hq hc h0
      go_wp2_with fail
      by_cases hb : before p q.xs = true
      · have HT := Lib.hid (show putAt (rs.map Row.xs) p rs.length = putAt (rs.map Row.xs) p (k - 1) by rw [HK.out, HSTEP.out, if_pos hb])
        (with_reducible refine (l2Before_b2 B q.A d q.c p.length q.xs.length p q.xs wr true rfl rfl (by omega) (by omega) hpr hqr hb).mono ?_)
        rintro e w1 ⟨rfl, hd1⟩
        clear hb
        go_wp2_with fail
        go_roundw
        case rel => exact ⟨k - 1, by omega, by rw [Int.natCast_sub hk0]; rfl, HT, hd.trans hd1⟩
        case measure => simp [intOf]; omega
      have hbf : before p q.xs = false := by simpa using hb
      have HT := Lib.hid (show putAt (rs.map Row.xs) p rs.length = k by rw [HK.out, HSTEP.out, if_neg hb])
      (with_reducible refine (l2Before_b2 B q.A d q.c p.length q.xs.length p q.xs wr false rfl rfl (by omega) (by omega) hpr hqr hbf).mono ?_)
      rintro e w1 ⟨rfl, hd1⟩
      have hd2 := hd.trans hd1
      have c2 : w1.cell? ⟨b, off + (k - 1), none⟩ = some (Value.slice q.A q.xs.length q.c) := (hd1.cell _).trans c1
      have hsz2 : w1.heap.size = wr.heap.size := by rw [hd1.heap]
      have hqr2 := (hqr.dr hd1).more (B' := w1.heap.size) (by omega)
      have hpr2 := (hp.dr hd2).rd
      clear hb hbf
      go_wp2_with fail
      by_cases he : q.xs = p
      · have HE := Lib.hid (show putL (rs.map Row.xs) p = rs.map Row.xs by
          unfold putL
          rw [List.length_map, HT.out, if_pos ⟨hk0, by rw [HXQ.out]; exact he⟩])
        (with_reducible refine (l2Same_b q.A B q.c d q.xs.length p.length q.xs p w1 true rfl rfl (by omega) hqr2 hpr2 (decide_eq_true he)).mono ?_)
        rintro e w2 ⟨rfl, hd3⟩
        have hd4 := hd2.trans hd3
        have hsz4 : w2.heap.size = w.heap.size := by rw [hd4.heap]
        clear he
        go_wp2_with fail
        go_ret
        exact ⟨_, c, rs, rfl, HE.out.symm, (HO.out.dr hd4).wider (Nat.le_refl _) (by omega), below_grown (below_dr (Below.refl _ _) hd4)⟩
      have HL := Lib.hid (show putL (rs.map Row.xs) p = (rs.map Row.xs).take k ++ p :: (rs.map Row.xs).drop k by
        unfold putL
        rw [List.length_map, HT.out, if_neg (fun h => he (by rw [← HXQ.out]; exact h.2))])
      (with_reducible refine (l2Same_b q.A B q.c d q.xs.length p.length q.xs p w1 false rfl rfl (by omega) hqr2 hpr2 (decide_eq_false he)).mono ?_)
      rintro e w2 ⟨rfl, hd3⟩
      obtain ⟨wt, rfl⟩ : ∃ wt : World, wt = w2 := ⟨_, rfl⟩
      have hdt := hd2.trans hd3
      clear he c2 hqr2 hpr2 hsz2 c1 hqr hpr hqm hql e1 e2 e3 e4 hk0 hRr hd1 hd2 hd3
      go_upto_region 6 with fail
    all_goals
      have hszt : wt.heap.size = w.heap.size := by rw [hdt.heap]
      have hRt := (hRd.dr hdt).more (B' := wt.heap.size) (by omega)
      have hdrop := Rd.cut (k := k) (read_rows hRt) hk hcap
      have hsl := fun (A : Option Addr) w => run_cut (P := Try.prog) (t := 25) Try.underlying25 sizeL A rs.length c k (k : Int) rfl hk w
      have hOt := HO.out.dr hdt
      have hpt := (hp.dr hdt).rd
      have own0 : (wt.alloc (.cells #[] 24)).ownsRow wt.heap.size 24 1 (.slice (some ⟨wt.heap.size, 0, none⟩) 0 0) 0 [] := World.ownsRow_lit wt #[] 0 (Nat.le_refl _) (by unfold maxLen; omega) rfl
      have hx0 := hdrop.alloc (Nat.le_refl _) (.cells #[] 24)
      have hbA := (Below.refl wt.heap.size wt).alloc (Nat.le_refl _) (.cells #[] 24)
      have hdl : (rs.drop k).length = rs.length - k := List.length_drop
      have hkc : k ≤ c := Nat.le_trans hk hcap
      have HSZT := Lib.hid hszt
      clear hRt hdrop hszt hsz
      go_wp2_with (at_builtin; refine wpList_append_rd _ rfl _ _ 25 rfl (wt.heap.size) 24 j0 (.slice none 0 0) 24 Try.underlying25 hj hy0 hy1 hy2 rfl _ _ _ rfl own0 _ _ _ _ (rs.drop k) rfl hdl hx0 (fun _ => rfl) (by unfold maxLen; omega) (by omega) (by first | omega | (simp; done) | (simp; omega)) ?_; intro v1 w1 hown1 hgrow1)
      simp only [Nat.zero_add, List.nil_append] at hown1
      obtain ⟨R1, cr, rfl, _, _⟩ := own_shape hown1
      have hb1 : Below wt.heap.size wt w1 := hbA.grown hgrow1 (by simp) (fun g hg => (own0.lt g hg).1)
      have hsz1 := hb1.size
      have hszt := HSZT.out
      have hdd : Dr w1 w1.drew := (Dr.refl _).drew
      have hO1 := ((hOt.below hb1).dr hdd).wider (Nat.le_refl lo) (show w.heap.size ≤ w1.heap.size by omega)
      have hR1 := hdd.own hown1
      have hp1 : Rd (Value.int .i64) (w1.drew.alloc (.cells #[] 3)) w1.heap.size B p := (((hpt.below hb1).dr hdd).more (B' := w1.heap.size) (by omega)).alloc (Nat.le_refl _) _
      have own1 : (w1.drew.alloc (.cells #[] 3)).ownsRow w1.heap.size 3 1 (.slice (some ⟨w1.heap.size, 0, none⟩) 0 0) 0 [] := World.ownsRow_lit w1.drew #[] 0 (Nat.le_refl _) (by unfold maxLen; omega) rfl
      clear own0 hx0 hbA hgrow1 hown1 hszt
      go_wp2_with fail
      go_region_held3 (fun _ => True) (trivial) ((first
        | (refine step_append_rd _ (by rfl) _ _ _ (by rfl) w1.heap.size 3 i0 (.int .i64 0) 8 Try.underlying24 hi hz0 hz1 hz2 (by rfl) (Value.slice (some ⟨w1.heap.size, 0, none⟩) 0 0) 0 _ (by rfl) own1 _ B d p.length p (by rfl) rfl hp1 (fun _ => rfl) (by unfold maxLen; omega) (by omega) (by simp) ?_
           intro v2 w2 hown2 hgrow2
           simp only [Nat.zero_add, List.nil_append] at hown2
           obtain ⟨A2, c2, rfl, _, _⟩ := own_shape hown2
           have hb2 : Below w1.drew.heap.size w1.drew w2 := ((Below.refl w1.drew.heap.size w1.drew).alloc (Nat.le_refl _) _).grown hgrow2 (by simp) (fun g hg => (own1.lt g hg).1)
           have hsz2 : w1.heap.size ≤ w2.heap.size := hb2.size
           have hO2 := (hO1.below hb2).add (r := ⟨A2, c2, p⟩) hown2 hsz2 (show lo ≤ w1.heap.size by have h1 := HLO.out; have h2 := HSZT.out; omega)
           have hT2 := (own_take (hO2.outN (n := rs.length) (by simp)) hk).alloc (.cells #[Value.slice A2 p.length c2] 24)
           have hR2 := (own_below hR1 hb2).alloc (.cells #[Value.slice A2 p.length c2] 24)
           have hlo2 : lo ≤ w2.heap.size := by have h1 := HLO.out; have h2 := HSZT.out; omega)
        | (refine step_append_lies _ (by rfl) _ _ _ (by rfl) lo 24 j0 (.slice none 0 0) 1 24 Try.underlying25 hj hy0 hy1 hy2 rfl (by decide) _ k _ (by rfl) hT2 ⟨w2.heap.size, 0, none⟩ 1 1 [Value.slice A2 p.length c2] (by rfl) (by rfl) (cell_one_new _ _ _) (by intro u hu; simp at hu; subst hu; rfl) (by omega) (by unfold maxLen; omega) (by omega) (by simp; omega) (w2.heap.size + 1) (by simp) ?_
           intro g3 cap3 w3 hown3 hgrow3 hat3 hlt3
           have hgr3 := grown_trans (World.grownBy_alloc w2 (.cells #[Value.slice A2 p.length c2] 24) _) hgrow3
           have hR3 := hR2.kept hgrow3 (by
             rcases hv : (Value.slice R1 (rs.length - k) cr).ownBlock with _ | q
             · exact .inl rfl
             · refine .inr (fun e => ?_)
               have h1 := (hR1.lt q hv).1
               have h2 := (hOt.olim (n := rs.length) (by simp) q (by rw [e]; exact ownBlock_len _ _ _ _ _)).2
               have h3 := HSZT.out
               omega)
           have hRd3 : Rd Row.v w3 w3.heap.size R1 (rs.drop k) := Rd.of_own (c := cr) (by rw [hdl]; exact hR3)
           have hlo3 : lo ≤ w3.heap.size := by have := hgr3.size; omega)
        | (refine step_append_rd _ (by rfl) _ _ _ (by rfl) lo 24 j0 (.slice none 0 0) 24 Try.underlying25 hj hy0 hy1 hy2 (by rfl) (Value.slice (some ⟨g3, 0, none⟩) (k + 1) cap3) (k + 1) _ (by rfl) hown3 _ R1 cr (rs.length - k) (rs.drop k) (by rfl) hdl hRd3 (fun _ => rfl) (by unfold maxLen; omega) (by omega) (by omega) ?_
           intro v4 w4 hown4 hgrow4
           obtain ⟨A4, c4, rfl, _, _⟩ := own_shape hown4)
        | fail))
      have hlen4 : (rs.take k ++ (⟨A2, c2, p⟩ : Row) :: rs.drop k).length = k + 1 + (rs.length - k) := by simp; omega
      have hv3 : (Value.slice A2 p.length c2) = Row.v ⟨A2, c2, p⟩ := rfl
      have hb3 := (Below.refl w2.heap.size w2).alloc (Nat.le_refl _) (.cells #[Value.slice A2 p.length c2] 24)
      have hO3 := Own.kept (w' := w3) (hO2.below hb3) (by simp) (show (rs.map Row.v).length = rs.length by simp) (by rw [ownBlock_len _ rs.length k c c]; exact hgrow3)
      have hO3' := hO3.with_ (A := some ⟨g3, 0, none⟩) (c := cap3) (vs := (rs.map Row.v).take k ++ [Value.slice A2 p.length c2]) (by
        have hl : ((rs.map Row.v).take k ++ [Value.slice A2 p.length c2]).length = k + 1 := by simp; omega
        rw [hl]; exact hown3) (Nat.le_refl _)
      have hO4 := (Own.kept hO3' (Nat.le_refl _) (show ((rs.map Row.v).take k ++ [Value.slice A2 p.length c2]).length = k + 1 by simp; omega) hgrow4).perm (rs' := rs.take k ++ (⟨A2, c2, p⟩ : Row) :: rs.drop k) (by
        refine List.Perm.trans ?_ (List.perm_middle.symm)
        rw [List.take_append_drop]
        exact List.perm_append_comm)
      have hfin := hO4.with_ (A := A4) (c := c4) (vs := (rs.take k ++ (⟨A2, c2, p⟩ : Row) :: rs.drop k).map Row.v) (by
        rw [List.length_map, hlen4]
        have e : (rs.map Row.v).take k ++ [Value.slice A2 p.length c2] ++ (rs.drop k).map Row.v = (rs.take k ++ (⟨A2, c2, p⟩ : Row) :: rs.drop k).map Row.v := by simp [List.map_take, Row.v]
        rw [← e]; exact hown4) (Nat.le_refl _)
      have h1 : Below w.heap.size w w2 := by
        have hz := HSZT.out
        have ha := (below_dr (Below.refl w.heap.size w) hdt).trans (hb1.mono (by omega))
        exact (below_dr ha hdd).trans (hb2.mono (by show w.heap.size ≤ w1.heap.size; omega))
      have hgw := grown_then (grown_trans (below_grown h1) hgr3) hgrow4 hat3 (show w.heap.size ≤ w2.heap.size + 1 by have := h1.size; omega)
      have K := Lib.hid (And.intro hfin hgw)
      have HL4 := Lib.hid hlen4
      clear h1 hfin hgw hO4 hO3' hO3 hb3 hown4 hgrow4 hRd3 hR3 hgr3 hown3 hgrow3 hat3 hR2 hT2 hO2 hb2 hown2 hgrow2 own1 hp1 hR1 hO1 hv3 hlen4
      go_wp2_with fail
      go_ret
      exact ⟨A4, c4, rs.take k ++ (⟨A2, c2, p⟩ : Row) :: rs.drop k, by rw [HL4.out]; rfl, by rw [HL.out]; simp [List.map_take, List.map_drop], K.out.1, by rw [ownBlock_len _ 0 k 0 c]; exact K.out.2⟩
end Go.Proofs.Ythipikllgpnlhaa
