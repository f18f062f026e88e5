/- Plain maths: ascending lists of places, occurrences of a pattern, breadth first and depth first. -/
import Derived.Test.YthipikllgpnlhaaM2
import Derived.Test.YthipikllgpnlhaaM1
namespace Go.Proofs.Ythipikllgpnlhaa
set_option maxRecDepth 100000

/-- The place behind the last one. -/
def fromI (l : List Int) : Int := match l.getLast? with
  | none => 1
  | some x => x + 1
theorem fromI_nil : fromI [] = 1 := rfl
theorem fromI_snoc (l : List Int) (x : Int) : fromI (l ++ [x]) = x + 1 := by simp [fromI]
def ways (n : Nat) (l : List Int) : List Int := marks (fromI l) ((n : Int) + 1 - fromI l).toNat
theorem ways_mem {n : Nat} {l : List Int} {x : Int} : x ∈ ways n l ↔ fromI l ≤ x ∧ x ≤ n := by
  unfold ways marks
  rw [List.mem_map]
  constructor
  · rintro ⟨i, hi, rfl⟩
    have := List.mem_range.1 hi
    omega
  · rintro ⟨h1, h2⟩
    exact ⟨(x - fromI l).toNat, List.mem_range.2 (by omega), by omega⟩
def asc1 (n : Nat) (l : List Int) : List (List Int) := (ways n l).map fun x => l ++ [x]
def ascX (n : Nat) (ls : List (List Int)) : List (List Int) := ls.flatMap (asc1 n)
def ascI (n : Nat) : Nat → List (List Int)
  | 0 => [[]]
  | k + 1 => ascX n (ascI n k)
def ascF (n : Nat) : Nat → List Int → List (List Int)
  | 0, l => [l]
  | k + 1, l => (ways n l).flatMap fun x => ascF n k (l ++ [x])
theorem asc_iter (n : Nat) : ∀ (k i : Nat), ascI n (i + k) = (ascI n i).flatMap (ascF n k) := by
  intro k
  induction k with
  | zero => intro i; simp [ascF]
  | succ k ih =>
    intro i
    have h := ih (i + 1)
    rw [show i + (k + 1) = i + 1 + k by omega, h]
    show (ascX n (ascI n i)).flatMap (ascF n k) = _
    unfold ascX
    rw [List.flatMap_assoc]
    congr 1
    funext p
    unfold asc1
    rw [List.flatMap_map]
    rfl
theorem asc_fill (n k : Nat) : ascF n k [] = ascI n k := by
  have h := asc_iter n k 0
  rw [Nat.zero_add] at h
  rw [h]
  simp [ascI]
/-- Ascending, from 1 to n. -/
def Asc (n : Nat) (l : List Int) : Prop := (∀ x ∈ l, 1 ≤ x ∧ x ≤ n ∧ x < fromI l) ∧ l.Nodup
theorem Asc.nil (n : Nat) : Asc n [] := ⟨by simp, by simp⟩
theorem Asc.from {n : Nat} {l : List Int} (h : Asc n l) : 1 ≤ fromI l := by
  rcases hl : l.getLast? with _ | x
  · simp [fromI, hl]
  · have hm : x ∈ l := List.mem_of_getLast? hl
    have := h.1 x hm
    simp only [fromI, hl]
    omega
theorem Asc.snoc {n : Nat} {l : List Int} (h : Asc n l) {x : Int} (hx : x ∈ ways n l) : Asc n (l ++ [x]) := by
  obtain ⟨h1, h2⟩ := ways_mem.1 hx
  have hf := h.from
  refine ⟨fun y hy => ?_, (nodup_snoc l x).2 ⟨h.2, fun hm => by have := h.1 x hm; omega⟩⟩
  rw [fromI_snoc]
  rcases List.mem_append.1 hy with hy | hy
  · have := h.1 y hy
    omega
  · obtain rfl := List.mem_singleton.1 hy
    omega
theorem ascI_mem {n : Nat} : ∀ {k : Nat} {l : List Int}, l ∈ ascI n k → l.length = k ∧ Asc n l := by
  intro k
  induction k with
  | zero =>
    intro l h
    have : l = [] := by simpa [ascI] using h
    subst this
    exact ⟨rfl, Asc.nil n⟩
  | succ k ih =>
    intro l h
    obtain ⟨m, hm, hl⟩ := List.mem_flatMap.1 h
    obtain ⟨x, hx, rfl⟩ := List.mem_map.1 hl
    obtain ⟨h1, h2⟩ := ih hm
    exact ⟨by simp [h1], h2.snoc hx⟩
theorem marks_len (k : Int) (n : Nat) : (marks k n).length = n := by simp [marks]
theorem ways_le {n : Nat} {l : List Int} (h : 1 ≤ fromI l) : (ways n l).length ≤ n := by
  unfold ways
  rw [marks_len]
  omega
theorem ascI_le (n k : Nat) : (ascI n k).length ≤ n ^ k := by
  induction k with
  | zero => simp [ascI]
  | succ k ih =>
    have h := flatMap_le (asc1 n) n (ascI n k) (fun p hp => by
      unfold asc1
      rw [List.length_map]
      exact ways_le (ascI_mem hp).2.from)
    have h2 := Nat.mul_le_mul_right n ih
    rw [Nat.pow_succ]
    exact Nat.le_trans h h2

/-- The numbers at places. -/
def atL (p l : List Int) : List Int := l.map fun x => p[(x - 1).toNat]?.getD 0
theorem atL_length (p l : List Int) : (atL p l).length = l.length := by simp [atL]
def nth (p : List Int) (i : Int) : Int := p[i.toNat]?.getD 0
/-- The last place agrees with all before it. -/
def fitsB (p q l : List Int) : Bool := (List.range (l.length - 1)).all fun k => decide (q[k]?.getD 0 < q[l.length - 1]?.getD 0) == decide ((atL p l)[k]?.getD 0 < (atL p l)[l.length - 1]?.getD 0)
def occF (p q : List Int) : Nat → List Int → List (List Int)
  | 0, l => [l]
  | k + 1, l => ((ways p.length l).filter fun x => fitsB p q (l ++ [x])).flatMap fun x => occF p q k (l ++ [x])
def occI (p q : List Int) : List (List Int) := (ascI p.length q.length).filter fun l => decide (patL (atL p l) = q)
def occL (p q : List Int) : List (List Int) := occF p q q.length []
def allfits (p q l : List Int) : Bool := (List.range l.length).all fun j => fitsB p q (l.take (j + 1))
theorem allfits_snoc (p q l : List Int) (x : Int) : allfits p q (l ++ [x]) = (allfits p q l && fitsB p q (l ++ [x])) := by
  unfold allfits
  rw [List.length_append, List.length_singleton, List.range_succ, List.all_append]
  have h1 : ((List.range l.length).all fun j => fitsB p q ((l ++ [x]).take (j + 1))) = (List.range l.length).all fun j => fitsB p q (l.take (j + 1)) := by
    rw [Bool.eq_iff_iff, List.all_eq_true, List.all_eq_true]
    constructor
    · intro h j hj
      have h2 := h j hj
      have := List.mem_range.1 hj
      rwa [List.take_append_of_le_length (by omega)] at h2
    · intro h j hj
      have := List.mem_range.1 hj
      rw [List.take_append_of_le_length (by omega)]
      exact h j hj
  rw [h1]
  simp only [List.all_cons, List.all_nil, Bool.and_true]
  rw [List.take_of_length_le (by simp)]
theorem ascF_mem {n : Nat} : ∀ {k : Nat} {l m : List Int}, m ∈ ascF n k l → ∃ t, m = l ++ t ∧ t.length = k := by
  intro k
  induction k with
  | zero =>
    intro l m h
    have : m = l := by simpa [ascF] using h
    subst this
    exact ⟨[], by simp, rfl⟩
  | succ k ih =>
    intro l m h
    obtain ⟨x, _, hm⟩ := List.mem_flatMap.1 h
    obtain ⟨t, rfl, ht⟩ := ih hm
    exact ⟨x :: t, by simp, by simp [ht]⟩
theorem allfits_prefix {p q l t : List Int} (h : allfits p q (l ++ t) = true) : allfits p q l = true := by
  induction t generalizing l with
  | nil => simpa using h
  | cons x t ih =>
    have h2 : allfits p q ((l ++ [x]) ++ t) = true := by simpa using h
    have h3 := ih h2
    rw [allfits_snoc] at h3
    simp only [Bool.and_eq_true] at h3
    exact h3.1
theorem occF_filter (p q : List Int) : ∀ (k : Nat) (l : List Int), allfits p q l = true → occF p q k l = (ascF p.length k l).filter (allfits p q) := by
  intro k
  induction k with
  | zero => intro l h; simp [occF, ascF, h]
  | succ k ih =>
    intro l h
    show ((ways p.length l).filter fun x => fitsB p q (l ++ [x])).flatMap (fun x => occF p q k (l ++ [x])) = ((ways p.length l).flatMap fun x => ascF p.length k (l ++ [x])).filter (allfits p q)
    rw [List.filter_flatMap]
    generalize ways p.length l = W
    induction W with
    | nil => rfl
    | cons x W ihW =>
      rw [List.flatMap_cons, ← ihW]
      by_cases hf : fitsB p q (l ++ [x]) = true
      · rw [List.filter_cons_of_pos (by simpa using hf), List.flatMap_cons, ih (l ++ [x]) (by rw [allfits_snoc, h, hf]; rfl)]
      · rw [List.filter_cons_of_neg (by simpa using hf)]
        have : (ascF p.length k (l ++ [x])).filter (allfits p q) = [] := by
          rw [List.filter_eq_nil_iff]
          intro m hm ha
          obtain ⟨t, rfl, _⟩ := ascF_mem hm
          have h2 := allfits_prefix ha
          rw [allfits_snoc] at h2
          simp only [Bool.and_eq_true] at h2
          exact hf h2.2
        rw [this]
        rfl

theorem nodup_inj {l : List Int} (h : l.Nodup) {i j : Nat} (hi : i < l.length) (hj : j < l.length) (e : l[i] = l[j]) : i = j := by
  rw [List.nodup_iff_pairwise_ne] at h
  rcases Nat.lt_trichotomy i j with a | a | a
  · exact absurd e (List.pairwise_iff_getElem.1 h i j hi hj a)
  · exact a
  · exact absurd e.symm (List.pairwise_iff_getElem.1 h j i hj hi a)
theorem filter_len {L q : List Int} (P Q : Int → Bool) (hl : L.length = q.length) (h : ∀ j (h1 : j < L.length) (h2 : j < q.length), P L[j] = Q q[j]) : (L.filter P).length = (q.filter Q).length := by
  induction L generalizing q with
  | nil => cases q with
    | nil => rfl
    | cons a t => simp at hl
  | cons a t ih => cases q with
    | nil => simp at hl
    | cons b u =>
      have h0 := h 0 (by simp) (by simp)
      have h1 := ih (q := u) (by simpa using hl) (fun j h1 h2 => h (j + 1) (by simpa using h1) (by simpa using h2))
      simp only [List.getElem_cons_zero] at h0
      rw [List.filter_cons, List.filter_cons, h0]
      split <;> simp [h1]
theorem belowN_lt {L : List Int} {x y : Int} (hm : x ∈ L) (h : x < y) : belowN L x < belowN L y := by
  unfold belowN
  have h1 : ((L.filter fun z => decide (z < y)).filter fun z => decide (z < x)) = L.filter fun z => decide (z < x) := by
    rw [List.filter_filter]
    congr 1
    funext z
    by_cases hz : z < x
    · simp [hz, show z < y by omega]
    · simp [hz]
  rw [← h1]
  apply List.length_filter_lt_length_iff_exists.2
  exact ⟨x, List.mem_filter.2 ⟨hm, by simpa using h⟩, by simp⟩
theorem belowN_mono {L : List Int} {x y : Int} (h : x ≤ y) : belowN L x ≤ belowN L y := by
  unfold belowN
  have h1 : ((L.filter fun z => decide (z < y)).filter fun z => decide (z < x)) = L.filter fun z => decide (z < x) := by
    rw [List.filter_filter]
    congr 1
    funext z
    by_cases hz : z < x
    · simp [hz, show z < y by omega]
    · simp [hz]
  rw [← h1]
  exact List.length_filter_le _ _
theorem patL_lt {L : List Int} {i j : Nat} (hi : i < L.length) (hj : j < L.length) : ((patL L)[i]'(by rw [patL_length]; exact hi) < (patL L)[j]'(by rw [patL_length]; exact hj)) ↔ L[i] < L[j] := by
  simp only [patL, List.getElem_map]
  constructor
  · intro h
    rcases Int.lt_or_le L[i] L[j] with h1 | h1
    · exact h1
    · have := belowN_mono (L := L) h1
      omega
  · intro h
    have := belowN_lt (List.getElem_mem hi) h
    omega
/-- A list has a pattern where both rise and fall alike. -/
theorem patL_iff {L q : List Int} (hl : L.length = q.length) (hL : L.Nodup) (hq : permB q = true) :
    patL L = q ↔ ∀ i j (hi : i < L.length) (hj : j < L.length), i < j → (q[i]'(by omega) < q[j]'(by omega) ↔ L[i] < L[j]) := by
  obtain ⟨_, hr, hn⟩ := permB_true hq
  have hself := patL_self hn (m := q.length) hr rfl
  constructor
  · intro h i j hi hj hij
    subst h
    exact patL_lt hi hj
  · intro h
    rw [← hself]
    apply List.ext_getElem
    · rw [patL_length, patL_length, hl]
    · intro i h1 h2
      rw [patL_length] at h1 h2
      simp only [patL, List.getElem_map]
      have : belowN L L[i] = belowN q q[i] := by
        apply filter_len _ _ hl
        intro j h3 h4
        rw [decide_eq_decide]
        rcases Nat.lt_trichotomy j i with hlt | rfl | hgt
        · exact (h j i h3 h1 hlt).symm
        · constructor <;> intro hh <;> omega
        · have h5 := h i j h1 h3 hgt
          have e1 : L[i] ≠ L[j] := fun e => by have := nodup_inj hL _ _ e; omega
          have e2 : q[i] ≠ q[j] := fun e => by have := nodup_inj hn _ _ e; omega
          omega
      rw [this]
theorem nth_inj {p : List Int} (hp : p.Nodup) {x y : Int} (hx : 1 ≤ x ∧ x ≤ p.length) (hy : 1 ≤ y ∧ y ≤ p.length) (h : p[(x - 1).toNat]?.getD 0 = p[(y - 1).toNat]?.getD 0) : x = y := by
  have h1 : (x - 1).toNat < p.length := by omega
  have h2 : (y - 1).toNat < p.length := by omega
  rw [List.getElem?_eq_getElem h1, List.getElem?_eq_getElem h2] at h
  simp only [Option.getD_some] at h
  have := nodup_inj hp _ _ h
  omega
theorem atL_nodup {p l : List Int} (hp : p.Nodup) (hl : Asc p.length l) : (atL p l).Nodup := by
  unfold atL
  rw [List.nodup_iff_pairwise_ne, List.pairwise_map]
  have h := hl.2
  rw [List.nodup_iff_pairwise_ne] at h
  refine h.imp_of_mem fun {a b} ha hb hab e => hab ?_
  have h1 := hl.1 a ha
  have h2 := hl.1 b hb
  exact nth_inj hp ⟨h1.1, h1.2.1⟩ ⟨h2.1, h2.2.1⟩ e
theorem fitsB_iff {p q l : List Int} {n : Nat} (hl : l.length = n + 1) (hq : n < q.length) : fitsB p q l = true ↔ ∀ k (hk : k < n), (q[k] < q[n] ↔ (atL p l)[k]'(by rw [atL_length]; omega) < (atL p l)[n]'(by rw [atL_length]; omega)) := by
  unfold fitsB
  rw [List.all_eq_true]
  have hn : l.length - 1 = n := by omega
  rw [hn]
  constructor
  · intro h k hk
    have h1 := h k (List.mem_range.2 hk)
    rw [List.getElem?_eq_getElem (show k < q.length by omega), List.getElem?_eq_getElem hq, List.getElem?_eq_getElem (show k < (atL p l).length by rw [atL_length]; omega), List.getElem?_eq_getElem (show n < (atL p l).length by rw [atL_length]; omega)] at h1
    simpa using h1
  · intro h k hk
    have hk := List.mem_range.1 hk
    have h1 := h k hk
    rw [List.getElem?_eq_getElem (show k < q.length by omega), List.getElem?_eq_getElem hq, List.getElem?_eq_getElem (show k < (atL p l).length by rw [atL_length]; omega), List.getElem?_eq_getElem (show n < (atL p l).length by rw [atL_length]; omega)]
    simpa using h1
theorem allfits_iff {p q l : List Int} (hl : l.length = q.length) : allfits p q l = true ↔ ∀ i j (hi : i < l.length) (hj : j < l.length), i < j → (q[i]'(by omega) < q[j]'(by omega) ↔ (atL p l)[i]'(by rw [atL_length]; omega) < (atL p l)[j]'(by rw [atL_length]; omega)) := by
  unfold allfits
  rw [List.all_eq_true]
  have key : ∀ (j : Nat) (hj : j < l.length) (k : Nat) (hk : k < j + 1), (atL p (l.take (j + 1)))[k]'(by rw [atL_length, List.length_take]; omega) = (atL p l)[k]'(by rw [atL_length]; omega) := by
    intro j hj k hk
    simp [atL]
  constructor
  · intro h i j hi hj hij
    have h1 := (fitsB_iff (p := p) (q := q) (n := j) (by rw [List.length_take]; omega) (by omega)).1 (h j (List.mem_range.2 hj)) i hij
    rw [key j hj i (by omega), key j hj j (by omega)] at h1
    exact h1
  · intro h j hj
    have hj := List.mem_range.1 hj
    rw [fitsB_iff (n := j) (by rw [List.length_take]; omega) (by omega)]
    intro k hk
    rw [key j hj k (by omega), key j hj j (by omega)]
    exact h k j (by omega) hj hk
theorem allfits_pat {p q l : List Int} (hp : permB p = true) (hq : permB q = true) (hl : l ∈ ascI p.length q.length) : allfits p q l = decide (patL (atL p l) = q) := by
  obtain ⟨h1, h2⟩ := ascI_mem hl
  have hn := atL_nodup (permB_true hp).2.2 h2
  have hi := patL_iff (L := atL p l) (q := q) (by rw [atL_length, h1]) hn hq
  rw [Bool.eq_iff_iff, allfits_iff h1, decide_eq_true_eq, hi]
  constructor
  · intro h i j hi hj hij
    rw [atL_length] at hi hj
    exact h i j hi hj hij
  · intro h i j hi hj hij
    exact h i j (by rw [atL_length]; exact hi) (by rw [atL_length]; exact hj) hij
theorem occ_eq {p q : List Int} (hp : permB p = true) (hq : permB q = true) : occL p q = occI p q := by
  unfold occL occI
  rw [occF_filter p q q.length [] rfl, asc_fill]
  exact List.filter_congr fun l hl => allfits_pat hp hq hl
theorem occF_le (p q : List Int) : ∀ (k : Nat) (l : List Int), 1 ≤ fromI l → (occF p q k l).length ≤ p.length ^ k := by
  intro k
  induction k with
  | zero => intro l _; simp [occF]
  | succ k ih =>
    intro l hl
    have hm : ∀ x ∈ (ways p.length l).filter fun x => fitsB p q (l ++ [x]), (occF p q k (l ++ [x])).length ≤ p.length ^ k := fun x hx => by
      have := (ways_mem.1 (List.mem_filter.1 hx).1).1
      exact ih _ (by rw [fromI_snoc]; omega)
    have h := flatMap_le (fun x => occF p q k (l ++ [x])) (p.length ^ k) _ hm
    have h1 : ((ways p.length l).filter fun x => fitsB p q (l ++ [x])).length ≤ p.length := Nat.le_trans (List.length_filter_le _ _) (ways_le hl)
    have h2 := Nat.mul_le_mul_right (p.length ^ k) h1
    rw [Nat.pow_succ, Nat.mul_comm]
    exact Nat.le_trans h h2

/-- Does the pattern occur? -/
def hasB (p q : List Int) : Bool := !(occL p q).isEmpty
/-- Places counted from 0, as the program counts them. -/
def from0 (l : List Int) : Int := match l.getLast? with
  | none => 0
  | some x => x + 1
theorem from0_up (l : List Int) : fromI (l.map (· + 1)) = from0 l + 1 := by
  unfold fromI from0
  rw [List.getLast?_map]
  cases l.getLast? <;> rfl
def up (l : List Int) : List Int := l.map (· + 1)
def hasF (p q : List Int) : Nat → List Int → Bool
  | 0, _ => true
  | k + 1, l => (marks (from0 l) ((p.length : Int) - (k + 1) + 1 - from0 l).toNat).any fun i => fitsB p q (up (l ++ [i])) && hasF p q k (l ++ [i])
theorem occF_none (p q : List Int) : ∀ (k : Nat) (l : List Int), (p.length : Int) + 1 < fromI l + k → 1 ≤ k → occF p q k l = [] := by
  intro k
  induction k with
  | zero => intro l _ h; omega
  | succ k ih =>
    intro l h _
    show ((ways p.length l).filter fun x => fitsB p q (l ++ [x])).flatMap (fun x => occF p q k (l ++ [x])) = []
    rw [List.flatMap_eq_nil_iff]
    intro x hx
    obtain ⟨h1, h2⟩ := ways_mem.1 (List.mem_filter.1 hx).1
    rcases Nat.eq_zero_or_pos k with rfl | hk
    · exfalso; simp at h; omega
    · exact ih _ (by rw [fromI_snoc]; push_cast at h; omega) hk
theorem hasF_eq (p q : List Int) : ∀ (k : Nat) (l : List Int), hasF p q k l = !(occF p q k (up l)).isEmpty := by
  intro k
  induction k with
  | zero => intro l; simp [hasF, occF]
  | succ k ih =>
    intro l
    have hup : ∀ x, up l ++ [x + 1] = up (l ++ [x]) := fun x => by simp [up]
    rw [Bool.eq_iff_iff]
    constructor
    · intro h
      obtain ⟨i, hi, h1⟩ := List.any_eq_true.1 h
      simp only [Bool.and_eq_true] at h1
      rw [ih] at h1
      obtain ⟨m, hm, rfl⟩ := List.mem_map.1 hi
      have hm := List.mem_range.1 hm
      rw [Bool.not_eq_true', List.isEmpty_eq_false_iff] at h1 ⊢
      intro he
      have h2 : (from0 l + m + 1) ∈ (ways p.length (up l)).filter fun x => fitsB p q (up l ++ [x]) := by
        refine List.mem_filter.2 ⟨ways_mem.2 ?_, by rw [hup]; exact h1.1⟩
        rw [show fromI (up l) = from0 l + 1 from from0_up l]
        push_cast at hm
        omega
      have h3 := List.flatMap_eq_nil_iff.1 he _ h2
      rw [hup] at h3
      exact h1.2 h3
    · intro h
      rw [Bool.not_eq_true', List.isEmpty_eq_false_iff] at h
      have hne : ∃ x, x ∈ ((ways p.length (up l)).filter fun x => fitsB p q (up l ++ [x])) ∧ occF p q k (up l ++ [x]) ≠ [] := by
        apply Classical.byContradiction
        intro hno
        apply h
        show ((ways p.length (up l)).filter fun x => fitsB p q (up l ++ [x])).flatMap (fun x => occF p q k (up l ++ [x])) = []
        rw [List.flatMap_eq_nil_iff]
        intro x hx
        apply Classical.byContradiction
        intro hc
        exact hno ⟨x, hx, hc⟩
      obtain ⟨x, hx, hc⟩ := hne
      obtain ⟨hx1, hx2⟩ := List.mem_filter.1 hx
      obtain ⟨h1, h2⟩ := ways_mem.1 hx1
      rw [show fromI (up l) = from0 l + 1 from from0_up l] at h1
      obtain ⟨i, rfl⟩ : ∃ i, x = i + 1 := ⟨x - 1, by omega⟩
      rw [hup] at hx2 hc
      refine List.any_eq_true.2 ⟨i, List.mem_map.2 ⟨(i - from0 l).toNat, List.mem_range.2 ?_, by omega⟩, ?_⟩
      · rcases Nat.eq_zero_or_pos k with rfl | hk
        · simp; omega
        · have : ¬ ((p.length : Int) + 1 < fromI (up (l ++ [i])) + k) := fun h => hc (occF_none p q k _ h hk)
          rw [show fromI (up (l ++ [i])) = from0 (l ++ [i]) + 1 from from0_up _] at this
          have e : from0 (l ++ [i]) = i + 1 := by simp [from0]
          rw [e] at this
          push_cast
          omega
      · simp only [Bool.and_eq_true]
        rw [ih, Bool.not_eq_true', List.isEmpty_eq_false_iff]
        exact ⟨hx2, hc⟩
theorem hasF_all (p q : List Int) : hasF p q q.length [] = hasB p q := hasF_eq p q q.length []
end Go.Proofs.Ythipikllgpnlhaa
