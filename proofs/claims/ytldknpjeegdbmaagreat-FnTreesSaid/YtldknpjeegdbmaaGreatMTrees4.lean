/- Several texts in one, each with its own head: M4, OC, G3, Z2, D2, D3. No program of ours. -/
import Derived.Deep.AppendLies
import Derived.Deep.RegionHeld3
import Derived.Deep.RegionLaw
import Derived.Deep.CutRange
import Derived.Deep.DeepCutAuto
import Derived.Test.YtldknpjeegdbmaaGreatMTrees3
/- Plain maths: the permutations of a class, made by a last number, are as many as those that avoid its basis. -/
namespace Go.Proofs.YtldknpjeegdbmaaGreat
set_option maxRecDepth 100000

theorem nodup_sub_len {α : Type} [DecidableEq α] : ∀ (l m : List α), l.Nodup → (∀ x ∈ l, x ∈ m) → l.length ≤ m.length := by
  intro l
  induction l with
  | nil => intro m _ _; simp
  | cons a t ih =>
    intro m hn hs
    rw [List.nodup_cons] at hn
    have h1 := ih (m.erase a) hn.2 (fun x hx => by
      have hne : x ≠ a := fun e => hn.1 (e ▸ hx)
      exact (List.mem_erase_of_ne hne).2 (hs x (by simp [hx])))
    have h2 := List.length_erase_of_mem (hs a (by simp))
    have h3 : 0 < m.length := List.length_pos_of_mem (hs a (by simp))
    rw [List.length_cons]
    omega
theorem nodup_flat {α β : Type} (f : α → List β) (l : List α) (hl : l.Nodup) (h1 : ∀ a ∈ l, (f a).Nodup) (h2 : ∀ a ∈ l, ∀ b ∈ l, ∀ x, x ∈ f a → x ∈ f b → a = b) : (l.flatMap f).Nodup := by
  induction l with
  | nil => simp
  | cons a t ih =>
    rw [List.nodup_cons] at hl
    rw [List.flatMap_cons, List.nodup_append]
    refine ⟨h1 a (by simp), ih hl.2 (fun b hb => h1 b (by simp [hb])) (fun b hb c hc x => h2 b (by simp [hb]) c (by simp [hc]) x), fun x hx y hy e => ?_⟩
    subst e
    obtain ⟨b, hb, hxb⟩ := List.mem_flatMap.1 hy
    have := h2 a (by simp) b (by simp [hb]) x hx hxb
    subst this
    exact hl.1 hb
theorem nodup_map_inj {α β : Type} (f : α → β) (l : List α) (hl : l.Nodup) (h : ∀ a ∈ l, ∀ b ∈ l, f a = f b → a = b) : (l.map f).Nodup := by
  rw [List.nodup_iff_pairwise_ne, List.pairwise_map]
  rw [List.nodup_iff_pairwise_ne] at hl
  exact hl.imp_of_mem fun {a b} ha hb hab e => hab (h a ha b hb e)
theorem nums_nodup (n : Nat) : (nums n).Nodup := by
  unfold nums
  exact nodup_map_inj _ _ List.nodup_range fun a _ b _ h => by omega
theorem snoc_inj {p q : List Int} {x y : Int} (h : p ++ [x] = q ++ [y]) : p = q ∧ x = y := by
  have h1 := List.append_inj' h rfl
  exact ⟨h1.1, by simpa using h1.2⟩
theorem permsI_nodup (n i : Nat) : (permsI n i).Nodup := by
  induction i with
  | zero => simp [permsI]
  | succ i ih =>
    refine nodup_flat (ext1 n) _ ih (fun p _ => ?_) (fun p _ q _ x hx hy => ?_)
    · exact nodup_map_inj _ _ ((nums_nodup n).filter _) fun a _ b _ h => (snoc_inj h).2
    · obtain ⟨v, _, rfl⟩ := List.mem_map.1 hx
      obtain ⟨u, _, h⟩ := List.mem_map.1 hy
      exact (snoc_inj h).1.symm
theorem ascI_mono {n m : Nat} (h : n ≤ m) : ∀ {k : Nat} {l : List Int}, l ∈ ascI n k → l ∈ ascI m k := by
  intro k
  induction k with
  | zero => intro l hl; simpa [ascI] using hl
  | succ k ih =>
    intro l hl
    obtain ⟨q, hq, hx⟩ := List.mem_flatMap.1 hl
    obtain ⟨x, hxw, rfl⟩ := List.mem_map.1 hx
    have hw := ways_mem.1 hxw
    exact List.mem_flatMap.2 ⟨q, ih hq, List.mem_map.2 ⟨x, ways_mem.2 ⟨hw.1, by omega⟩, rfl⟩⟩
theorem atL_get {p l : List Int} {i : Nat} (hi : i < l.length) (h : 1 ≤ l[i] ∧ l[i] ≤ p.length) : (atL p l)[i]'(by rw [atL_length]; exact hi) = p[(l[i] - 1).toNat]'(by omega) := by
  unfold atL
  rw [List.getElem_map, List.getElem?_eq_getElem (by omega)]; rfl
/-- A head that rises and falls alike has no pattern that the whole lacks. -/
theorem has_mono {p q t : List Int} (hp : permB p = true) (hq : permB q = true) (ht : permB t = true) (hl : q.length ≤ p.length)
    (ho : ∀ i j (hi : i < q.length) (hj : j < q.length), q[i] < q[j] ↔ p[i]'(by omega) < p[j]'(by omega)) (h : hasB q t = true) : hasB p t = true := by
  unfold hasB at h ⊢
  rw [occ_eq hp ht]
  rw [occ_eq hq ht] at h
  rw [Bool.not_eq_true', List.isEmpty_eq_false_iff] at h ⊢
  obtain ⟨l, hm⟩ := List.exists_mem_of_ne_nil _ h
  obtain ⟨h1, h2⟩ := List.mem_filter.1 hm
  obtain ⟨h3, h4⟩ := ascI_mem h1
  have h5 := ascI_mono hl h1
  obtain ⟨_, h6⟩ := ascI_mem h5
  refine List.ne_nil_of_mem (a := l) (List.mem_filter.2 ⟨h5, ?_⟩)
  rw [decide_eq_true_eq] at h2 ⊢
  have e1 : (atL q l).length = t.length := by rw [atL_length, h3]
  have e2 : (atL p l).length = t.length := by rw [atL_length, h3]
  rw [patL_iff e1 (atL_nodup (permB_true hq).2.2 h4) ht] at h2
  rw [patL_iff e2 (atL_nodup (permB_true hp).2.2 h6) ht]
  intro i j hi hj hij
  rw [atL_length] at hi hj
  have k1 := h2 i j (by rw [atL_length]; exact hi) (by rw [atL_length]; exact hj) hij
  have bi := h4.1 l[i] (List.getElem_mem hi)
  have bj := h4.1 l[j] (List.getElem_mem hj)
  rw [atL_get hi ⟨bi.1, bi.2.1⟩, atL_get hj ⟨bj.1, bj.2.1⟩] at k1
  rw [atL_get hi ⟨bi.1, by omega⟩, atL_get hj ⟨bj.1, by omega⟩, k1]
  exact ho _ _ _ _
def bump (v x : Int) : Int := x + if x ≥ v then 1 else 0
def unbump (v x : Int) : Int := if x > v then x - 1 else x
/-- A number more at the end. -/
def child (q : List Int) (v : Int) : List Int := q.map (bump v) ++ [v]
def nextL (X ls : List (List Int)) (n : Nat) : List (List Int) := ls.flatMap fun q => ((nums n).map (child q)).filter (avoidB X)
def lastL (X : List (List Int)) : Nat → List (List Int)
  | 0 => [[]]
  | k + 1 => nextL X (lastL X k) (k + 1)
theorem bump_lt (v x y : Int) : bump v x < bump v y ↔ x < y := by unfold bump; split <;> split <;> omega
theorem bump_ne (v x : Int) : bump v x ≠ v := by unfold bump; split <;> omega
theorem bump_inj {v x y : Int} (h : bump v x = bump v y) : x = y := by unfold bump at h; split at h <;> split at h <;> omega
theorem bump_un {v x : Int} (h : x ≠ v) : bump v (unbump v x) = x := by
  unfold bump unbump
  split
  · rw [if_pos (by omega)]; omega
  · rw [if_neg (by omega)]; omega
theorem un_inj {v x y : Int} (hx : x ≠ v) (hy : y ≠ v) (h : unbump v x = unbump v y) : x = y := by rw [← bump_un hx, ← bump_un hy, h]
theorem perm_of_mem {n : Nat} {p : List Int} (h8 : n ≤ 8) : p ∈ permsL n ↔ permB p = true ∧ p.length = n := by
  constructor
  · exact permsL_perm h8
  · rintro ⟨h1, rfl⟩; exact permB_mem h1
theorem child_perm {q : List Int} {v : Int} (h : permB q = true) (h8 : q.length + 1 ≤ 8) (hv : 1 ≤ v ∧ v ≤ q.length + 1) : permB (child q v) = true := by
  obtain ⟨_, hr, hn⟩ := permB_true h
  have hlen : (child q v).length = q.length + 1 := by simp [child]
  simp only [permB, decide_eq_true_eq]
  refine ⟨by omega, fun x hx => ?_, ?_⟩
  · rw [hlen]
    unfold child at hx
    rcases List.mem_append.1 hx with hx | hx
    · obtain ⟨y, hy, rfl⟩ := List.mem_map.1 hx
      have := hr y hy
      unfold bump
      split <;> (push_cast; omega)
    · obtain rfl := List.mem_singleton.1 hx
      push_cast; omega
  · unfold child
    rw [nodup_snoc]
    refine ⟨nodup_map_inj _ _ hn fun a _ b _ e => bump_inj e, fun hm => ?_⟩
    obtain ⟨y, _, e⟩ := List.mem_map.1 hm
    exact bump_ne v y e
theorem avoid_nil {X : List (List Int)} (hB : basisB X = true) : avoidB X [] = true := by
  unfold avoidB
  rw [Bool.not_eq_true', List.any_eq_false]
  intro t ht
  have hne : t.length ≠ 0 := by
    unfold basisB at hB
    rw [Bool.and_eq_true] at hB
    obtain ⟨i, hi, rfl⟩ := List.mem_iff_getElem.1 ht
    have := List.all_eq_true.1 hB.2 i (List.mem_range.2 hi)
    unfold basAt at this
    rw [List.getElem?_eq_getElem hi] at this
    simp only [Option.getD_some, Bool.and_eq_true, decide_eq_true_eq] at this
    exact this.1.1.2
  unfold hasB occL
  rw [occF_none [] t t.length [] (by rw [fromI_nil]; simp; omega) (by omega)]
  simp
theorem lastL_mem {X : List (List Int)} (hB : basisB X = true) : ∀ (k : Nat), k ≤ 8 → ∀ p, p ∈ lastL X k ↔ p ∈ clsL X k := by
  intro k
  induction k with
  | zero =>
    intro _ p
    have h1 : clsL X 0 = [[]] := by
      unfold clsL
      rw [show permsL 0 = [[]] from rfl, List.filter_cons_of_pos (avoid_nil hB)]; rfl
    rw [h1]; rfl
  | succ k ih =>
    intro hk p
    have ih := ih (by omega)
    unfold clsL
    rw [List.mem_filter, perm_of_mem hk]
    constructor
    · intro h
      obtain ⟨q, hq, hp⟩ := List.mem_flatMap.1 h
      obtain ⟨hp, ha⟩ := List.mem_filter.1 hp
      obtain ⟨v, hv, rfl⟩ := List.mem_map.1 hp
      have hq1 := (ih q).1 hq
      unfold clsL at hq1
      rw [List.mem_filter, perm_of_mem (by omega)] at hq1
      have hv1 := nums_mem.1 hv
      exact ⟨⟨child_perm hq1.1.1 (by omega) (by rw [hq1.1.2]; push_cast at hv1; omega), by simp [child, hq1.1.2]⟩, ha⟩
    · rintro ⟨⟨hp, hl⟩, ha⟩
      have hne : p ≠ [] := by intro e; subst e; simp at hl
      obtain ⟨r, v, rfl⟩ : ∃ r v, p = r ++ [v] := ⟨p.dropLast, p.getLast hne, (List.dropLast_concat_getLast hne).symm⟩
      obtain ⟨_, hr, hn⟩ := permB_true hp
      have hrl : r.length = k := by simpa using hl
      obtain ⟨hn1, hn2⟩ := (nodup_snoc r v).1 hn
      have hv := hr v (by simp)
      have hrv : ∀ x ∈ r, x ≠ v := fun x hx e => hn2 (e ▸ hx)
      have hch : child (r.map (unbump v)) v = r ++ [v] := by
        unfold child
        rw [List.map_map]
        congr 1
        conv => rhs; rw [← List.map_id r]
        exact List.map_congr_left fun x hx => bump_un (hrv x hx)
      have hqp : permB (r.map (unbump v)) = true := by
        simp only [permB, decide_eq_true_eq]
        refine ⟨by rw [List.length_map]; omega, fun x hx => ?_, ?_⟩
        · obtain ⟨y, hy, rfl⟩ := List.mem_map.1 hx
          have h1 := hr y (by simp [hy])
          have h2 := hrv y hy
          rw [List.length_map]
          simp only [List.length_append, List.length_singleton] at h1 hv
          unfold unbump
          split <;> (push_cast at h1 hv ⊢; omega)
        · exact nodup_map_inj _ _ hn1 fun a ha b hb e => un_inj (hrv a ha) (hrv b hb) e
      have hqa : avoidB X (r.map (unbump v)) = true := by
        unfold avoidB at ha ⊢
        rw [Bool.not_eq_true', List.any_eq_false] at ha ⊢
        intro t ht hh
        refine ha t ht (has_mono hp hqp (basis_perm hB t ht) (by simp) (fun i j hi hj => ?_) hh)
        rw [List.length_map] at hi hj
        have e1 : (r ++ [v])[i]'(by simp; omega) = r[i] := by simp [hi]
        have e2 : (r ++ [v])[j]'(by simp; omega) = r[j] := by simp [hj]
        rw [e1, e2, List.getElem_map, List.getElem_map]
        conv => rhs; rw [← bump_un (hrv _ (List.getElem_mem hi)), ← bump_un (hrv _ (List.getElem_mem hj))]
        exact (bump_lt v _ _).symm
      have hqm : r.map (unbump v) ∈ lastL X k := (ih _).2 (by
        unfold clsL
        rw [List.mem_filter, perm_of_mem (by omega)]
        exact ⟨⟨hqp, by rw [List.length_map, hrl]⟩, hqa⟩)
      refine List.mem_flatMap.2 ⟨_, hqm, List.mem_filter.2 ⟨List.mem_map.2 ⟨v, nums_mem.2 ?_, hch⟩, ha⟩⟩
      rw [hl] at hv
      exact hv
theorem child_inj {q r : List Int} {u v : Int} (h : child q u = child r v) : q = r ∧ u = v := by
  obtain ⟨h1, rfl⟩ := snoc_inj h
  refine ⟨?_, rfl⟩
  have hl := congrArg List.length h1
  rw [List.length_map, List.length_map] at hl
  apply List.ext_getElem hl
  intro i hi hj
  have h2 : (q.map (bump u))[i]'(by rw [List.length_map]; exact hi) = (r.map (bump u))[i]'(by rw [List.length_map]; exact hj) := by simp only [h1]
  rw [List.getElem_map, List.getElem_map] at h2
  exact bump_inj h2
theorem lastL_nodup (X : List (List Int)) (k : Nat) : (lastL X k).Nodup := by
  induction k with
  | zero => simp [lastL]
  | succ k ih =>
    refine nodup_flat _ _ ih (fun q _ => ?_) (fun a _ b _ x hx hy => ?_)
    · exact (nodup_map_inj _ _ (nums_nodup _) fun u _ v _ h => (child_inj h).2).filter _
    · obtain ⟨u, _, e1⟩ := List.mem_map.1 (List.mem_filter.1 hx).1
      obtain ⟨v, _, e2⟩ := List.mem_map.1 (List.mem_filter.1 hy).1
      exact (child_inj (e1.trans e2.symm)).1
theorem lastL_len {X : List (List Int)} (hB : basisB X = true) {k : Nat} (hk : k ≤ 8) : (lastL X k).length = (clsL X k).length := by
  have h1 := nodup_sub_len (lastL X k) (clsL X k) (lastL_nodup X k) (fun x hx => (lastL_mem hB k hk x).1 hx)
  have h2 := nodup_sub_len (clsL X k) (lastL X k) ((permsI_nodup k k).filter _) (fun x hx => (lastL_mem hB k hk x).2 hx)
  omega
end Go.Proofs.YtldknpjeegdbmaaGreat

/- Plain maths of occurrences: places as a function, turned and composed. -/
namespace Go.Proofs.YtldknpjeegdbmaaGreat
set_option maxRecDepth 100000

/-- The number at a place that is counted from 1. -/
def at1 (p : List Int) (x : Int) : Int := p[(x - 1).toNat]?.getD 0
theorem atL_map (p l : List Int) : atL p l = l.map (at1 p) := rfl
theorem at1_get {p : List Int} {i : Nat} (h : i < p.length) : at1 p ((i : Int) + 1) = p[i] := by
  unfold at1
  rw [show ((i : Int) + 1 - 1).toNat = i by omega, List.getElem?_eq_getElem h]; rfl
theorem at1_nat {p : List Int} {x : Int} (h1 : 1 ≤ x) (h2 : x ≤ p.length) : ∃ i : Nat, ∃ h : i < p.length, x = (i : Int) + 1 ∧ at1 p x = p[i] :=
  ⟨(x - 1).toNat, by omega, by omega, by unfold at1; rw [List.getElem?_eq_getElem (by omega)]; rfl⟩
theorem at1_mem {p : List Int} {x : Int} (h1 : 1 ≤ x) (h2 : x ≤ p.length) : at1 p x ∈ p := by
  obtain ⟨i, h, _, e⟩ := at1_nat h1 h2
  rw [e]; exact List.getElem_mem h
theorem mem_at1 {p : List Int} {v : Int} (h : v ∈ p) : ∃ x : Int, 1 ≤ x ∧ x ≤ p.length ∧ at1 p x = v := by
  obtain ⟨i, hi, rfl⟩ := List.mem_iff_getElem.1 h
  exact ⟨(i : Int) + 1, by omega, by omega, at1_get hi⟩
theorem at1_ext {p q : List Int} (hl : p.length = q.length) (h : ∀ x : Int, 1 ≤ x → x ≤ p.length → at1 p x = at1 q x) : p = q := by
  apply List.ext_getElem hl
  intro i h1 h2
  have := h ((i : Int) + 1) (by omega) (by omega)
  rwa [at1_get h1, at1_get h2] at this
def ofF (m : Nat) (f : Int → Int) : List Int := (List.range m).map fun i : Nat => f ((i : Int) + 1)
theorem ofF_length (m : Nat) (f : Int → Int) : (ofF m f).length = m := by simp [ofF]
theorem at1_ofF {m : Nat} {f : Int → Int} {x : Int} (h1 : 1 ≤ x) (h2 : x ≤ m) : at1 (ofF m f) x = f x := by
  obtain ⟨i, h, e1, e2⟩ := at1_nat (p := ofF m f) h1 (by rw [ofF_length]; exact h2)
  rw [e2, e1]; simp [ofF]

/-- Rising. -/
def Inc (l : List Int) : Prop := ∀ i j : Int, 1 ≤ i → i < j → j ≤ l.length → at1 l i < at1 l j
def Rng (l : List Int) (n : Nat) : Prop := ∀ i : Int, 1 ≤ i → i ≤ l.length → 1 ≤ at1 l i ∧ at1 l i ≤ n
theorem Inc.lt {l : List Int} (h : Inc l) {i j : Int} (hi : 1 ≤ i ∧ i ≤ l.length) (hj : 1 ≤ j ∧ j ≤ l.length) : at1 l i < at1 l j ↔ i < j := by
  constructor
  · intro hlt
    rcases Int.lt_trichotomy i j with a | a | a
    · exact a
    · subst a; omega
    · have := h j i hj.1 a hi.2; omega
  · intro hlt; exact h i j hi.1 hlt hj.2
theorem inc_pair {l : List Int} : Inc l ↔ l.Pairwise (· < ·) := by
  rw [List.pairwise_iff_getElem]
  constructor
  · intro h i j hi hj hij
    have := h ((i : Int) + 1) ((j : Int) + 1) (by omega) (by omega) (by omega)
    rwa [at1_get hi, at1_get hj] at this
  · intro h i j hi hij hj
    obtain ⟨a, ha, e1, e2⟩ := at1_nat (p := l) hi (by omega)
    obtain ⟨b, hb, e3, e4⟩ := at1_nat (p := l) (x := j) (by omega) hj
    rw [e2, e4]
    exact h a b ha hb (by omega)
theorem rng_mem {l : List Int} {n : Nat} : Rng l n ↔ ∀ x ∈ l, 1 ≤ x ∧ x ≤ n := by
  constructor
  · intro h x hx
    obtain ⟨i, h1, h2, rfl⟩ := mem_at1 hx
    exact h i h1 h2
  · intro h i h1 h2
    exact h _ (at1_mem h1 h2)
theorem fromI_gt {l : List Int} (h : l.Pairwise (· < ·)) : ∀ x ∈ l, x < fromI l := by
  intro x hx
  have hne : l ≠ [] := by intro e; subst e; cases hx
  obtain ⟨r, v, rfl⟩ : ∃ r v, l = r ++ [v] := ⟨l.dropLast, l.getLast hne, (List.dropLast_concat_getLast hne).symm⟩
  rw [fromI_snoc]
  rw [List.pairwise_append] at h
  rcases List.mem_append.1 hx with hx | hx
  · have := h.2.2 x hx v (by simp); omega
  · obtain rfl := List.mem_singleton.1 hx; omega
theorem ascI_iff {n : Nat} : ∀ {k : Nat} {l : List Int}, l ∈ ascI n k ↔ l.length = k ∧ l.Pairwise (· < ·) ∧ ∀ x ∈ l, 1 ≤ x ∧ x ≤ n := by
  intro k
  induction k with
  | zero =>
    intro l
    constructor
    · intro h
      have : l = [] := by simpa [ascI] using h
      subst this
      exact ⟨rfl, List.Pairwise.nil, by simp⟩
    · rintro ⟨h, _, _⟩
      rw [List.eq_nil_of_length_eq_zero h]; simp [ascI]
  | succ k ih =>
    intro l
    constructor
    · intro h
      obtain ⟨m, hm, hl⟩ := List.mem_flatMap.1 h
      obtain ⟨x, hx, rfl⟩ := List.mem_map.1 hl
      obtain ⟨h1, h2, h3⟩ := ih.1 hm
      obtain ⟨hx1, hx2⟩ := ways_mem.1 hx
      have hf := (ascI_mem hm).2.from
      refine ⟨by simp [h1], ?_, fun y hy => ?_⟩
      · rw [List.pairwise_append]
        refine ⟨h2, List.pairwise_singleton _ _, fun a ha b hb => ?_⟩
        obtain rfl := List.mem_singleton.1 hb
        have := fromI_gt h2 a ha
        omega
      · rcases List.mem_append.1 hy with hy | hy
        · exact h3 y hy
        · obtain rfl := List.mem_singleton.1 hy
          omega
    · rintro ⟨h1, h2, h3⟩
      have hne : l ≠ [] := by intro e; subst e; simp at h1
      obtain ⟨r, v, rfl⟩ : ∃ r v, l = r ++ [v] := ⟨l.dropLast, l.getLast hne, (List.dropLast_concat_getLast hne).symm⟩
      rw [List.pairwise_append] at h2
      have hr : r ∈ ascI n k := ih.2 ⟨by simpa using h1, h2.1, fun x hx => h3 x (by simp [hx])⟩
      refine List.mem_flatMap.2 ⟨r, hr, List.mem_map.2 ⟨v, ways_mem.2 ⟨?_, (h3 v (by simp)).2⟩, rfl⟩⟩
      by_cases hr0 : r = []
      · subst hr0; rw [fromI_nil]; exact (h3 v (by simp)).1
      · obtain ⟨t, u, rfl⟩ : ∃ t u, r = t ++ [u] := ⟨r.dropLast, r.getLast hr0, (List.dropLast_concat_getLast hr0).symm⟩
        rw [fromI_snoc]
        have := h2.2.2 u (by simp) v (by simp)
        omega
theorem ascI_nodup (n k : Nat) : (ascI n k).Nodup := by
  induction k with
  | zero => simp [ascI]
  | succ k ih =>
    refine nodup_flat (asc1 n) _ ih (fun p _ => ?_) (fun p _ q _ x hx hy => ?_)
    · refine nodup_map_inj _ _ ?_ fun a _ b _ h => (snoc_inj h).2
      unfold ways marks
      exact nodup_map_inj _ _ List.nodup_range fun a _ b _ h => by omega
    · obtain ⟨v, _, rfl⟩ := List.mem_map.1 hx
      obtain ⟨u, _, h⟩ := List.mem_map.1 hy
      exact (snoc_inj h).1.symm
theorem occI_nodup (p q : List Int) : (occI p q).Nodup := (ascI_nodup _ _).filter _

/-! What a permutation is, by places. -/
theorem perm_rng {p : List Int} (h : permB p = true) {x : Int} (h1 : 1 ≤ x) (h2 : x ≤ p.length) : 1 ≤ at1 p x ∧ at1 p x ≤ p.length := (permB_true h).2.1 _ (at1_mem h1 h2)
theorem perm_inj {p : List Int} (h : permB p = true) {x y : Int} (hx : 1 ≤ x ∧ x ≤ p.length) (hy : 1 ≤ y ∧ y ≤ p.length) (e : at1 p x = at1 p y) : x = y := by
  obtain ⟨i, hi, e1, e2⟩ := at1_nat hx.1 hx.2
  obtain ⟨j, hj, e3, e4⟩ := at1_nat hy.1 hy.2
  rw [e2, e4] at e
  have := nodup_inj (permB_true h).2.2 hi hj e
  omega
theorem perm_onto {p : List Int} (h : permB p = true) {v : Int} (h1 : 1 ≤ v) (h2 : v ≤ p.length) : ∃ x : Int, 1 ≤ x ∧ x ≤ p.length ∧ at1 p x = v := by
  apply mem_at1
  apply Classical.byContradiction
  intro hv
  have hsub : ∀ y ∈ p, y ∈ (nums p.length).erase v := fun y hy => by
    have hne : y ≠ v := fun e => hv (e ▸ hy)
    exact (List.mem_erase_of_ne hne).2 (nums_mem.2 ((permB_true h).2.1 y hy))
  have h3 := nodup_sub_len p _ (permB_true h).2.2 hsub
  rw [List.length_erase_of_mem (nums_mem.2 ⟨h1, h2⟩), nums_length] at h3
  omega
theorem perm_of {p : List Int} (h8 : p.length ≤ 8) (hr : ∀ x : Int, 1 ≤ x → x ≤ p.length → 1 ≤ at1 p x ∧ at1 p x ≤ p.length) (hi : ∀ x y : Int, 1 ≤ x ∧ x ≤ p.length → 1 ≤ y ∧ y ≤ p.length → at1 p x = at1 p y → x = y) : permB p = true := by
  simp only [permB, decide_eq_true_eq]
  refine ⟨h8, fun v hv => ?_, ?_⟩
  · obtain ⟨x, h1, h2, rfl⟩ := mem_at1 hv
    exact hr x h1 h2
  · rw [List.nodup_iff_pairwise_ne, List.pairwise_iff_getElem]
    intro i j hi' hj' hij e
    have := hi ((i : Int) + 1) ((j : Int) + 1) (by omega) (by omega) (by rw [at1_get hi', at1_get hj', e])
    omega
/-- Places that hold a pattern. -/
structure Occ (p q l : List Int) : Prop where
  len : l.length = q.length
  inc : Inc l
  rng : Rng l p.length
  ord : ∀ i j : Int, 1 ≤ i ∧ i ≤ q.length → 1 ≤ j ∧ j ≤ q.length → (at1 q i < at1 q j ↔ at1 p (at1 l i) < at1 p (at1 l j))
theorem occ_iff {p q l : List Int} (hp : permB p = true) (hq : permB q = true) : l ∈ occI p q ↔ Occ p q l := by
  unfold occI
  rw [List.mem_filter, ascI_iff, decide_eq_true_eq]
  have key : ∀ (h1 : l.length = q.length) (h2 : l.Pairwise (· < ·)) (h3 : ∀ x ∈ l, 1 ≤ x ∧ x ≤ p.length), (patL (atL p l) = q ↔ ∀ i j (hi : i < (atL p l).length) (hj : j < (atL p l).length), i < j → (q[i]'(by rw [atL_length] at hi; omega) < q[j]'(by rw [atL_length] at hj; omega) ↔ (atL p l)[i] < (atL p l)[j])) := by
    intro h1 h2 h3
    have ha := (ascI_mem (ascI_iff.2 ⟨h1, h2, h3⟩)).2
    exact patL_iff (by rw [atL_length, h1]) (atL_nodup (permB_true hp).2.2 ha) hq
  have hat : ∀ i (hi : i < l.length), (atL p l)[i]'(by rw [atL_length]; exact hi) = at1 p (at1 l ((i : Int) + 1)) := by
    intro i hi
    rw [at1_get hi]
    simp [atL_map]
  constructor
  · rintro ⟨⟨h1, h2, h3⟩, h4⟩
    have hi := inc_pair.2 h2
    have hr := rng_mem.2 h3
    rw [key h1 h2 h3] at h4
    have h5 : ∀ i j : Int, 1 ≤ i → i < j → j ≤ q.length → (at1 q i < at1 q j ↔ at1 p (at1 l i) < at1 p (at1 l j)) := by
      intro i j h6 h7 h8
      obtain ⟨a, ha, e1, e2⟩ := at1_nat (p := q) h6 (by omega)
      obtain ⟨b, hb, e3, e4⟩ := at1_nat (p := q) (x := j) (by omega) h8
      have := h4 a b (by rw [atL_length]; omega) (by rw [atL_length]; omega) (by omega)
      rw [hat a (by omega), hat b (by omega), ← e1, ← e3, ← e2, ← e4] at this
      exact this
    refine ⟨h1, hi, hr, fun i j hi' hj' => ?_⟩
    rcases Int.lt_trichotomy i j with a | a | a
    · exact h5 i j hi'.1 a hj'.2
    · subst a; omega
    · have h6 := h5 j i hj'.1 a hi'.2
      have n1 : at1 q i ≠ at1 q j := fun e => by have := perm_inj hq hi' hj' e; omega
      have n2 : at1 p (at1 l i) ≠ at1 p (at1 l j) := fun e => by
        have := perm_inj hp (hr i hi'.1 (by omega)) (hr j hj'.1 (by omega)) e
        have := hi j i hj'.1 a (by omega)
        omega
      omega
  · intro h
    have h2 := inc_pair.1 h.inc
    have h3 := rng_mem.1 h.rng
    refine ⟨⟨h.len, h2, h3⟩, (key h.len h2 h3).2 fun i j hi hj hij => ?_⟩
    rw [atL_length] at hi hj
    have hl := h.len
    have := h.ord ((i : Int) + 1) ((j : Int) + 1) (by omega) (by omega)
    rw [at1_get (p := q) (by omega), at1_get (p := q) (by omega)] at this
    rw [hat i hi, hat j hj]
    exact this
/-- Two lists that go into one another are as long. -/
theorem len_of_inj {X Y : List (List Int)} (hX : X.Nodup) (hY : Y.Nodup) (f g : List Int → List Int) (hf : ∀ x ∈ X, f x ∈ Y) (hfi : ∀ x ∈ X, ∀ y ∈ X, f x = f y → x = y) (hg : ∀ y ∈ Y, g y ∈ X) (hgi : ∀ x ∈ Y, ∀ y ∈ Y, g x = g y → x = y) : X.length = Y.length := by
  have h1 := nodup_sub_len (X.map f) Y (nodup_map_inj f X hX hfi) (fun y hy => by obtain ⟨x, hx, rfl⟩ := List.mem_map.1 hy; exact hf x hx)
  have h2 := nodup_sub_len (Y.map g) X (nodup_map_inj g Y hY hgi) (fun y hy => by obtain ⟨x, hx, rfl⟩ := List.mem_map.1 hy; exact hg x hx)
  rw [List.length_map] at h1 h2
  omega
theorem has_iff {p q : List Int} (hp : permB p = true) (hq : permB q = true) : hasB p q = true ↔ ∃ l, Occ p q l := by
  unfold hasB
  rw [occ_eq hp hq, Bool.not_eq_true', List.isEmpty_eq_false_iff]
  constructor
  · intro h
    obtain ⟨l, hl⟩ := List.exists_mem_of_ne_nil _ h
    exact ⟨l, (occ_iff hp hq).1 hl⟩
  · rintro ⟨l, hl⟩
    exact List.ne_nil_of_mem ((occ_iff hp hq).2 hl)
theorem occ_self (p : List Int) : Occ p p (ofF p.length fun i => i) := by
  refine ⟨ofF_length _ _, fun i j h1 h2 h3 => ?_, fun i h1 h2 => ?_, fun i j hi hj => ?_⟩
  · rw [ofF_length] at h3
    rw [at1_ofF h1 (by omega), at1_ofF (by omega) h3]; exact h2
  · rw [ofF_length] at h2
    rw [at1_ofF h1 h2]; exact ⟨h1, h2⟩
  · rw [at1_ofF hi.1 hi.2, at1_ofF hj.1 hj.2]
theorem has_self {p : List Int} (hp : permB p = true) : hasB p p = true := (has_iff hp hp).2 ⟨_, occ_self p⟩
theorem occ_comp {p q r l m : List Int} (h : Occ p q l) (k : Occ q r m) : Occ p r (ofF r.length fun i => at1 l (at1 m i)) := by
  have hl := h.len
  have hm := k.len
  have hb : ∀ i : Int, 1 ≤ i ∧ i ≤ r.length → 1 ≤ at1 m i ∧ at1 m i ≤ q.length := fun i hi => k.rng i hi.1 (by omega)
  refine ⟨ofF_length _ _, fun i j h1 h2 h3 => ?_, fun i h1 h2 => ?_, fun i j hi hj => ?_⟩
  · rw [ofF_length] at h3
    rw [at1_ofF h1 (by omega), at1_ofF (by omega) h3]
    have a := hb i ⟨h1, by omega⟩
    have b := hb j ⟨by omega, h3⟩
    exact h.inc _ _ a.1 (k.inc i j h1 h2 (by omega)) (by omega)
  · rw [ofF_length] at h2
    rw [at1_ofF h1 h2]
    have a := hb i ⟨h1, h2⟩
    exact h.rng _ a.1 (by omega)
  · rw [at1_ofF hi.1 hi.2, at1_ofF hj.1 hj.2, k.ord i j hi hj]
    exact h.ord _ _ (hb i hi) (hb j hj)
theorem has_trans {p q r : List Int} (hp : permB p = true) (hq : permB q = true) (hr : permB r = true) (h : hasB p q = true) (k : hasB q r = true) : hasB p r = true := by
  obtain ⟨l, hl⟩ := (has_iff hp hq).1 h
  obtain ⟨m, hm⟩ := (has_iff hq hr).1 k
  exact (has_iff hp hr).2 ⟨_, occ_comp hl hm⟩

/-! From the end. -/
theorem at1_reverse {p : List Int} {x : Int} (h1 : 1 ≤ x) (h2 : x ≤ p.length) : at1 p.reverse x = at1 p ((p.length : Int) + 1 - x) := by
  obtain ⟨i, h, e1, e2⟩ := at1_nat (p := p.reverse) h1 (by rw [List.length_reverse]; exact h2)
  rw [List.length_reverse] at h
  rw [e2, List.getElem_reverse, show (p.length : Int) + 1 - x = ((p.length - 1 - i : Nat) : Int) + 1 by omega, at1_get]
theorem perm_reverse {p : List Int} (h : permB p = true) : permB p.reverse = true := by
  have h8 := (permB_true h).1
  refine perm_of (by rw [List.length_reverse]; exact h8) (fun x h1 h2 => ?_) (fun x y hx hy e => ?_)
  · rw [List.length_reverse] at h2 ⊢
    rw [at1_reverse h1 h2]
    exact perm_rng h (by omega) (by omega)
  · rw [List.length_reverse] at hx hy
    rw [at1_reverse hx.1 hx.2, at1_reverse hy.1 hy.2] at e
    have := perm_inj h (by omega) (by omega) e
    omega
/-- The places, told from the end. -/
def revPl (n m : Nat) (l : List Int) : List Int := ofF m fun i => (n : Int) + 1 - at1 l ((m : Int) + 1 - i)
theorem occ_reverse {p q l : List Int} (h : Occ p q l) : Occ p.reverse q.reverse (revPl p.length q.length l) := by
  have hl := h.len
  refine ⟨by rw [revPl, ofF_length, List.length_reverse], fun i j h1 h2 h3 => ?_, fun i h1 h2 => ?_, fun i j hi hj => ?_⟩
  · rw [revPl, ofF_length] at h3
    unfold revPl
    rw [at1_ofF h1 (by omega), at1_ofF (by omega) h3]
    have := h.inc ((q.length : Int) + 1 - j) ((q.length : Int) + 1 - i) (by omega) (by omega) (by omega)
    omega
  · rw [revPl, ofF_length] at h2
    unfold revPl
    rw [at1_ofF h1 h2, List.length_reverse]
    have := h.rng ((q.length : Int) + 1 - i) (by omega) (by omega)
    omega
  · rw [List.length_reverse] at hi hj
    unfold revPl
    rw [at1_ofF hi.1 hi.2, at1_ofF hj.1 hj.2, at1_reverse hi.1 hi.2, at1_reverse hj.1 hj.2]
    have a := h.rng ((q.length : Int) + 1 - i) (by omega) (by omega)
    have b := h.rng ((q.length : Int) + 1 - j) (by omega) (by omega)
    rw [at1_reverse (by omega) (by omega), at1_reverse (by omega) (by omega)]
    rw [show (p.length : Int) + 1 - ((p.length : Int) + 1 - at1 l ((q.length : Int) + 1 - i)) = at1 l ((q.length : Int) + 1 - i) by omega]
    rw [show (p.length : Int) + 1 - ((p.length : Int) + 1 - at1 l ((q.length : Int) + 1 - j)) = at1 l ((q.length : Int) + 1 - j) by omega]
    exact h.ord _ _ (by omega) (by omega)
theorem revPl_inj {n m : Nat} {l k : List Int} (hl : l.length = m) (hk : k.length = m) (e : revPl n m l = revPl n m k) : l = k := by
  apply at1_ext (by omega)
  intro x h1 h2
  have := congrArg (fun t => at1 t ((m : Int) + 1 - x)) e
  simp only [revPl] at this
  rw [at1_ofF (by omega) (by omega), at1_ofF (by omega) (by omega), show (m : Int) + 1 - ((m : Int) + 1 - x) = x by omega] at this
  omega
theorem occ_count_reverse {p q : List Int} (hp : permB p = true) (hq : permB q = true) : (occI p.reverse q.reverse).length = (occI p q).length := by
  have hp' := perm_reverse hp
  have hq' := perm_reverse hq
  refine len_of_inj (occI_nodup _ _) (occI_nodup _ _) (revPl p.length q.length) (revPl p.length q.length) (fun l hl => ?_) (fun l hl k hk e => ?_) (fun l hl => ?_) (fun l hl k hk e => ?_)
  · have h := occ_reverse ((occ_iff hp' hq').1 hl)
    rw [List.reverse_reverse, List.reverse_reverse, List.length_reverse, List.length_reverse] at h
    exact (occ_iff hp hq).2 h
  · have h1 := ((occ_iff hp' hq').1 hl).len
    have h2 := ((occ_iff hp' hq').1 hk).len
    rw [List.length_reverse] at h1 h2
    exact revPl_inj h1 h2 e
  · exact (occ_iff hp' hq').2 (occ_reverse ((occ_iff hp hq).1 hl))
  · exact revPl_inj ((occ_iff hp hq).1 hl).len ((occ_iff hp hq).1 hk).len e
end Go.Proofs.YtldknpjeegdbmaaGreat

/- IsWithin, program and reference. -/
namespace Go.Proofs.YtldknpjeegdbmaaGreat
set_option maxRecDepth 100000
open Go Go.RowKit

def allPermB (X : List (List Int)) : Bool := !X.any fun p => !permB p
set_option maxHeartbeats 1000000 in
theorem l3All_b (A : Option Addr) (c : Nat) (rs : List Row) (w : World) (b : Bool) (h : InL w A c rs) (hb : allPermB (rs.map Row.xs) = b) :
    Calls Tryz.prog 51 #[.slice A rs.length c] w (Rb w (.bool b)) := by
  have HB := Lib.hid (show (!(rs.any fun r : Row => !permB r.xs)) = b by rw [any_rows rs (fun p => !permB p), ← hb]; rfl)
  have hlen := h.len
  clear hb
  go_enter Tryz.func51, Tryz.ntmps51
  go_wp2_with fail
  go_loopw [3] (fun i wr => ∃ k : Nat, k ≤ rs.length ∧ i = .int .i64 k ∧ Hid ((rs.take k).any (fun r : Row => !permB r.xs) = false) ∧ Below w.heap.size w wr) (fun i _ => rs.length - (intOf i).toNat)
  case atStart => exact ⟨0, Nat.zero_le _, rfl, Lib.hid rfl, Below.refl _ _⟩
  case round =>
    obtain ⟨k, hk, rfl, HN, hb⟩ := hrel
    rcases Nat.lt_or_ge k rs.length with hlt | hge
    · obtain ⟨b', off, rfl, _, hc⟩ := (h.next hb).read.at (by omega)
      have c1 := hc k hlt
      have hin := (h.next hb).row (List.getElem_mem hlt)
      clear hc
      go_wp2_with fail
      by_cases hh : permB rs[k].xs = true
      · have HT := Lib.hid (show (rs.take (k + 1)).any (fun r : Row => !permB r.xs) = false from any_take_false HN.out hlt (by rw [hh]; rfl))
        (with_reducible refine (isPerm_sb rs[k].A rs[k].c rs[k].xs wr true hin hh).mono ?_)
        rintro e w1 ⟨rfl, hd1⟩
        clear hh
        go_wp2_with fail
        go_roundw
        case rel => exact ⟨k + 1, by omega, by go_num, HT, below_dr hb hd1⟩
        case measure => simp [intOf]; omega
      · have hhf : permB rs[k].xs = false := by simpa using hh
        have HT := Lib.hid (show (rs.any fun r : Row => !permB r.xs) = true from any_at hlt (by rw [hhf]; rfl))
        (with_reducible refine (isPerm_sb rs[k].A rs[k].c rs[k].xs wr false hin hhf).mono ?_)
        rintro e w1 ⟨rfl, hd1⟩
        clear hh hhf
        go_wp2_with fail
        go_ret
        exact ⟨ret_bool (by rw [← HB.out, HT.out]; rfl), below_dr hb hd1⟩
    · have HT := Lib.hid (show (rs.any fun r : Row => !permB r.xs) = false by have := HN.out; rwa [List.take_of_length_le hge] at this)
      go_wp2_with fail
      go_ret
      exact ⟨ret_bool (by rw [← HB.out, HT.out]; rfl), hb⟩

def withinB (X Y : List (List Int)) : Bool := basisB X && basisB Y && !Y.any fun p => avoidB X p
end Go.Proofs.YtldknpjeegdbmaaGreat

/- Copies and ordered lists of rows: l2Copy, l3Put, slices.Clone of a list of rows. -/
namespace Go.Proofs.YtldknpjeegdbmaaGreat
set_option maxRecDepth 100000
open Go Go.RowKit

/-- append of a list that is read, at a step of a region that draws its order. -/
theorem step_append_rd {P : Program} {α : Type} {f : α → Value} (w : World) {ops : Array Oper} {o : Oper} {a : Act} {K : Act → World → Prop} {Q : Exit → Act → World → Prop} {E : Prop} (hgd : o.guard = none) (s x : Operand) (t : TypeId)
    (ho : o.op = .call { callee := .builtin .append, args := #[s, x], argTypes := #[t, t] })
    (base : Nat) (e : TypeId) (i : TypeInfo) (z : Value) (bytes : Nat) (ht : P.underlying t = some (.slice e)) (hi : P.info? e = some i) (hz : i.zero = some z)
    (hsize : i.size = 1) (hby : i.bytes = bytes) (hzs : z.cells.size = 1)
    (v : Value) (n : Nat) (xs : List Value) (hs : a.eval s = v) (hown : w.ownsRow base e 1 v n xs)
    (B : Nat) (A : Option Addr) (c m : Nat) (ys : List α) (hx : a.eval x = .slice A m c) (hm : ys.length = m) (hr : Rd f w B A ys) (h1 : ∀ y, (f y).oneCell' = true)
    (h63 : n + m ≤ maxLen) (hbytes : (n + m) * bytes ≤ 140737488355328) (hbase : base ≤ w.heap.size)
    (h : ∀ v' w', w'.ownsRow base e 1 v' (n + m) (xs ++ ys.map f) → w.grownBy w' v.ownBlock → K (a.put o.dst v') w') :
    if Region.wanted o (yielded ops a.tmps) = true then Oper.wp P o a w K Q else E := by
  have hw : Region.wanted o (yielded ops a.tmps) = true := by simp [Region.wanted, hgd]
  rw [if_pos hw]
  obtain ⟨v', w', hr2, h2, h3⟩ := run_append_rd (P := P) w base t o.type e i z bytes ht hi hz hsize hby hzs v n xs hown B A c m ys hm hr h1 h63 hbytes hbase
  unfold Oper.wp execOp
  simp only [ho, resolve, invoke, builtin, Sem.run_bind, Sem.run_pure, Result.andThen_ok, List.map_toArray, List.map_cons, List.map_nil, hs, hx, hr2]
  exact h v' w' h2 h3

theorem obj_newH {w : World} {o : Obj} {H : Nat} (h : w.heap.size = H) : (w.alloc o).heap[H]? = some o := by subst h; exact obj_new w o
theorem obj_belowS {w w' : World} {g : Nat} {o : Obj} (h : w.heap[g]? = some o) (hb : Below w.heap.size w w') : w'.heap[g]? = some o := obj_below h hb (obj_lt h)
/-- A block of another type than what was appended to. -/
theorem obj_grownT {w w' : World} {G base e n : Nat} {cs : Array Value} {t : TypeId} {v : Value} {vs : List Value} (h : w.heap[G]? = some (.cells cs t (0, 0))) (hown : w.ownsRow base e 1 v n vs) (hne : t ≠ e) (hg : w.grownBy w' v.ownBlock) : w'.heap[G]? = some (.cells cs t (0, 0)) := by
  refine (hg.block G (obj_lt h) (fun he => ?_)).trans h
  rcases hown.2 with ⟨rfl, _⟩ | ⟨q, cap, cur, rfl, _, hh, _⟩
  · cases he
  · injection he with he
    subst he
    rw [h] at hh
    injection hh with hh
    injection hh with _ ht _
    exact hne ht
/-- step_append_lies, what was owned handed on. -/
theorem step_append_liesX {P : Program} (w : World) {ops : Array Oper} {o : Oper} {a : Act} {K : Act → World → Prop} {Q : Exit → Act → World → Prop} {E : Prop} (hgd : o.guard = none) (s x : Operand) (t : TypeId)
    (ho : o.op = .call { callee := .builtin .append, args := #[s, x], argTypes := #[t, t] })
    (base : Nat) (e : TypeId) (i : TypeInfo) (z : Value) (size bytes : Nat) (ht : P.underlying t = some (.slice e)) (hi : P.info? e = some i) (hz : i.zero = some z)
    (hsize : i.size = size) (hby : i.bytes = bytes) (hzs : z.cells.size = size) (hsz : 0 < size)
    (v : Value) (n : Nat) (xs : List Value) (hs : a.eval s = v) (hown : w.ownsRow base e size v n xs)
    (ad : Addr) (m c : Nat) (news : List Value) (hx : a.eval x = .slice (some ad) m c) (hl : news.length = m * size) (hnews : ∀ j u, news[j]? = some u → w.cell? (ad.add j) = some u) (h1 : ∀ u ∈ news, u.oneCell' = true)
    (hm : 0 < m) (h63 : n + m ≤ maxLen) (hbytes : (n + m) * bytes ≤ 140737488355328) (hbase : base ≤ w.heap.size) (H : Nat) (hH : w.heap.size = H)
    (h : ∀ g cap w', w.ownsRow base e size v n xs → w'.ownsRow base e size (.slice (some ⟨g, 0, none⟩) (n + m) cap) (n + m) (xs ++ news) → w.grownBy w' v.ownBlock → (v.ownBlock = some g ∨ g = H) → g < w'.heap.size → K (a.put o.dst (.slice (some ⟨g, 0, none⟩) (n + m) cap)) w') :
    if Region.wanted o (yielded ops a.tmps) = true then Oper.wp P o a w K Q else E :=
  step_append_lies w hgd s x t ho base e i z size bytes ht hi hz hsize hby hzs hsz v n xs hs hown ad m c news hx hl hnews h1 hm h63 hbytes hbase H hH fun g cap w' => h g cap w' hown
theorem rowfact {V w4 : World} {b e1 n4 bl base e n : Nat} {v4 v : Value} {vs vs' : List Value} {cs : Array Value} {t : TypeId} (_ : w4.ownsRow b e1 1 v4 n4 (vs ++ [Value.slice (some ⟨bl, 0, none⟩) 2 2])) (hg : V.grownBy w4 v.ownBlock) (hown : V.ownsRow base e 1 v n vs') (hne : t ≠ e)
    (h : V.heap[bl]? = some (.cells cs t (0, 0))) : w4.heap[bl]? = some (.cells cs t (0, 0)) := obj_grownT h hown hne hg
theorem own_take {w : World} {base e n c k : Nat} {A : Option Addr} {vs : List Value} (h : w.ownsRow base e 1 (.slice A n c) n vs) (hk : k ≤ n) : w.ownsRow base e 1 (.slice A k c) k (vs.take k) := by
  have hl := own_len h
  refine ⟨by rw [List.length_take]; omega, ?_⟩
  rcases h.2 with ⟨hv, h0⟩ | ⟨g, cap, cur, hv, hb, hg, hnc, hcm, hcs, ht⟩
  · injection hv with h1 h2 h3
    subst h1 h3
    exact .inl ⟨by rw [show k = 0 by omega], by omega⟩
  · injection hv with h1 h2 h3
    subst h1 h3
    refine .inr ⟨g, c, cur, rfl, hb, hg, by omega, hcm, hcs, ?_⟩
    rw [← ht, Nat.mul_one, Nat.mul_one, List.take_take, Nat.min_eq_left hk]
theorem Own.kept {w w' : World} {lo hi n : Nat} {rs : List Row} {A : Option Addr} {c : Nat} {vs : List Value} (h : Own w lo hi rs [⟨A, c, vs⟩]) (hh : hi ≤ w.heap.size) (hn : vs.length = n) (hg : w.grownBy w' (Value.slice A n c).ownBlock) :
    Own w' lo w'.heap.size rs [] := by
  subst hn
  have hsz := hg.size
  exact ⟨fun r hr => (h.rows r hr).kept hg (by
      rcases hv : r.v.ownBlock with _ | g
      · exact .inl rfl
      · exact .inr fun e => own_ne h hr (List.mem_singleton.2 rfl) g hv e.symm), fun r hr g hg => by have := h.lt r hr g hg; omega, h.apart, fun _ ho => (List.not_mem_nil ho).elim, fun _ ho => (List.not_mem_nil ho).elim⟩
theorem ownBlock_len (A : Option Addr) (n m c c' : Nat) : (Value.slice A n c).ownBlock = (Value.slice A m c').ownBlock := by cases A <;> rfl

theorem below_grown {w w' : World} {row : Option Nat} (h : Below w.heap.size w w') : w.grownBy w' row := ⟨h.os, h.tape, h.output, h.size, fun k hk _ => h.block k hk⟩
theorem grown_then {w w' w'' : World} {row : Option Nat} {g H : Nat} (h : w.grownBy w' row) (k : w'.grownBy w'' (some g)) (hat : row = some g ∨ g = H) (hH : w.heap.size ≤ H) : w.grownBy w'' row :=
  ⟨k.os.trans h.os, k.tape.trans h.tape, k.output.trans h.output, Nat.le_trans h.size k.size, fun i hi hr => (k.block i (Nat.lt_of_lt_of_le hi h.size) (by
    rcases hat with e | e
    · rw [← e]; exact hr
    · intro he; injection he with he; omega)).trans (h.block i hi hr)⟩
theorem sizeL (w : World) : (sizeOf (Tryz.prog.elem 26)).run Tryz.prog w = .ok 1 w := by kernel_rfl
/-- A call's result: a list of rows of the call's own, the list that it was handed grown. -/
def RetP (w : World) (lo : Nat) (A : Option Addr) (L : List (List Int)) (e : Ending) (w' : World) : Prop :=
  ∃ A' c' rs, e = .returned (.slice A' rs.length c') ∧ rs.map Row.xs = L ∧ Own w' lo w'.heap.size rs [⟨A', c', rs.map Row.v⟩] ∧ w.grownBy w' (Value.slice A 0 0).ownBlock

set_option maxHeartbeats 2000000 in
theorem l2Copy_any (A : Option Addr) (c : Nat) (rs : List Row) (w : World) (h : InL w A c rs) :
    Calls Tryz.prog 32 #[.slice A rs.length c] w (RetL w (rs.map Row.xs)) := by
  obtain ⟨i0, hi, hz0, hz1, hz2⟩ := info_parts infoI
  obtain ⟨j0, hj, hy0, hy1, hy2⟩ := info_parts infoL
  have hlen := h.len
  have hlit := Own.lit (lo := w.heap.size) w (Nat.le_refl _)
  have hb0 := (Below.refl w.heap.size w).alloc (Nat.le_refl _) (.cells #[] 24)
  go_enter Tryz.func32, Tryz.ntmps32
  go_wp2_with fail
  go_loopw [3, 4] (fun v i wr => ∃ (k : Nat) (A1 : Option Addr) (c1 : Nat) (ds : List Row), k ≤ rs.length ∧ i = .int .i64 k ∧ v = .slice A1 ds.length c1 ∧ Hid (ds.map Row.xs = (rs.map Row.xs).take k) ∧ Own wr w.heap.size wr.heap.size ds [⟨A1, c1, ds.map Row.v⟩] ∧ Below w.heap.size w wr) (fun _ i _ => rs.length - (intOf i).toNat)
  case atStart => exact ⟨0, _, _, [], Nat.zero_le _, rfl, rfl, Lib.hid rfl, hlit, hb0⟩
  case round =>
    clear hlit hb0
    obtain ⟨k, A1, c1, ds, hk, rfl, rfl, HX, hO, hb⟩ := hrel
    have hdl : ds.length = k := by have := congrArg List.length HX.out; simp at this; omega
    rcases Nat.lt_or_ge k rs.length with hlt | hge
    · obtain ⟨b, off, rfl, _, hc⟩ := (h.next hb).read.at (by omega)
      have c1' := hc k hlt
      have hin := (h.next hb).row (List.getElem_mem hlt)
      have hrl := hin.len
      have hsz := hb.size
      have HD := Lib.hid hdl
      have hkd : ds.length ≤ 1048576 := by omega
      have HT := Lib.hid (show (rs.map Row.xs).take (k + 1) = (rs.map Row.xs).take k ++ [rs[k].xs] by rw [List.take_succ_eq_append_getElem (by simpa using hlt)]; simp)
      have own0 : (wr.alloc (.cells #[] 3)).ownsRow wr.heap.size 3 1 (.slice (some ⟨wr.heap.size, 0, none⟩) 0 0) 0 [] := World.ownsRow_lit wr #[] 0 (Nat.le_refl _) (by unfold maxLen; omega) rfl
      have hx0 := hin.rd.alloc (Nat.le_refl _) (.cells #[] 3)
      have hbA := (Below.refl wr.heap.size wr).alloc (Nat.le_refl _) (.cells #[] 3)
      clear hc hdl
      go_wp2_with (first
        | ((at_builtin; refine wpList_append_rd _ rfl _ _ 24 rfl (wr.heap.size) 3 i0 (.int .i64 0) 8 Tryz.underlying24 hi hz0 hz1 hz2 rfl _ _ _ rfl own0 _ _ _ _ (rs[k].xs) rfl rfl hx0 (fun _ => rfl) (by unfold maxLen; omega) (by omega) (by first | omega | (simp; done) | (simp; omega)) ?_; intro v1 w1 hown1 hgrow1)
           simp only [Nat.zero_add, List.nil_append] at hown1
           obtain ⟨A3, c3, rfl, _, _⟩ := own_shape hown1
           have hbB := hbA.grown hgrow1 (by simp) (fun g hg => (own0.lt g hg).1)
           have hszB := hbB.size
           have hO2 := (hO.below hbB).add (r := ⟨A3, c3, rs[k].xs⟩) hown1 hszB hb.size
           have ho2 := hO2.outN (n := ds.length) (by simp)
           clear hown1 hgrow1 hx0 own0 hbA)
        | (at_builtin; refine wpList_append_own _ rfl _ _ 26 rfl (w.heap.size) 24 j0 (.slice none 0 0) 1 24 Tryz.underlying26 hj hy0 hy1 hy2 rfl (by decide) _ _ _ rfl (World.ownsRow.alloc ho2 _) ⟨w1.heap.size, 0, none⟩ 1 1 [Value.slice A3 rs[k].xs.length c3] rfl rfl (cell_one_at _ _ (by simp)) (by intro u hu; simp at hu; subst hu; rfl) (by unfold maxLen; omega) (by omega) (by simp; omega) ?_; intro v9 w9 hown9 hgrow9 _))
      obtain ⟨A5, c5, rfl, hO3, hg3⟩ := hO2.grow (Nat.le_refl _) (by simp) hown9 hgrow9
      have hbw := (hb.trans (hbB.mono hb.size)).grown hg3 (by have := hb.size; omega) (fun g hg => (hO2.olim (by simp) g hg).1)
      have K := Lib.hid (And.intro hO3 hbw)
      clear hO3 hbw hown9 hgrow9 hg3 hO2 ho2 hbB hO hb
      go_wp2_with fail
      go_roundw
      case rel => exact ⟨k + 1, A5, c5, ds ++ [⟨A3, c3, rs[k].xs⟩], by omega, by go_num, by rw [List.length_append]; rfl, Lib.hid (by rw [HT.out, List.map_append, HX.out]; rfl), by simpa [Row.v] using K.out.1, K.out.2⟩
      case measure => simp [intOf]; omega
    · obtain rfl : k = rs.length := by omega
      have HT := Lib.hid (show (rs.map Row.xs).take rs.length = rs.map Row.xs from List.take_of_length_le (by simp))
      go_wp2_with fail
      go_ret
      exact ⟨A1, c1, ds, rfl, by rw [HX.out, HT.out], hO, hb⟩
theorem rd_rows {w : World} {B : Nat} {A : Option Addr} {rs : List Row} (h : Rd id w B A (rs.map Row.v)) : Rd Row.v w B A rs := fun h0 => by
  obtain ⟨b, off, e, hb, hc⟩ := h (by simpa using h0)
  exact ⟨b, off, e, hb, fun j hj => by rw [hc j (by simpa using hj)]; simp⟩
theorem read_rows {w : World} {B : Nat} {A : Option Addr} {c : Nat} {rs : List Row} (h : Read w B rs [⟨A, c, rs.map Row.v⟩]) : Rd Row.v w B A rs := rd_rows (h.ord _ (List.mem_singleton.2 rfl))
theorem l2Before_b2 (A A' : Option Addr) (c c' n m : Nat) (xs ys : List Int) (w : World) (b : Bool) (hn : xs.length = n) (hm : ys.length = m) (hl : n ≤ 4611686018427387904) (hl' : m ≤ 4611686018427387904)
    (hx : Rd (Value.int .i64) w w.heap.size A xs) (hy : Rd (Value.int .i64) w w.heap.size A' ys) (hb : before xs ys = b) :
    Calls Tryz.prog 102 #[.slice A n c, .slice A' m c'] w (Rq w (.bool b)) := by
  subst hb; exact l2Before_any A A' c c' n m xs ys w hn hm hl hl' hx hy
set_option maxHeartbeats 4000000 in
theorem l3Put_any (A B : Option Addr) (c d lo : Nat) (rs : List Row) (p : List Int) (w : World) (hO : Own w lo w.heap.size rs [⟨A, c, rs.map Row.v⟩]) (hlo : lo ≤ w.heap.size) (hp : In w B d p)
    (hn : rs.length ≤ 1048576) (hr8 : ∀ r ∈ rs, r.xs.length ≤ 1048576) :
    Calls Tryz.prog 77 #[.slice A rs.length c, .slice B p.length d] w (RetP w lo A (putL (rs.map Row.xs) p)) := by
  obtain ⟨i0, hi, hz0, hz1, hz2⟩ := info_parts infoI
  obtain ⟨j0, hj, hy0, hy1, hy2⟩ := info_parts infoL
  have hpl := hp.len
  have hcap := (own_caps hO.out).1
  rw [List.length_map] at hcap
  have HR8 := Lib.hid hr8
  have HO := Lib.hid hO
  have HLO := Lib.hid hlo
  have hRd := hO.read
  clear hr8 hO hlo
  go_enter Tryz.func77, Tryz.ntmps77
  go_wp2_with fail
  go_loopw [5] (fun i wr => ∃ k : Nat, k ≤ rs.length ∧ i = .int .i64 k ∧ Hid (putAt (rs.map Row.xs) p rs.length = putAt (rs.map Row.xs) p k) ∧ Dr w wr) (fun i _ => (intOf i).toNat)
  case atStart => exact ⟨rs.length, Nat.le_refl _, rfl, Lib.hid rfl, Dr.refl _⟩
  case round =>
    obtain ⟨k, hk, rfl, HK, hd⟩ := hrel
    have hsz : wr.heap.size = w.heap.size := by rw [hd.heap]
    by_cases h0 : k = 0
    case' pos =>
      have d0 : decide ((k : Int) > 0) = false := decide_eq_false (by omega)
      have d0' : decide (0 < (k : Int)) = false := decide_eq_false (by omega)
      have d1 : decide (0 < k) = false := decide_eq_false (by omega)
      have d2 : ¬ 0 < k := by omega
      have HL := Lib.hid (show putL (rs.map Row.xs) p = (rs.map Row.xs).take k ++ p :: (rs.map Row.xs).drop k by
        have e : putAt (rs.map Row.xs) p (rs.map Row.xs).length = k := by
          rw [List.length_map, HK.out, h0]; rfl
        unfold putL
        rw [e, if_neg (by omega)])
      obtain ⟨wt, rfl⟩ : ∃ wt : World, wt = wr := ⟨_, rfl⟩
      have hdt := hd
      clear h0
      go_upto_region 6 with fail
    case' neg =>
      have hk0 : 0 < k := Nat.pos_of_ne_zero h0
      have d0 : decide ((k : Int) > 0) = true := decide_eq_true (by omega)
      have d0' : decide (0 < (k : Int)) = true := decide_eq_true (by omega)
      have hRr := (hRd.dr hd).more (B' := wr.heap.size) (by omega)
      obtain ⟨b, off, rfl, hbb, hc⟩ := hRr.at (by omega)
      have c1 := hc (k - 1) (by omega)
      have e1 : IntKind.i64.wrap ((k : Int) - 1) = (k : Int) - 1 := IntWalk.i64_in _ (by omega)
      have e2 : ((k : Int) - 1).toNat = k - 1 := by omega
      have e3 : 0 ≤ (k : Int) - 1 := by omega
      have e4 : (k : Int) - 1 < (rs.length : Int) := by omega
      obtain ⟨q, hq⟩ : ∃ q : Row, q = rs[k - 1]'(by omega) := ⟨_, rfl⟩
      have hqm : q ∈ rs := by rw [hq]; exact List.getElem_mem _
      have hql := HR8.out q hqm
      have hqr := hRr.rd q hqm
      have hpr := (hp.dr hd).rd
      rw [← hq] at c1
      have HXQ := Lib.hid (show (rs.map Row.xs)[k - 1]?.getD [] = q.xs by rw [hq]; simp [show k - 1 < rs.length by omega])
      have HSTEP := Lib.hid (show putAt (rs.map Row.xs) p k = if before p q.xs = true then putAt (rs.map Row.xs) p (k - 1) else k by
        obtain ⟨u, rfl⟩ : ∃ u, k = u + 1 := ⟨k - 1, by omega⟩
        have h := HXQ.out
        rw [Nat.add_sub_cancel] at h
        rw [putAt, h]; rfl)
      have HC := Lib.hid hc
      clear hq hc h0
      go_wp2_with fail
      by_cases hb : before p q.xs = true
      · have HT := Lib.hid (show putAt (rs.map Row.xs) p rs.length = putAt (rs.map Row.xs) p (k - 1) by rw [HK.out, HSTEP.out, if_pos hb])
        (with_reducible refine (l2Before_b2 B q.A d q.c p.length q.xs.length p q.xs wr true rfl rfl (by omega) (by omega) hpr hqr hb).mono ?_)
        rintro e w1 ⟨rfl, hd1⟩
        clear hb
        go_wp2_with fail
        go_roundw
        case rel => exact ⟨k - 1, by omega, by rw [Int.natCast_sub hk0]; rfl, HT, hd.trans hd1⟩
        case measure => simp [intOf]; omega
      have hbf : before p q.xs = false := by simpa using hb
      have HT := Lib.hid (show putAt (rs.map Row.xs) p rs.length = k by rw [HK.out, HSTEP.out, if_neg hb])
      (with_reducible refine (l2Before_b2 B q.A d q.c p.length q.xs.length p q.xs wr false rfl rfl (by omega) (by omega) hpr hqr hbf).mono ?_)
      rintro e w1 ⟨rfl, hd1⟩
      have hd2 := hd.trans hd1
      have c2 : w1.cell? ⟨b, off + (k - 1), none⟩ = some (Value.slice q.A q.xs.length q.c) := (hd1.cell _).trans c1
      have hsz2 : w1.heap.size = wr.heap.size := by rw [hd1.heap]
      have hqr2 := (hqr.dr hd1).more (B' := w1.heap.size) (by omega)
      have hpr2 := (hp.dr hd2).rd
      clear hb hbf
      go_wp2_with fail
      by_cases he : q.xs = p
      · have HE := Lib.hid (show putL (rs.map Row.xs) p = rs.map Row.xs by
          unfold putL
          rw [List.length_map, HT.out, if_pos ⟨hk0, by rw [HXQ.out]; exact he⟩])
        (with_reducible refine (l2Same_b q.A B q.c d q.xs.length p.length q.xs p w1 true rfl rfl (by omega) hqr2 hpr2 (decide_eq_true he)).mono ?_)
        rintro e w2 ⟨rfl, hd3⟩
        have hd4 := hd2.trans hd3
        have hsz4 : w2.heap.size = w.heap.size := by rw [hd4.heap]
        clear he
        go_wp2_with fail
        go_ret
        exact ⟨_, c, rs, rfl, HE.out.symm, (HO.out.dr hd4).wider (Nat.le_refl _) (by omega), below_grown (below_dr (Below.refl _ _) hd4)⟩
      have HL := Lib.hid (show putL (rs.map Row.xs) p = (rs.map Row.xs).take k ++ p :: (rs.map Row.xs).drop k by
        unfold putL
        rw [List.length_map, HT.out, if_neg (fun h => he (by rw [← HXQ.out]; exact h.2))])
      (with_reducible refine (l2Same_b q.A B q.c d q.xs.length p.length q.xs p w1 false rfl rfl (by omega) hqr2 hpr2 (decide_eq_false he)).mono ?_)
      rintro e w2 ⟨rfl, hd3⟩
      obtain ⟨wt, rfl⟩ : ∃ wt : World, wt = w2 := ⟨_, rfl⟩
      have hdt := hd2.trans hd3
      clear he c2 hqr2 hpr2 hsz2 c1 hqr hpr hqm hql e1 e2 e3 e4 hk0 hRr hd1 hd2 hd3
      go_upto_region 6 with fail
    all_goals
      have hszt : wt.heap.size = w.heap.size := by rw [hdt.heap]
      have hRt := (hRd.dr hdt).more (B' := wt.heap.size) (by omega)
      have hdrop := Rd.cut (k := k) (read_rows hRt) hk hcap
      have hsl := fun (A : Option Addr) w => run_cut (P := Tryz.prog) (t := 26) Tryz.underlying26 sizeL A rs.length c k (k : Int) rfl hk w
      have hOt := HO.out.dr hdt
      have hpt := (hp.dr hdt).rd
      have own0 : (wt.alloc (.cells #[] 24)).ownsRow wt.heap.size 24 1 (.slice (some ⟨wt.heap.size, 0, none⟩) 0 0) 0 [] := World.ownsRow_lit wt #[] 0 (Nat.le_refl _) (by unfold maxLen; omega) rfl
      have hx0 := hdrop.alloc (Nat.le_refl _) (.cells #[] 24)
      have hbA := (Below.refl wt.heap.size wt).alloc (Nat.le_refl _) (.cells #[] 24)
      have hdl : (rs.drop k).length = rs.length - k := List.length_drop
      have hkc : k ≤ c := Nat.le_trans hk hcap
      have HSZT := Lib.hid hszt
      clear hRt hdrop hszt hsz
      go_wp2_with (at_builtin; refine wpList_append_rd _ rfl _ _ 26 rfl (wt.heap.size) 24 j0 (.slice none 0 0) 24 Tryz.underlying26 hj hy0 hy1 hy2 rfl _ _ _ rfl own0 _ _ _ _ (rs.drop k) rfl hdl hx0 (fun _ => rfl) (by unfold maxLen; omega) (by omega) (by first | omega | (simp; done) | (simp; omega)) ?_; intro v1 w1 hown1 hgrow1)
      simp only [Nat.zero_add, List.nil_append] at hown1
      obtain ⟨R1, cr, rfl, _, _⟩ := own_shape hown1
      have hb1 : Below wt.heap.size wt w1 := hbA.grown hgrow1 (by simp) (fun g hg => (own0.lt g hg).1)
      have hsz1 := hb1.size
      have hszt := HSZT.out
      have hdd : Dr w1 w1.drew := (Dr.refl _).drew
      have hO1 := ((hOt.below hb1).dr hdd).wider (Nat.le_refl lo) (show w.heap.size ≤ w1.heap.size by omega)
      have hR1 := hdd.own hown1
      have hp1 : Rd (Value.int .i64) (w1.drew.alloc (.cells #[] 3)) w1.heap.size B p := (((hpt.below hb1).dr hdd).more (B' := w1.heap.size) (by omega)).alloc (Nat.le_refl _) _
      have own1 : (w1.drew.alloc (.cells #[] 3)).ownsRow w1.heap.size 3 1 (.slice (some ⟨w1.heap.size, 0, none⟩) 0 0) 0 [] := World.ownsRow_lit w1.drew #[] 0 (Nat.le_refl _) (by unfold maxLen; omega) rfl
      clear own0 hx0 hbA hgrow1 hown1 hszt
      go_wp2_with fail
      go_region_held3 (fun _ => True) (trivial) ((first
        | (refine step_append_rd _ (by rfl) _ _ _ (by rfl) w1.heap.size 3 i0 (.int .i64 0) 8 Tryz.underlying24 hi hz0 hz1 hz2 (by rfl) (Value.slice (some ⟨w1.heap.size, 0, none⟩) 0 0) 0 _ (by rfl) own1 _ B d p.length p (by rfl) rfl hp1 (fun _ => rfl) (by unfold maxLen; omega) (by omega) (by simp) ?_
           intro v2 w2 hown2 hgrow2
           simp only [Nat.zero_add, List.nil_append] at hown2
           obtain ⟨A2, c2, rfl, _, _⟩ := own_shape hown2
           have hb2 : Below w1.drew.heap.size w1.drew w2 := ((Below.refl w1.drew.heap.size w1.drew).alloc (Nat.le_refl _) _).grown hgrow2 (by simp) (fun g hg => (own1.lt g hg).1)
           have hsz2 : w1.heap.size ≤ w2.heap.size := hb2.size
           have hO2 := (hO1.below hb2).add (r := ⟨A2, c2, p⟩) hown2 hsz2 (show lo ≤ w1.heap.size by have h1 := HLO.out; have h2 := HSZT.out; omega)
           have hT2 := (own_take (hO2.outN (n := rs.length) (by simp)) hk).alloc (.cells #[Value.slice A2 p.length c2] 24)
           have hR2 := (own_below hR1 hb2).alloc (.cells #[Value.slice A2 p.length c2] 24)
           have hlo2 : lo ≤ w2.heap.size := by have h1 := HLO.out; have h2 := HSZT.out; omega)
        | (refine step_append_lies _ (by rfl) _ _ _ (by rfl) lo 24 j0 (.slice none 0 0) 1 24 Tryz.underlying26 hj hy0 hy1 hy2 rfl (by decide) _ k _ (by rfl) hT2 ⟨w2.heap.size, 0, none⟩ 1 1 [Value.slice A2 p.length c2] (by rfl) (by rfl) (cell_one_new _ _ _) (by intro u hu; simp at hu; subst hu; rfl) (by omega) (by unfold maxLen; omega) (by omega) (by simp; omega) (w2.heap.size + 1) (by simp) ?_
           intro g3 cap3 w3 hown3 hgrow3 hat3 hlt3
           have hgr3 := grown_trans (World.grownBy_alloc w2 (.cells #[Value.slice A2 p.length c2] 24) _) hgrow3
           have hR3 := hR2.kept hgrow3 (by
             rcases hv : (Value.slice R1 (rs.length - k) cr).ownBlock with _ | q
             · exact .inl rfl
             · refine .inr (fun e => ?_)
               have h1 := (hR1.lt q hv).1
               have h2 := (hOt.olim (n := rs.length) (by simp) q (by rw [e]; exact ownBlock_len _ _ _ _ _)).2
               have h3 := HSZT.out
               omega)
           have hRd3 : Rd Row.v w3 w3.heap.size R1 (rs.drop k) := Rd.of_own (c := cr) (by rw [hdl]; exact hR3)
           have hlo3 : lo ≤ w3.heap.size := by have := hgr3.size; omega)
        | (refine step_append_rd _ (by rfl) _ _ _ (by rfl) lo 24 j0 (.slice none 0 0) 24 Tryz.underlying26 hj hy0 hy1 hy2 (by rfl) (Value.slice (some ⟨g3, 0, none⟩) (k + 1) cap3) (k + 1) _ (by rfl) hown3 _ R1 cr (rs.length - k) (rs.drop k) (by rfl) hdl hRd3 (fun _ => rfl) (by unfold maxLen; omega) (by omega) (by omega) ?_
           intro v4 w4 hown4 hgrow4
           obtain ⟨A4, c4, rfl, _, _⟩ := own_shape hown4)
        | fail))
      have hlen4 : (rs.take k ++ (⟨A2, c2, p⟩ : Row) :: rs.drop k).length = k + 1 + (rs.length - k) := by simp; omega
      have hv3 : (Value.slice A2 p.length c2) = Row.v ⟨A2, c2, p⟩ := rfl
      have hb3 := (Below.refl w2.heap.size w2).alloc (Nat.le_refl _) (.cells #[Value.slice A2 p.length c2] 24)
      have hO3 := Own.kept (w' := w3) (hO2.below hb3) (by simp) (show (rs.map Row.v).length = rs.length by simp) (by rw [ownBlock_len _ rs.length k c c]; exact hgrow3)
      have hO3' := hO3.with_ (A := some ⟨g3, 0, none⟩) (c := cap3) (vs := (rs.map Row.v).take k ++ [Value.slice A2 p.length c2]) (by
        have hl : ((rs.map Row.v).take k ++ [Value.slice A2 p.length c2]).length = k + 1 := by simp; omega
        rw [hl]; exact hown3) (Nat.le_refl _)
      have hO4 := (Own.kept hO3' (Nat.le_refl _) (show ((rs.map Row.v).take k ++ [Value.slice A2 p.length c2]).length = k + 1 by simp; omega) hgrow4).perm (rs' := rs.take k ++ (⟨A2, c2, p⟩ : Row) :: rs.drop k) (by
        refine List.Perm.trans ?_ (List.perm_middle.symm)
        rw [List.take_append_drop]
        exact List.perm_append_comm)
      have hfin := hO4.with_ (A := A4) (c := c4) (vs := (rs.take k ++ (⟨A2, c2, p⟩ : Row) :: rs.drop k).map Row.v) (by
        rw [List.length_map, hlen4]
        have e : (rs.map Row.v).take k ++ [Value.slice A2 p.length c2] ++ (rs.drop k).map Row.v = (rs.take k ++ (⟨A2, c2, p⟩ : Row) :: rs.drop k).map Row.v := by simp [List.map_take, Row.v]
        rw [← e]; exact hown4) (Nat.le_refl _)
      have h1 : Below w.heap.size w w2 := by
        have hz := HSZT.out
        have ha := (below_dr (Below.refl w.heap.size w) hdt).trans (hb1.mono (by omega))
        exact (below_dr ha hdd).trans (hb2.mono (by show w.heap.size ≤ w1.heap.size; omega))
      have hgw := grown_then (grown_trans (below_grown h1) hgr3) hgrow4 hat3 (show w.heap.size ≤ w2.heap.size + 1 by have := h1.size; omega)
      have K := Lib.hid (And.intro hfin hgw)
      have HL4 := Lib.hid hlen4
      clear h1 hfin hgw hO4 hO3' hO3 hb3 hown4 hgrow4 hRd3 hR3 hgr3 hown3 hgrow3 hat3 hR2 hT2 hO2 hb2 hown2 hgrow2 own1 hp1 hR1 hO1 hv3 hlen4
      go_wp2_with fail
      go_ret
      exact ⟨A4, c4, rs.take k ++ (⟨A2, c2, p⟩ : Row) :: rs.drop k, by rw [HL4.out]; rfl, by rw [HL.out]; simp [List.map_take, List.map_drop], K.out.1, by rw [ownBlock_len _ 0 k 0 c]; exact K.out.2⟩
end Go.Proofs.YtldknpjeegdbmaaGreat

/- The draws of permutations: a list of as many numbers as was asked. -/
namespace Go.Proofs.YtldknpjeegdbmaaGreat
set_option maxRecDepth 100000
open Go Go.RowKit

section
variable {w w' wa wb : World} {q : Nat} {A : Option Addr} {c : Nat} {bs : List Int}
theorem own_drawn {base e n : Nat} {v : Value} {vs : List Value} (h : w.ownsRow base e 1 v n vs) (k : Drawn w w' q A c bs) (hq : q < base) : w'.ownsRow base e 1 v n vs :=
  own_span h k.span fun g hg => by have := (h.lt g hg).1; omega
theorem Drawn.next (h : Drawn wa wb q A c bs) (hb : Below wa.heap.size wb w') (hq : q < wa.heap.size) : Drawn wa w' q A c bs :=
  ⟨h.cur.below hb hq, ⟨hb.os.trans h.span.os, hb.tape.trans h.span.tape, hb.output.trans h.span.output, Nat.le_trans h.span.size hb.size, fun k hk hlh => (hb.block k hk).trans (h.span.block k hk hlh)⟩⟩
theorem Rd.drawn {α : Type} {f : α → Value} {B : Nat} {D : Option Addr} {xs : List α} (h : Rd f w B D xs) (k : Drawn w w' q A c bs) (hB : B ≤ q) (hw : B ≤ w.heap.size) : Rd f w' B D xs := h.below (k.span.below hB hw)
end
/-- 1, 2, .., m. -/
def upToL (m : Nat) : List Int := (List.range m).map fun i => ((i : Nat) : Int) + 1
theorem upToL_succ (m : Nat) : upToL (m + 1) = upToL m ++ [(m : Int) + 1] := by simp [upToL, List.range_succ]
theorem upToL_length (m : Nat) : (upToL m).length = m := by simp [upToL]
theorem ins_perm (xs : List Int) (t : Nat) (x : Int) : (xs.take t ++ [x] ++ xs.drop t).Perm (xs ++ [x]) := by
  have h : (xs.take t ++ [x] ++ xs.drop t).Perm (xs.take t ++ (xs.drop t ++ [x])) := by
    rw [List.append_assoc]
    exact List.Perm.append_left _ List.perm_append_comm
  rwa [← List.append_assoc, List.take_append_drop] at h
/-- A list of the call's own was drawn. -/
def RetD (w : World) (q : Nat) (A : Option Addr) (c : Nat) (bs : List Int) (ok : List Int → Prop) (en : Ending) (w' : World) : Prop :=
  ∃ D k ys, en = .returned (.slice D ys.length k) ∧ ok ys ∧ w'.ownsRow w.heap.size 3 1 (.slice D ys.length k) ys.length (ys.map (Value.int .i64)) ∧ Drawn w w' q A c bs

set_option maxHeartbeats 2000000 in
theorem l2Draw_any (w : World) (q : Nat) (A : Option Addr) (c : Nat) (bs : List Int) (n : Nat) (hn : n ≤ 1000000) (hc : Cur w q A c bs) :
    Calls Tryz.prog 68 #[.pointer (some ⟨q, 0, none⟩), .int .i64 n] w (RetD w q A c bs fun ys => ys.Perm (upToL n)) := by
  obtain ⟨i0, hi, hz0, hz1, hz2⟩ := info_parts infoI
  have hq := hc.lt
  have own0 : (w.alloc (.cells #[] 3)).ownsRow w.heap.size 3 1 (.slice (some ⟨w.heap.size, 0, none⟩) 0 0) 0 [] := World.ownsRow_lit w #[] 0 (Nat.le_refl _) (by unfold maxLen; omega) rfl
  have k0 := (Drawn.refl hc).next ((Below.refl w.heap.size w).alloc (Nat.le_refl _) (.cells #[] 3)) hq
  go_enter Tryz.func68, Tryz.ntmps68
  go_wp2_with fail
  go_loopw [5, 6] (fun o i wr => ∃ (m : Nat) (A1 : Option Addr) (c1 : Nat) (ys : List Int), m ≤ n ∧ i = .int .i64 ((m : Int) + 1) ∧ o = .slice A1 ys.length c1 ∧ Hid (ys.Perm (upToL m)) ∧
    wr.ownsRow w.heap.size 3 1 (.slice A1 ys.length c1) ys.length (ys.map (Value.int .i64)) ∧ Drawn w wr q A c bs) (fun _ i _ => n + 1 - (intOf i).toNat)
  case atStart => exact ⟨0, _, _, [], Nat.zero_le _, rfl, rfl, Lib.hid (by rw [show upToL 0 = [] from rfl]), own0, k0⟩
  case round =>
    clear own0 k0
    obtain ⟨m, A1, c1, ys, hm, rfl, rfl, HP, own1, k1⟩ := hrel
    have hyl : ys.length = m := by rw [HP.out.length_eq, upToL_length]
    have hsz := k1.span.size
    rcases Nat.lt_or_ge m n with hlt | hge
    · have hy1 : ys.length ≤ 1000000 := by omega
      have HYL := Lib.hid hyl
      have e1 : IntKind.i64.wrap ((ys.length : Int) + 1) = (ys.length : Int) + 1 := IntWalk.i64_in _ (by omega)
      have l1 : (m : Int) + 1 ≤ (n : Int) := by omega
      have HC := Lib.hid (l1Below_any wr q A c bs ((ys.length : Int) + 1) (by omega) k1.cur)
      clear hyl
      go_wp2_with fail
      (with_reducible refine HC.out.mono ?_)
      rintro e w0 ⟨x, rfl, hx, kx⟩
      obtain ⟨t, rfl⟩ := Int.eq_ofNat_of_zero_le hx.1
      have htl : t ≤ ys.length := by have := hx.2.1 (by omega); omega
      have own1 := own_drawn own1 kx hq
      have k1 := k1.trans kx
      have hsz0 := k1.span.size
      obtain ⟨cp1, cp2⟩ := own_caps own1
      clear hx kx HC
      have hsl1 := fun w => run_cut (P := Tryz.prog) (t := 24) Tryz.underlying24 sizeI A1 ys.length c1 t (t : Int) rfl htl w
      have hsl2 := fun w => run_slice_h (P := Tryz.prog) w 24 A1 ys.length c1 Tryz.underlying24 .i64 t (by omega) (by omega)
      have q2 : (t : Int) ≤ (ys.length : Int) := by omega
      have hown0 : (w0.alloc (.cells #[] 3)).ownsRow w0.heap.size 3 1 (.slice (some ⟨w0.heap.size, 0, none⟩) 0 0) 0 [] := World.ownsRow_lit w0 #[] 0 (Nat.le_refl _) (by unfold maxLen; omega) rfl
      have HX0 := Lib.hid ((((Rd.of_own own1).alloc (Nat.le_refl _) (.cells #[] 3)).cut (k := t) (c := c1) htl cp1))
      have HD1 := Lib.hid (show (ys.drop t).length = ys.length - t from List.length_drop)
      have HT1 := Lib.hid (show (ys.take t).length = t by simp; omega)
      have hbA := (Below.refl w0.heap.size w0).alloc (Nat.le_refl _) (.cells #[] 3)
      go_wp2_with (first
        | ((at_builtin; refine wpList_append_rd _ rfl _ _ 24 rfl (w0.heap.size) 3 i0 (.int .i64 0) 8 Tryz.underlying24 hi hz0 hz1 hz2 rfl _ _ _ rfl hown0 _ _ _ _ (ys.drop t) rfl HD1.out HX0.out (fun _ => rfl) (by unfold maxLen; omega) (by omega) (by first | omega | (simp; done) | (simp; omega)) ?_; intro v1 w1 hown1 hgrow1)
           simp only [Nat.zero_add, List.nil_append] at hown1
           obtain ⟨A3, c3, rfl, _, _⟩ := own_shape hown1
           have hbB := hbA.grown hgrow1 (by simp) (fun g hg => (hown0.lt g hg).1)
           have hszB := hbB.size
           have HT := own_take (own_below own1 hbB) htl)
        | ((at_builtin; refine wpList_append_own _ rfl _ _ 24 rfl (w.heap.size) 3 i0 (.int .i64 0) 1 8 Tryz.underlying24 hi hz0 hz1 hz2 rfl (by decide) _ _ _ rfl (World.ownsRow.alloc HT _) ⟨w1.heap.size, 0, none⟩ 1 1 [.int .i64 ((m : Int) + 1)] rfl rfl (cell_one_new _ _ _) (by intro u hu; simp at hu; subst hu; rfl) (by unfold maxLen; omega) (by omega) (by simp; omega) ?_; intro v2 w2 hown2 hgrow2 _)
           have hR2 := (hown1.alloc (Obj.cells #[Value.int .i64 ((m : Int) + 1)] 3)).kept hgrow2 (by
             rcases hv : (Value.slice A3 (ys.length - t) c3).ownBlock with _ | g
             · exact .inl rfl
             · refine .inr fun he => ?_
               have h1 := (hown1.lt g hv).1
               have h2 := ((own_take own1 htl).lt g he.symm).2
               omega)
           have HRR : Rd (Value.int .i64) w2 w2.heap.size A3 (ys.drop t) := Rd.of_own (c := c3) (by rw [HD1.out]; exact hR2)
           have hsz2 : w.heap.size ≤ w2.heap.size := by have := hgrow2.size; simp at this; omega)
        | (at_builtin; refine wpList_append_rd _ rfl _ _ 24 rfl (w.heap.size) 3 i0 (.int .i64 0) 8 Tryz.underlying24 hi hz0 hz1 hz2 rfl _ _ _ rfl hown2 _ _ _ _ (ys.drop t) rfl HD1.out HRR (fun _ => rfl) (by unfold maxLen; omega) (by omega) (by first | omega | (simp; done) | (simp; omega)) ?_; intro v4 w4 hown4 hgrow4))
      have hzl : (ys.take t ++ [(m : Int) + 1] ++ ys.drop t).length = t + 1 + (ys.length - t) := by simp only [List.length_append, List.length_singleton, HT1.out, HD1.out]
      have hown5 : w4.ownsRow w.heap.size 3 1 v4 (ys.take t ++ [(m : Int) + 1] ++ ys.drop t).length ((ys.take t ++ [(m : Int) + 1] ++ ys.drop t).map (Value.int .i64)) := by
        rw [hzl]
        simpa only [List.map_append, List.map_take, List.map_drop, List.map_cons, List.map_nil] using hown4
      obtain ⟨A5, c5, rfl, _, _⟩ := own_shape hown5
      have hbC := ((hbB.mono hsz0).alloc (by omega) (Obj.cells #[Value.int .i64 ((m : Int) + 1)] 3)).grown hgrow2 (by simp; omega) (fun g hg => (HT.lt g hg).1)
      have hbD := hbC.grown hgrow4 (by omega) (fun g hg => (hown2.lt g hg).1)
      have k5 := k1.next hbD hq
      have HP5 : Hid ((ys.take t ++ [(m : Int) + 1] ++ ys.drop t).Perm (upToL (m + 1))) := Lib.hid ((ins_perm ys t ((m : Int) + 1)).trans (by rw [upToL_succ]; exact List.Perm.append_right _ HP.out))
      exact ⟨⟨m + 1, A5, c5, _, by omega, by go_num, rfl, HP5, hown5, k5⟩, by simp [intOf]; omega⟩
    · obtain rfl : m = n := by omega
      go_wp2_with fail
      go_ret
      exact ⟨A1, c1, ys, rfl, HP.out, own1, k1⟩
set_option maxHeartbeats 2000000 in
theorem l2Any_any (w : World) (q : Nat) (A : Option Addr) (c : Nat) (bs : List Int) (hc : Cur w q A c bs) :
    Calls Tryz.prog 80 #[.pointer (some ⟨q, 0, none⟩)] w (RetD w q A c bs fun ys => ys.length ≤ 8 ∧ ys.Perm (upToL ys.length)) := by
  have hq := hc.lt
  have k0 := (Drawn.refl hc).next ((Below.refl w.heap.size w).alloc (Nat.le_refl _) (.cells #[.int .i64 0, .int .i64 1, .int .i64 2, .int .i64 3, .int .i64 4, .int .i64 5, .int .i64 5, .int .i64 6, .int .i64 6, .int .i64 7, .int .i64 8] 3)) hq
  have HC := Lib.hid (l1PickInt_any _ q A c bs w.heap.size 11 11 [0, 1, 2, 3, 4, 5, 5, 6, 6, 7, 8] rfl (by decide) (by decide) (by omega) (by simp) (fun j hj => (obj_cell (obj_new w _)).trans (by
    have hj : j < 11 := hj
    rcases j with _ | _ | _ | _ | _ | _ | _ | _ | _ | _ | _ | j
    all_goals first | rfl | omega)) k0.cur)
  go_enter Tryz.func80, Tryz.ntmps80
  go_wp2_with fail
  (with_reducible refine HC.out.mono ?_)
  rintro e w1 ⟨x, rfl, hx, k1⟩
  have hx8 : 0 ≤ x ∧ x ≤ 8 := by simp at hx; omega
  obtain ⟨n, rfl⟩ := Int.eq_ofNat_of_zero_le hx8.1
  have k1 := k0.trans k1
  have hsz := k1.span.size
  have HD := Lib.hid (l2Draw_any w1 q A c bs n (by omega) k1.cur)
  go_wp2_with fail
  (with_reducible refine HD.out.mono ?_)
  rintro e w2 ⟨D, k, ys, rfl, hp, ho, k2⟩
  go_wp2_with fail
  go_ret
  have hl : ys.length = n := by rw [hp.length_eq, upToL_length]
  exact ⟨D, k, ys, rfl, ⟨by omega, by rw [hl]; exact hp⟩, own_mono ho hsz, k1.trans k2⟩
set_option maxHeartbeats 2000000 in
theorem l2Bent_any (w : World) (q : Nat) (A : Option Addr) (c : Nat) (bs : List Int) (hc : Cur w q A c bs) :
    Calls Tryz.prog 54 #[.pointer (some ⟨q, 0, none⟩)] w (RetD w q A c bs fun ys => ys.length ≤ 9) := by
  obtain ⟨i0, hi, hz0, hz1, hz2⟩ := info_parts infoI
  have hq := hc.lt
  have HC := Lib.hid (l2Any_any w q A c bs hc)
  go_enter Tryz.func54, Tryz.ntmps54
  go_wp2_with fail
  (with_reducible refine HC.out.mono ?_)
  rintro e w1 ⟨D, k, ys, rfl, ⟨hl8, hp⟩, ho, k1⟩
  have HB := Lib.hid (l1Below_any w1 q A c bs 14 (by omega) k1.cur)
  have hsz := k1.span.size
  clear hp
  go_wp2_with fail
  (with_reducible refine HB.out.mono ?_)
  rintro e w2 ⟨x, rfl, hx, kx⟩
  have ho := own_drawn ho kx hq
  have k2 := k1.trans kx
  have hsz := k2.span.size
  by_cases hx0 : x = 0
  · subst hx0
    have HB := Lib.hid (l1Below_any w2 q A c bs 12 (by omega) k2.cur)
    clear hx
    go_wp2_with fail
    (with_reducible refine HB.out.mono ?_)
    rintro e w3 ⟨y, rfl, hy, ky⟩
    have ho := own_drawn ho ky hq
    have k3 := k2.trans ky
    have hsz := k3.span.size
    have e1 : IntKind.i64.wrap (y - 1) = y - 1 := IntWalk.i64_in _ (by omega)
    go_wp2_with (at_builtin; refine wpList_append_own _ rfl _ _ 24 rfl (w.heap.size) 3 i0 (.int .i64 0) 1 8 Tryz.underlying24 hi hz0 hz1 hz2 rfl (by decide) _ _ _ rfl (World.ownsRow.alloc ho _) ⟨w3.heap.size, 0, none⟩ 1 1 [.int .i64 (y - 1)] rfl rfl (cell_one_new _ _ _) (by intro u hu; simp at hu; subst hu; rfl) (by unfold maxLen; omega) (by omega) (by simp; omega) ?_; intro v1 w1 hown1 hgrow1 _)
    have hown5 : w1.ownsRow w.heap.size 3 1 v1 (ys ++ [y - 1]).length ((ys ++ [y - 1]).map (Value.int .i64)) := by simpa using hown1
    obtain ⟨A5, c5, rfl, _, _⟩ := own_shape hown5
    have hbC := ((Below.refl w.heap.size w3).alloc hsz (Obj.cells #[Value.int .i64 (y - 1)] 3)).grown hgrow1 (by simp; omega) (fun g hg => (ho.lt g hg).1)
    go_ret
    exact ⟨A5, c5, _, by simp, by simp; omega, hown5, k3.next hbC hq⟩
  by_cases hx1 : x = 1
  · subst hx1
    clear hx
    rcases Nat.eq_zero_or_pos ys.length with h0 | h0
    · obtain rfl : ys = [] := List.eq_nil_of_length_eq_zero h0
      go_wp2_with fail
      go_ret
      exact ⟨D, k, [], rfl, by simp, ho, k2⟩
    · have HB := Lib.hid (l1Below_any w2 q A c bs 11 (by omega) k2.cur)
      obtain ⟨g, cap, hv, hg1, hlt⟩ := ho.form (by simpa using h0)
      injection hv with hv1 hv2 hv3
      subst hv1 hv3
      go_wp2_with fail
      (with_reducible refine HB.out.mono ?_)
      rintro e w3 ⟨y, rfl, hy, ky⟩
      have ho := own_drawn ho ky hq
      have k3 := k2.trans ky
      have hsz := k3.span.size
      have e1 : IntKind.i64.wrap (y - 1) = y - 1 := IntWalk.i64_in _ (by omega)
      obtain ⟨f0, g0, ho5⟩ := own_put ho 0 h0 (y - 1)
      go_wp2_with fail
      go_ret
      exact ⟨some ⟨g, 0, none⟩, k, ys.set 0 (y - 1), by simp, by simp; omega, by simpa using ho5, k3.next ((Below.refl _ _).setCell (p := ⟨g, 0, none⟩) (ho.lt g rfl).1 _) hq⟩
  · go_wp2_with fail
    go_ret
    exact ⟨D, k, ys, rfl, by omega, ho, k2⟩
end Go.Proofs.YtldknpjeegdbmaaGreat

/- What the great laws begin with: the size test, equal lists of numbers, the draws from the code. -/
namespace Go.Proofs.YtldknpjeegdbmaaGreat
set_option maxRecDepth 100000
open Go Go.RowKit

/-- The code's bytes are read. -/
structure InY (w : World) (A : Option Addr) (c : Nat) (bs : List Int) : Prop where
  len : bs.length ≤ 1048576
  rd : Rd (Value.int .u8) w w.heap.size A bs
theorem InY.next {w w' : World} {A : Option Addr} {c : Nat} {bs : List Int} (h : InY w A c bs) (hb : Below w.heap.size w w') : InY w' A c bs := ⟨h.len, h.rd.next hb⟩

theorem big_ok (A : Option Addr) (c : Nat) (bs : List Int) (w : World) (hl : bs.length ≤ 1048576) :
    Calls Tryz.prog 4 #[.slice A bs.length c] w fun e w' => e = .returned (.bool false) ∧ w = w' := by
  have h1 : ¬ ((bs.length : Int) > 1048576) := by omega
  go_enter Tryz.func4, Tryz.ntmps4
  go_wp2_with fail
  go_ret
  exact ⟨by simp, rfl⟩
theorem big_no (A : Option Addr) (c : Nat) (bs : List Int) (w : World) (hl : 1048576 < bs.length) (hm : bs.length ≤ 9223372036854775807) :
    Calls Tryz.prog 4 #[.slice A bs.length c] w fun e w' => e = .returned (.bool true) ∧ w = w' := by
  have h1 : (bs.length : Int) > 1048576 := by omega
  go_enter Tryz.func4, Tryz.ntmps4
  go_wp2_with fail
  go_ret
  exact ⟨by simp, rfl⟩

set_option maxHeartbeats 800000 in
theorem sameInts_any (A A' : Option Addr) (c c' : Nat) (xs ys : List Int) (w : World) (hl : xs.length ≤ 1048576)
    (hx : Rd (Value.int .i64) w w.heap.size A xs) (hy : Rd (Value.int .i64) w w.heap.size A' ys) :
    Calls Tryz.prog 24 #[.slice A xs.length c, .slice A' ys.length c'] w (Rq w (.bool (decide (xs = ys)))) := by
  by_cases hlen : xs.length = ys.length
  · have hne : ((xs.length : Int) != (ys.length : Int)) = false := by simp [hlen]
    go_enter Tryz.func24, Tryz.ntmps24
    rw [← hlen]
    have hlH := Lib.hid hlen
    clear hne hlen
    go_wp2_with fail
    go_loopw [5] (fun i wr => ∃ k : Nat, k ≤ xs.length ∧ i = .int .i64 k ∧ Dr w wr ∧ Hid (xs.take k = ys.take k)) (fun i _ => xs.length - (intOf i).toNat)
    case atStart => exact ⟨0, Nat.zero_le _, rfl, Dr.refl _, Lib.hid rfl⟩
    case round =>
      obtain ⟨k, hk, rfl, hd, hT⟩ := hrel
      rcases Nat.lt_or_ge k xs.length with hlt | hge
      · have hly : k < ys.length := by have := hlH.out; omega
        obtain ⟨b, off, rfl, hb, hcx⟩ := hx (by omega)
        obtain ⟨b', off', rfl, hb', hcy⟩ := hy (by omega)
        have f1 : wr.cell? ⟨b, off + k, none⟩ = some (.int .i64 xs[k]) := (hd.cell _).trans (hcx k hlt)
        have f2 : wr.cell? ⟨b', off' + k, none⟩ = some (.int .i64 ys[k]) := (hd.cell _).trans (hcy k hly)
        have l1 : (k : Int) < (xs.length : Int) := by omega
        have l0 : (0 : Int) ≤ (k : Int) := Int.natCast_nonneg _
        by_cases he : xs[k] = ys[k]
        · have hbe : (xs[k] != ys[k]) = false := by simp [he]
          have HT := Lib.hid (show xs.take (k + 1) = ys.take (k + 1) by rw [List.take_succ_eq_append_getElem hlt, List.take_succ_eq_append_getElem hly, hT.out, he])
          have e1 : IntKind.i64.wrap ((k : Int) + 1) = (k : Int) + 1 := IntWalk.i64_in _ (by omega)
          generalize xs[k] = u at f1 hbe he
          clear he
          go_wp2_with fail
          go_quiet (fail)
          go_wp2_with fail
          go_roundw
          case rel => exact ⟨k + 1, by omega, by go_num, hd.drewN _, HT⟩
          case measure => simp [intOf]; omega
        · have hbe : (xs[k] != ys[k]) = true := by simp [he]
          have HE := Lib.hid (show xs ≠ ys from fun h => he (by subst h; rfl))
          clear he
          go_wp2_with fail
          go_quiet (fail)
          go_wp2_with fail
          go_ret
          exact ⟨ret_bool (decide_eq_false HE.out).symm, hd.drewN _⟩
      · have hkk : k = xs.length := by omega
        have HE := Lib.hid (show xs = ys by
          have h1 := hT.out
          have h2 := hlH.out
          rw [hkk, List.take_length, h2, List.take_length] at h1
          exact h1)
        have l1 : ¬ (k : Int) < (xs.length : Int) := by omega
        clear hkk
        go_wp2_with fail
        go_ret
        exact ⟨ret_bool (decide_eq_true HE.out).symm, hd⟩
  · have hne : ((xs.length : Int) != (ys.length : Int)) = true := by simp; omega
    have HE := Lib.hid (show xs ≠ ys from fun h => hlen (by rw [h]))
    clear hlen
    go_enter Tryz.func24, Tryz.ntmps24
    go_wp2_with fail
    go_ret
    exact ⟨ret_bool (decide_eq_false HE.out).symm, Dr.refl _⟩
theorem sameInts_eq (A A' : Option Addr) (c c' n n' : Nat) (xs ys : List Int) (w : World) (he : xs = ys) (hn : xs.length = n) (hn' : xs.length = n') (hl : n ≤ 1048576)
    (hx : Rd (Value.int .i64) w w.heap.size A xs) (hy : Rd (Value.int .i64) w w.heap.size A' ys) :
    Calls Tryz.prog 24 #[.slice A n c, .slice A' n' c'] w (Rq w (.bool true)) := by
  subst he hn hn'
  have := sameInts_any A A' c c' xs xs w hl hx hy
  rwa [decide_eq_true rfl] at this

/-- A draw of a list from the code. -/
def RetDL (w : World) (ok : List Int → Prop) (en : Ending) (w' : World) : Prop :=
  ∃ D k ys, en = .returned (.slice D ys.length k) ∧ ok ys ∧ w'.ownsRow w.heap.size 3 1 (.slice D ys.length k) ys.length (ys.map (Value.int .i64)) ∧ Below w.heap.size w w'
theorem Drawn.below {w w' : World} {q B : Nat} {A : Option Addr} {c : Nat} {bs : List Int} (k : Drawn w w' q A c bs) (hB : B ≤ q) (hw : B ≤ w.heap.size) : Below B w w' := k.span.below hB hw
end Go.Proofs.YtldknpjeegdbmaaGreat
