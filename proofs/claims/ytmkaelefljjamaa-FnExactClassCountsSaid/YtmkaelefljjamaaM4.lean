/- Plain maths: the permutations of a class, made by a last number, are as many as those that avoid its basis. -/
import Derived.Test.YtmkaelefljjamaaG7
namespace Go.Proofs.Ytmkaelefljjamaa
set_option maxRecDepth 100000

theorem nodup_sub_len {α : Type} [DecidableEq α] : ∀ (l m : List α), l.Nodup → (∀ x ∈ l, x ∈ m) → l.length ≤ m.length := by
  intro l
  induction l with
  | nil => intro m _ _; simp
  | cons a t ih =>
    intro m hn hs
    rw [List.nodup_cons] at hn
    have h1 := ih (m.erase a) hn.2 (fun x hx => by
      have hne : x ≠ a := fun e => hn.1 (e ▸ hx)
      exact (List.mem_erase_of_ne hne).2 (hs x (by simp [hx])))
    have h2 := List.length_erase_of_mem (hs a (by simp))
    have h3 : 0 < m.length := List.length_pos_of_mem (hs a (by simp))
    rw [List.length_cons]
    omega
theorem nodup_flat {α β : Type} (f : α → List β) (l : List α) (hl : l.Nodup) (h1 : ∀ a ∈ l, (f a).Nodup) (h2 : ∀ a ∈ l, ∀ b ∈ l, ∀ x, x ∈ f a → x ∈ f b → a = b) : (l.flatMap f).Nodup := by
  induction l with
  | nil => simp
  | cons a t ih =>
    rw [List.nodup_cons] at hl
    rw [List.flatMap_cons, List.nodup_append]
    refine ⟨h1 a (by simp), ih hl.2 (fun b hb => h1 b (by simp [hb])) (fun b hb c hc x => h2 b (by simp [hb]) c (by simp [hc]) x), fun x hx y hy e => ?_⟩
    subst e
    obtain ⟨b, hb, hxb⟩ := List.mem_flatMap.1 hy
    have := h2 a (by simp) b (by simp [hb]) x hx hxb
    subst this
    exact hl.1 hb
theorem nodup_map_inj {α β : Type} (f : α → β) (l : List α) (hl : l.Nodup) (h : ∀ a ∈ l, ∀ b ∈ l, f a = f b → a = b) : (l.map f).Nodup := by
  rw [List.nodup_iff_pairwise_ne, List.pairwise_map]
  rw [List.nodup_iff_pairwise_ne] at hl
  exact hl.imp_of_mem fun {a b} ha hb hab e => hab (h a ha b hb e)
theorem nums_nodup (n : Nat) : (nums n).Nodup := by
  unfold nums
  exact nodup_map_inj _ _ List.nodup_range fun a _ b _ h => by omega
theorem snoc_inj {p q : List Int} {x y : Int} (h : p ++ [x] = q ++ [y]) : p = q ∧ x = y := by
  have h1 := List.append_inj' h rfl
  exact ⟨h1.1, by simpa using h1.2⟩
theorem permsI_nodup (n i : Nat) : (permsI n i).Nodup := by
  induction i with
  | zero => simp [permsI]
  | succ i ih =>
    refine nodup_flat (ext1 n) _ ih (fun p _ => ?_) (fun p _ q _ x hx hy => ?_)
    · exact nodup_map_inj _ _ ((nums_nodup n).filter _) fun a _ b _ h => (snoc_inj h).2
    · obtain ⟨v, _, rfl⟩ := List.mem_map.1 hx
      obtain ⟨u, _, h⟩ := List.mem_map.1 hy
      exact (snoc_inj h).1.symm
theorem ascI_mono {n m : Nat} (h : n ≤ m) : ∀ {k : Nat} {l : List Int}, l ∈ ascI n k → l ∈ ascI m k := by
  intro k
  induction k with
  | zero => intro l hl; simpa [ascI] using hl
  | succ k ih =>
    intro l hl
    obtain ⟨q, hq, hx⟩ := List.mem_flatMap.1 hl
    obtain ⟨x, hxw, rfl⟩ := List.mem_map.1 hx
    have hw := ways_mem.1 hxw
    exact List.mem_flatMap.2 ⟨q, ih hq, List.mem_map.2 ⟨x, ways_mem.2 ⟨hw.1, by omega⟩, rfl⟩⟩
theorem atL_get {p l : List Int} {i : Nat} (hi : i < l.length) (h : 1 ≤ l[i] ∧ l[i] ≤ p.length) : (atL p l)[i]'(by rw [atL_length]; exact hi) = p[(l[i] - 1).toNat]'(by omega) := by
  unfold atL
  rw [List.getElem_map, List.getElem?_eq_getElem (by omega)]; rfl
/-- A head that rises and falls alike has no pattern that the whole lacks. -/
theorem has_mono {p q t : List Int} (hp : permB p = true) (hq : permB q = true) (ht : permB t = true) (hl : q.length ≤ p.length)
    (ho : ∀ i j (hi : i < q.length) (hj : j < q.length), q[i] < q[j] ↔ p[i]'(by omega) < p[j]'(by omega)) (h : hasB q t = true) : hasB p t = true := by
  unfold hasB at h ⊢
  rw [occ_eq hp ht]
  rw [occ_eq hq ht] at h
  rw [Bool.not_eq_true', List.isEmpty_eq_false_iff] at h ⊢
  obtain ⟨l, hm⟩ := List.exists_mem_of_ne_nil _ h
  obtain ⟨h1, h2⟩ := List.mem_filter.1 hm
  obtain ⟨h3, h4⟩ := ascI_mem h1
  have h5 := ascI_mono hl h1
  obtain ⟨_, h6⟩ := ascI_mem h5
  refine List.ne_nil_of_mem (a := l) (List.mem_filter.2 ⟨h5, ?_⟩)
  rw [decide_eq_true_eq] at h2 ⊢
  have e1 : (atL q l).length = t.length := by rw [atL_length, h3]
  have e2 : (atL p l).length = t.length := by rw [atL_length, h3]
  rw [patL_iff e1 (atL_nodup (permB_true hq).2.2 h4) ht] at h2
  rw [patL_iff e2 (atL_nodup (permB_true hp).2.2 h6) ht]
  intro i j hi hj hij
  rw [atL_length] at hi hj
  have k1 := h2 i j (by rw [atL_length]; exact hi) (by rw [atL_length]; exact hj) hij
  have bi := h4.1 l[i] (List.getElem_mem hi)
  have bj := h4.1 l[j] (List.getElem_mem hj)
  rw [atL_get hi ⟨bi.1, bi.2.1⟩, atL_get hj ⟨bj.1, bj.2.1⟩] at k1
  rw [atL_get hi ⟨bi.1, by omega⟩, atL_get hj ⟨bj.1, by omega⟩, k1]
  exact ho _ _ _ _
def bump (v x : Int) : Int := x + if x ≥ v then 1 else 0
def unbump (v x : Int) : Int := if x > v then x - 1 else x
/-- A number more at the end. -/
def child (q : List Int) (v : Int) : List Int := q.map (bump v) ++ [v]
def nextL (X ls : List (List Int)) (n : Nat) : List (List Int) := ls.flatMap fun q => ((nums n).map (child q)).filter (avoidB X)
def lastL (X : List (List Int)) : Nat → List (List Int)
  | 0 => [[]]
  | k + 1 => nextL X (lastL X k) (k + 1)
theorem bump_lt (v x y : Int) : bump v x < bump v y ↔ x < y := by unfold bump; split <;> split <;> omega
theorem bump_ne (v x : Int) : bump v x ≠ v := by unfold bump; split <;> omega
theorem bump_inj {v x y : Int} (h : bump v x = bump v y) : x = y := by unfold bump at h; split at h <;> split at h <;> omega
theorem bump_un {v x : Int} (h : x ≠ v) : bump v (unbump v x) = x := by
  unfold bump unbump
  split
  · rw [if_pos (by omega)]; omega
  · rw [if_neg (by omega)]; omega
theorem un_inj {v x y : Int} (hx : x ≠ v) (hy : y ≠ v) (h : unbump v x = unbump v y) : x = y := by rw [← bump_un hx, ← bump_un hy, h]
theorem perm_of_mem {n : Nat} {p : List Int} (h8 : n ≤ 8) : p ∈ permsL n ↔ permB p = true ∧ p.length = n := by
  constructor
  · exact permsL_perm h8
  · rintro ⟨h1, rfl⟩; exact permB_mem h1
theorem child_perm {q : List Int} {v : Int} (h : permB q = true) (h8 : q.length + 1 ≤ 8) (hv : 1 ≤ v ∧ v ≤ q.length + 1) : permB (child q v) = true := by
  obtain ⟨_, hr, hn⟩ := permB_true h
  have hlen : (child q v).length = q.length + 1 := by simp [child]
  simp only [permB, decide_eq_true_eq]
  refine ⟨by omega, fun x hx => ?_, ?_⟩
  · rw [hlen]
    unfold child at hx
    rcases List.mem_append.1 hx with hx | hx
    · obtain ⟨y, hy, rfl⟩ := List.mem_map.1 hx
      have := hr y hy
      unfold bump
      split <;> (push_cast; omega)
    · obtain rfl := List.mem_singleton.1 hx
      push_cast; omega
  · unfold child
    rw [nodup_snoc]
    refine ⟨nodup_map_inj _ _ hn fun a _ b _ e => bump_inj e, fun hm => ?_⟩
    obtain ⟨y, _, e⟩ := List.mem_map.1 hm
    exact bump_ne v y e
theorem avoid_nil {X : List (List Int)} (hB : basisB X = true) : avoidB X [] = true := by
  unfold avoidB
  rw [Bool.not_eq_true', List.any_eq_false]
  intro t ht
  have hne : t.length ≠ 0 := by
    unfold basisB at hB
    rw [Bool.and_eq_true] at hB
    obtain ⟨i, hi, rfl⟩ := List.mem_iff_getElem.1 ht
    have := List.all_eq_true.1 hB.2 i (List.mem_range.2 hi)
    unfold basAt at this
    rw [List.getElem?_eq_getElem hi] at this
    simp only [Option.getD_some, Bool.and_eq_true, decide_eq_true_eq] at this
    exact this.1.1.2
  unfold hasB occL
  rw [occF_none [] t t.length [] (by rw [fromI_nil]; simp; omega) (by omega)]
  simp
theorem lastL_mem {X : List (List Int)} (hB : basisB X = true) : ∀ (k : Nat), k ≤ 8 → ∀ p, p ∈ lastL X k ↔ p ∈ clsL X k := by
  intro k
  induction k with
  | zero =>
    intro _ p
    have h1 : clsL X 0 = [[]] := by
      unfold clsL
      rw [show permsL 0 = [[]] from rfl, List.filter_cons_of_pos (avoid_nil hB)]; rfl
    rw [h1]; rfl
  | succ k ih =>
    intro hk p
    have ih := ih (by omega)
    unfold clsL
    rw [List.mem_filter, perm_of_mem hk]
    constructor
    · intro h
      obtain ⟨q, hq, hp⟩ := List.mem_flatMap.1 h
      obtain ⟨hp, ha⟩ := List.mem_filter.1 hp
      obtain ⟨v, hv, rfl⟩ := List.mem_map.1 hp
      have hq1 := (ih q).1 hq
      unfold clsL at hq1
      rw [List.mem_filter, perm_of_mem (by omega)] at hq1
      have hv1 := nums_mem.1 hv
      exact ⟨⟨child_perm hq1.1.1 (by omega) (by rw [hq1.1.2]; push_cast at hv1; omega), by simp [child, hq1.1.2]⟩, ha⟩
    · rintro ⟨⟨hp, hl⟩, ha⟩
      have hne : p ≠ [] := by intro e; subst e; simp at hl
      obtain ⟨r, v, rfl⟩ : ∃ r v, p = r ++ [v] := ⟨p.dropLast, p.getLast hne, (List.dropLast_concat_getLast hne).symm⟩
      obtain ⟨_, hr, hn⟩ := permB_true hp
      have hrl : r.length = k := by simpa using hl
      obtain ⟨hn1, hn2⟩ := (nodup_snoc r v).1 hn
      have hv := hr v (by simp)
      have hrv : ∀ x ∈ r, x ≠ v := fun x hx e => hn2 (e ▸ hx)
      have hch : child (r.map (unbump v)) v = r ++ [v] := by
        unfold child
        rw [List.map_map]
        congr 1
        conv => rhs; rw [← List.map_id r]
        exact List.map_congr_left fun x hx => bump_un (hrv x hx)
      have hqp : permB (r.map (unbump v)) = true := by
        simp only [permB, decide_eq_true_eq]
        refine ⟨by rw [List.length_map]; omega, fun x hx => ?_, ?_⟩
        · obtain ⟨y, hy, rfl⟩ := List.mem_map.1 hx
          have h1 := hr y (by simp [hy])
          have h2 := hrv y hy
          rw [List.length_map]
          simp only [List.length_append, List.length_singleton] at h1 hv
          unfold unbump
          split <;> (push_cast at h1 hv ⊢; omega)
        · exact nodup_map_inj _ _ hn1 fun a ha b hb e => un_inj (hrv a ha) (hrv b hb) e
      have hqa : avoidB X (r.map (unbump v)) = true := by
        unfold avoidB at ha ⊢
        rw [Bool.not_eq_true', List.any_eq_false] at ha ⊢
        intro t ht hh
        refine ha t ht (has_mono hp hqp (basis_perm hB t ht) (by simp) (fun i j hi hj => ?_) hh)
        rw [List.length_map] at hi hj
        have e1 : (r ++ [v])[i]'(by simp; omega) = r[i] := by simp [hi]
        have e2 : (r ++ [v])[j]'(by simp; omega) = r[j] := by simp [hj]
        rw [e1, e2, List.getElem_map, List.getElem_map]
        conv => rhs; rw [← bump_un (hrv _ (List.getElem_mem hi)), ← bump_un (hrv _ (List.getElem_mem hj))]
        exact (bump_lt v _ _).symm
      have hqm : r.map (unbump v) ∈ lastL X k := (ih _).2 (by
        unfold clsL
        rw [List.mem_filter, perm_of_mem (by omega)]
        exact ⟨⟨hqp, by rw [List.length_map, hrl]⟩, hqa⟩)
      refine List.mem_flatMap.2 ⟨_, hqm, List.mem_filter.2 ⟨List.mem_map.2 ⟨v, nums_mem.2 ?_, hch⟩, ha⟩⟩
      rw [hl] at hv
      exact hv
theorem child_inj {q r : List Int} {u v : Int} (h : child q u = child r v) : q = r ∧ u = v := by
  obtain ⟨h1, rfl⟩ := snoc_inj h
  refine ⟨?_, rfl⟩
  have hl := congrArg List.length h1
  rw [List.length_map, List.length_map] at hl
  apply List.ext_getElem hl
  intro i hi hj
  have h2 : (q.map (bump u))[i]'(by rw [List.length_map]; exact hi) = (r.map (bump u))[i]'(by rw [List.length_map]; exact hj) := by simp only [h1]
  rw [List.getElem_map, List.getElem_map] at h2
  exact bump_inj h2
theorem lastL_nodup (X : List (List Int)) (k : Nat) : (lastL X k).Nodup := by
  induction k with
  | zero => simp [lastL]
  | succ k ih =>
    refine nodup_flat _ _ ih (fun q _ => ?_) (fun a _ b _ x hx hy => ?_)
    · exact (nodup_map_inj _ _ (nums_nodup _) fun u _ v _ h => (child_inj h).2).filter _
    · obtain ⟨u, _, e1⟩ := List.mem_map.1 (List.mem_filter.1 hx).1
      obtain ⟨v, _, e2⟩ := List.mem_map.1 (List.mem_filter.1 hy).1
      exact (child_inj (e1.trans e2.symm)).1
theorem lastL_len {X : List (List Int)} (hB : basisB X = true) {k : Nat} (hk : k ≤ 8) : (lastL X k).length = (clsL X k).length := by
  have h1 := nodup_sub_len (lastL X k) (clsL X k) (lastL_nodup X k) (fun x hx => (lastL_mem hB k hk x).1 hx)
  have h2 := nodup_sub_len (clsL X k) (lastL X k) ((permsI_nodup k k).filter _) (fun x hx => (lastL_mem hB k hk x).2 hx)
  omega
end Go.Proofs.Ytmkaelefljjamaa
