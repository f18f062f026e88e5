/- Several texts in one, each with its own head: TM6, TM7, TM8, PT1, DT, X4, TI1, TI2. No program of ours. -/
import Derived.Shelf.Spec.SlicesGrow
import Derived.Test.YtldknpjeegdbmaaGreatShelfH
import Derived.Test.YtldknpjeegdbmaaGreatShelf
import Derived.Test.YtldknpjeegdbmaaGreatMTrees9
/- Plain maths of FnTrees: the roots of a tree; separable lists are those without 2413 and 3142. -/
namespace Go.Proofs.YtldknpjeegdbmaaGreat
set_option maxRecDepth 100000

/-- The roots of a tree, by fuel. -/
def rootsN : Nat → List Int → List (List Int)
  | 0, _ => []
  | f + 1, p => if p.length < 2 then [] else splitR p :: (splitP p).flatMap (rootsN f)
def fAt (l : List Int) (i : Nat) : Int := l[i]?.getD 0
def NoB (l : List Int) : Prop := No2413 (fAt l) l.length ∧ No3142 (fAt l) l.length
theorem noB_short {l : List Int} (h : l.length < 4) : NoB l := ⟨fun a b c d h1 h2 h3 h4 => by omega, fun a b c d h1 h2 h3 h4 => by omega⟩
theorem fAt_left {a b : List Int} {i : Nat} (h : i < a.length) : fAt (a ++ b) i = fAt a i := by unfold fAt; rw [List.getElem?_append_left h]
theorem fAt_right {a b : List Int} {i : Nat} (h : a.length ≤ i) : fAt (a ++ b) i = fAt b (i - a.length) := by unfold fAt; rw [List.getElem?_append_right h]
theorem fAt_map {a : List Int} {i : Nat} (x : Int) (h : i < a.length) : fAt (a.map (· + x)) i = fAt a i + x := by
  unfold fAt; rw [List.getElem?_map, List.getElem?_eq_getElem h]; rfl
theorem fAt_mem {a : List Int} {i : Nat} (h : i < a.length) : fAt a i ∈ a := by unfold fAt; rw [List.getElem?_eq_getElem h]; exact List.getElem_mem h
/-- Two parts, each at its own level. -/
theorem noB_two {f g h : Nat → Int} {n k : Nat} (hk : k ≤ n) (hg : ∀ i j, i < k → j < k → (f i < f j ↔ g i < g j)) (hh : ∀ i j, i < n - k → j < n - k → (f (k + i) < f (k + j) ↔ h i < h j))
    (hs : (∀ i j, i < k → k ≤ j → j < n → f i < f j) ∨ (∀ i j, i < k → k ≤ j → j < n → f j < f i)) :
    (No2413 f n ∧ No3142 f n) ↔ ((No2413 g k ∧ No3142 g k) ∧ (No2413 h (n - k) ∧ No3142 h (n - k))) := by
  constructor
  · rintro ⟨h1, h2⟩
    refine ⟨⟨fun a b c d x1 x2 x3 x4 hx => h1 a b c d x1 x2 x3 (by omega) ?_, fun a b c d x1 x2 x3 x4 hx => h2 a b c d x1 x2 x3 (by omega) ?_⟩, fun a b c d x1 x2 x3 x4 hx => h1 (k + a) (k + b) (k + c) (k + d) (by omega) (by omega) (by omega) (by omega) ?_, fun a b c d x1 x2 x3 x4 hx => h2 (k + a) (k + b) (k + c) (k + d) (by omega) (by omega) (by omega) (by omega) ?_⟩
    · exact ⟨(hg _ _ (by omega) (by omega)).2 hx.1, (hg _ _ (by omega) (by omega)).2 hx.2.1, (hg _ _ (by omega) (by omega)).2 hx.2.2⟩
    · exact ⟨(hg _ _ (by omega) (by omega)).2 hx.1, (hg _ _ (by omega) (by omega)).2 hx.2.1, (hg _ _ (by omega) (by omega)).2 hx.2.2⟩
    · exact ⟨(hh _ _ (by omega) (by omega)).2 hx.1, (hh _ _ (by omega) (by omega)).2 hx.2.1, (hh _ _ (by omega) (by omega)).2 hx.2.2⟩
    · exact ⟨(hh _ _ (by omega) (by omega)).2 hx.1, (hh _ _ (by omega) (by omega)).2 hx.2.1, (hh _ _ (by omega) (by omega)).2 hx.2.2⟩
  · rintro ⟨⟨h1, h2⟩, h3, h4⟩
    have key : ∀ a b c d, a < b → b < c → c < d → d < n → ((f c < f a ∧ f a < f d ∧ f d < f b) ∨ (f b < f d ∧ f d < f a ∧ f a < f c)) → d < k ∨ k ≤ a := by
      intro a b c d x1 x2 x3 x4 hx
      apply Classical.byContradiction
      intro hn
      have hd : k ≤ d := by omega
      have ha : a < k := by omega
      rcases hs with hs | hs
      · have e1 := hs a d ha hd x4
        rcases Nat.lt_or_ge b k with hb | hb
        · have e2 := hs b d hb hd x4
          rcases Nat.lt_or_ge c k with hc | hc
          · have e3 := hs c d hc hd x4; omega
          · have e3 := hs a c ha hc (by omega); have e4 := hs b c hb hc (by omega); omega
        · have e2 := hs a b ha hb (by omega); have e3 := hs a c ha (by omega) (by omega); omega
      · have e1 := hs a d ha hd x4
        rcases Nat.lt_or_ge b k with hb | hb
        · have e2 := hs b d hb hd x4
          rcases Nat.lt_or_ge c k with hc | hc
          · have e3 := hs c d hc hd x4; omega
          · have e3 := hs a c ha hc (by omega); have e4 := hs b c hb hc (by omega); omega
        · have e2 := hs a b ha hb (by omega); have e3 := hs a c ha (by omega) (by omega); omega
    refine ⟨fun a b c d x1 x2 x3 x4 hx => ?_, fun a b c d x1 x2 x3 x4 hx => ?_⟩
    · rcases key a b c d x1 x2 x3 x4 (.inl hx) with hd | ha
      · exact h1 a b c d x1 x2 x3 hd ⟨(hg _ _ (by omega) (by omega)).1 hx.1, (hg _ _ (by omega) (by omega)).1 hx.2.1, (hg _ _ (by omega) (by omega)).1 hx.2.2⟩
      · have e : ∀ i, k ≤ i → k + (i - k) = i := fun i hi => by omega
        refine h3 (a - k) (b - k) (c - k) (d - k) (by omega) (by omega) (by omega) (by omega) ⟨?_, ?_, ?_⟩
        · refine (hh _ _ (by omega) (by omega)).1 ?_; rw [e c (by omega), e a ha]; exact hx.1
        · refine (hh _ _ (by omega) (by omega)).1 ?_; rw [e a ha, e d (by omega)]; exact hx.2.1
        · refine (hh _ _ (by omega) (by omega)).1 ?_; rw [e d (by omega), e b (by omega)]; exact hx.2.2
    · rcases key a b c d x1 x2 x3 x4 (.inr hx) with hd | ha
      · exact h2 a b c d x1 x2 x3 hd ⟨(hg _ _ (by omega) (by omega)).1 hx.1, (hg _ _ (by omega) (by omega)).1 hx.2.1, (hg _ _ (by omega) (by omega)).1 hx.2.2⟩
      · have e : ∀ i, k ≤ i → k + (i - k) = i := fun i hi => by omega
        refine h4 (a - k) (b - k) (c - k) (d - k) (by omega) (by omega) (by omega) (by omega) ⟨?_, ?_, ?_⟩
        · refine (hh _ _ (by omega) (by omega)).1 ?_; rw [e b (by omega), e d (by omega)]; exact hx.1
        · refine (hh _ _ (by omega) (by omega)).1 ?_; rw [e d (by omega), e a ha]; exact hx.2.1
        · refine (hh _ _ (by omega) (by omega)).1 ?_; rw [e a ha, e c (by omega)]; exact hx.2.2
theorem noB_join {b : Bool} {q s : List Int} (hq : permB q = true) (hs : permB s = true) : NoB (join1 b q s) ↔ NoB q ∧ NoB s := by
  have hl := join1_len b q s
  obtain ⟨_, qr, _⟩ := permB_true hq
  obtain ⟨_, sr, _⟩ := permB_true hs
  have e : ∃ x y : Int, join1 b q s = q.map (· + x) ++ s.map (· + y) ∧ ((x = 0 ∧ y = q.length) ∨ (x = s.length ∧ y = 0)) := by
    cases b with
    | true => exact ⟨s.length, 0, by simp [join1], .inr ⟨rfl, rfl⟩⟩
    | false => exact ⟨0, q.length, by simp [join1], .inl ⟨rfl, rfl⟩⟩
  obtain ⟨x, y, e, hxy⟩ := e
  have hf1 : ∀ i, i < q.length → fAt (join1 b q s) i = fAt q i + x := fun i hi => by rw [e, fAt_left (by simpa using hi), fAt_map x hi]
  have hf2 : ∀ i, i < s.length → fAt (join1 b q s) (q.length + i) = fAt s i + y := fun i hi => by
    rw [e, fAt_right (by simp), List.length_map, Nat.add_sub_cancel_left, fAt_map y hi]
  unfold NoB
  rw [hl]
  have := noB_two (f := fAt (join1 b q s)) (g := fAt q) (h := fAt s) (n := q.length + s.length) (k := q.length) (by omega)
    (fun i j hi hj => by rw [hf1 i hi, hf1 j hj]; omega) (fun i j hi hj => by rw [hf2 i (by omega), hf2 j (by omega)]; omega)
    (by
      rcases hxy with ⟨rfl, rfl⟩ | ⟨rfl, rfl⟩
      · left
        intro i j hi hj hjn
        obtain ⟨j', rfl⟩ : ∃ j', j = q.length + j' := ⟨j - q.length, by omega⟩
        rw [hf1 i hi, hf2 j' (by omega)]
        have h1 := qr _ (fAt_mem hi)
        have h2 := sr _ (fAt_mem (show j' < s.length by omega))
        omega
      · right
        intro i j hi hj hjn
        obtain ⟨j', rfl⟩ : ∃ j', j = q.length + j' := ⟨j - q.length, by omega⟩
        rw [hf1 i hi, hf2 j' (by omega)]
        have h1 := qr _ (fAt_mem hi)
        have h2 := sr _ (fAt_mem (show j' < s.length by omega))
        omega)
  rw [this, show q.length + s.length - q.length = s.length by omega]
end Go.Proofs.YtldknpjeegdbmaaGreat

/- Plain maths of FnTrees: separable lists are those without 2413 and 3142. -/
namespace Go.Proofs.YtldknpjeegdbmaaGreat
set_option maxRecDepth 100000

/-- A place where the first ones are below all others is a cut. -/
theorem cut_of {p : List Int} {k : Nat} (hp : permB p = true) (h : SumAt (fAt p) p.length k) : pmax p k = (k : Int) := by
  obtain ⟨h0, hk, hs⟩ := h
  obtain ⟨h8, hr, hn⟩ := permB_true hp
  have hat : ∀ i (hi : i < p.length), fAt p i = p[i] := fun i hi => by unfold fAt; rw [List.getElem?_eq_getElem hi]; rfl
  -- the greatest of the first k
  have hm : pmax p k ∈ p.take k := by
    rcases (fold_max (p.take k) 0).2.2 with h | h
    · exfalso
      have h1 := pmax_le (p := p) (k := k) (p[0]'(by omega)) (List.mem_take_iff_getElem.2 ⟨0, by omega, rfl⟩)
      have h2 := hr (p[0]'(by omega)) (List.getElem_mem _)
      have h3 : pmax p k = 0 := h
      omega
    · exact h
  have hle : ∀ v, 1 ≤ v → v ≤ pmax p k → v ∈ p.take k := fun v h1 h2 => by
    have hM := hr _ (List.mem_of_mem_take hm)
    have hv := perm_mem hn hr rfl v (by omega)
    obtain ⟨j, hj, rfl⟩ := List.mem_iff_getElem.1 hv
    rcases Nat.lt_or_ge j k with hjk | hjk
    · exact List.mem_take_iff_getElem.2 ⟨j, by omega, rfl⟩
    · exfalso
      obtain ⟨i, hi, he⟩ := List.mem_take_iff_getElem.1 hm
      have := hs i j (by omega) hjk hj
      rw [hat i (by omega), hat j hj, he] at this
      omega
  have hl : (p.take k).length = k := by rw [List.length_take]; omega
  have hnd : (p.take k).Nodup := hn.sublist (List.take_sublist _ _)
  have hM := hr _ (List.mem_of_mem_take hm)
  have a1 := nodup_sub_len (p.take k) (fromL 1 (pmax p k).toNat) hnd fun x hx => by
    have h1 := pmax_le x hx
    have h2 := hr x (List.mem_of_mem_take hx)
    exact fromL_mem.2 (by omega)
  have a2 := nodup_sub_len (fromL 1 (pmax p k).toNat) (p.take k) (fromL_nodup _ _) fun x hx => by
    have := fromL_mem.1 hx
    exact hle x (by omega) (by omega)
  rw [fromL_length, hl] at a1 a2
  omega
theorem sumTo_prefix (p : List Int) (k : Nat) : ∀ m, ∃ r, sumTo p (k + m) = sumTo p k ++ r := by
  intro m
  induction m with
  | zero => exact ⟨[], by simp⟩
  | succ m ih =>
    obtain ⟨r, hr⟩ := ih
    rw [show k + (m + 1) = (k + m) + 1 by omega]
    rw [show sumTo p ((k + m) + 1) = if pmax p (k + m + 1) = ((k + m : Nat) : Int) + 1 then sumTo p (k + m) ++ [partS p (k + m)] else sumTo p (k + m) from rfl]
    split
    · exact ⟨r ++ [partS p (k + m)], by rw [hr, List.append_assoc]⟩
    · exact ⟨r, hr⟩
theorem sum_many {p : List Int} {k : Nat} (hp : permB p = true) (h : SumAt (fAt p) p.length k) : 1 < (sumL p).length := by
  have hc := cut_of hp h
  obtain ⟨h0, hk, _⟩ := h
  have hcut : cutN p k = k := by
    obtain ⟨k', rfl⟩ : ∃ k', k = k' + 1 := ⟨k - 1, by omega⟩
    unfold cutN
    rw [if_pos (by rw [hc]; push_cast; rfl)]
  obtain ⟨r, hr⟩ := sumTo_prefix p k (p.length - k)
  rw [show k + (p.length - k) = p.length by omega] at hr
  have j1 := sumTo_join hp (k := k) (by omega)
  rw [hcut] at j1
  have l1 := congrArg List.length j1
  rw [joinL_len, List.length_take, Nat.min_eq_left (by omega)] at l1
  have j2 := congrArg List.length (sum_join hp)
  rw [joinL_len, sumL, hr, List.map_append, List.sum_append, l1] at j2
  rw [sumL, hr, List.length_append]
  have a : sumTo p k ≠ [] := fun e => by rw [e] at l1; simp at l1; omega
  have b : r ≠ [] := fun e => by rw [e] at j2; simp at j2; omega
  have := len_pos a
  have := len_pos b
  omega
theorem fAt_compl {p : List Int} {i : Nat} (h : i < p.length) : fAt (complL p) i = (p.length : Int) + 1 - fAt p i := by
  unfold fAt complL
  rw [List.getElem?_map, List.getElem?_eq_getElem h]; rfl
theorem skew_many {p : List Int} {k : Nat} (hp : permB p = true) (h : SumAt (fun i => - fAt p i) p.length k) : 1 < (skewL p).length := by
  unfold skewL
  rw [List.length_map]
  refine sum_many (k := k) (perm_compl hp) ?_
  rw [complL_length]
  obtain ⟨h0, hk, hs⟩ := h
  refine ⟨h0, hk, fun i j hi hj hjn => ?_⟩
  have h1 : - fAt p i < - fAt p j := hs i j hi hj hjn
  rw [fAt_compl (by omega), fAt_compl hjn]
  omega
theorem noB_split {p : List Int} (hp : permB p = true) (h2 : 2 ≤ p.length) (h : NoB p) : 1 < (sumL p).length ∨ 1 < (skewL p).length := by
  obtain ⟨_, _, hn⟩ := permB_true hp
  have hd : DiffOn (fAt p) p.length := fun i j hij hj e => by
    have hat : ∀ i (hi : i < p.length), fAt p i = p[i] := fun i hi => by unfold fAt; rw [List.getElem?_eq_getElem hi]; rfl
    rw [hat i (by omega), hat j hj] at e
    have := nodup_inj hn (i := i) (j := j) (by omega) hj e
    omega
  rcases dec_of (fAt p) p.length h2 hd h.1 h.2 with ⟨k, hk⟩ | ⟨k, hk⟩
  · exact .inl (sum_many hp hk)
  · exact .inr (skew_many hp hk)
/-- Two blocks alone make a sum or a skew sum. -/
theorem two_blocks {p : List Int} {bs : List (List Int)} (hp : permB p = true) (h : Blks p bs) (hl : bs.length = 2) : 1 < (sumL p).length ∨ 1 < (skewL p).length := by
  match bs, hl with
  | [a, b], _ =>
    have hf : p = a ++ b := by rw [← h.flat]; simp
    have hn := (permB_true hp).2.2
    have ha := h.ne a (by simp)
    have hb := h.ne b (by simp)
    have la := len_pos ha
    have lb := len_pos hb
    have hla : p.length = a.length + b.length := by rw [hf, List.length_append]
    have hne : headL a ≠ headL b := fun e => by
      have := head_inj h hn (a := a) (b := b) (by simp) (by simp) e
      subst this
      rw [hf, List.nodup_append] at hn
      exact hn.2.2 (headL a) (headL_mem ha) (headL a) (headL_mem ha) rfl
    have f1 : ∀ i, i < a.length → fAt p i ∈ a := fun i hi => by rw [hf, fAt_left hi]; exact fAt_mem hi
    have f2 : ∀ j, a.length ≤ j → j < p.length → fAt p j ∈ b := fun j hj hjn => by rw [hf, fAt_right hj]; exact fAt_mem (by omega)
    rcases Int.lt_or_le (headL a) (headL b) with hh | hh
    · refine .inl (sum_many (k := a.length) hp ⟨la, by omega, fun i j hi hj hjn => ?_⟩)
      exact blks_lt h hn (a := a) (b := b) (by simp) (by simp) hh _ (f1 i hi) _ (f2 j hj hjn)
    · refine .inr (skew_many (k := a.length) hp ⟨la, by omega, fun i j hi hj hjn => ?_⟩)
      have := blks_lt h hn (a := b) (b := a) (by simp) (by simp) (by omega) _ (f2 j hj hjn) _ (f1 i hi)
      show - fAt p i < - fAt p j
      omega
/-- All roots have two numbers just where neither 2413 nor 3142 occurs. -/
theorem sep_iff : ∀ f (p : List Int), permB p = true → p.length ≤ f → ((∀ r ∈ rootsN f p, r.length ≤ 2) ↔ NoB p) := by
  intro f
  induction f with
  | zero => intro p _ hl; exact ⟨fun _ => noB_short (by omega), fun _ r hr => (List.not_mem_nil hr).elim⟩
  | succ f ih =>
    intro p hp hl
    by_cases h2 : p.length < 2
    · have e : rootsN (f + 1) p = [] := by rw [rootsN, if_pos h2]
      rw [e]
      exact ⟨fun _ => noB_short (by omega), fun _ r hr => (List.not_mem_nil hr).elim⟩
    have e : rootsN (f + 1) p = splitR p :: (splitP p).flatMap (rootsN f) := by rw [rootsN, if_neg h2]
    have hne : p ≠ [] := fun e => by rw [e] at h2; simp at h2
    have hs := split_is hp hne
    have hpart := (split_part hp hs).1
    rw [e]
    generalize splitR p = r0 at *
    generalize splitP p = L0 at *
    cases hs with
    | one h hr hL => omega
    | two b q s h hq hs hq0 hs0 hr hL =>
      subst hr hL
      have hql := (hpart q (by simp)).2.2 (by omega)
      have hsl := (hpart s (by simp)).2.2 (by omega)
      have i1 := ih q hq (by omega)
      have i2 := ih s hs (by omega)
      rw [h, noB_join hq hs, ← i1, ← i2]
      constructor
      · intro hh
        exact ⟨fun r hr => hh r (by simp [hr]), fun r hr => hh r (by simp [hr])⟩
      · rintro ⟨h1, h3⟩ r hr
        simp only [List.flatMap_cons, List.flatMap_nil, List.append_nil, List.mem_cons, List.mem_append] at hr
        rcases hr with rfl | hr | hr
        · cases b <;> simp [rootB]
        · exact h1 r hr
        · exact h3 r hr
    | many bs h2' h hg hlt h1 h1' hr hL =>
      constructor
      · intro hh
        exfalso
        have h3 := hh r0 (by simp)
        rw [hr, rootL_length] at h3
        have hb2 : bs.length = 2 := by
          have h4 := h.flat
          rcases Nat.lt_or_ge bs.length 2 with h5 | h5
          · exfalso
            match bs, h5 with
            | [], _ =>
              have hf : p = [] := by rw [← h4]; rfl
              rw [hf] at h2'
              simp at h2'
            | [b], _ =>
              have := hlt b (by simp)
              have hbp : b = p := by simpa using h4
              rw [hbp] at this
              omega
          · omega
        rcases two_blocks hp h hb2 with h5 | h5 <;> omega
      · intro hh
        exfalso
        rcases noB_split hp (by omega) hh with h5 | h5 <;> omega
end Go.Proofs.YtldknpjeegdbmaaGreat

/- Plain maths of FnTrees: 2413 and 3142 as patterns. -/
namespace Go.Proofs.YtldknpjeegdbmaaGreat
set_option maxRecDepth 100000

theorem fAt_at1 (p : List Int) (i : Nat) : at1 p ((i : Int) + 1) = fAt p i := by
  unfold at1 fAt
  rw [show ((i : Int) + 1 - 1).toNat = i by omega]
theorem four_cases {i : Int} (h : 1 ≤ i ∧ i ≤ 4) : i = 1 ∨ i = 2 ∨ i = 3 ∨ i = 4 := by omega
theorem occ_four {p q l : List Int} (h : Occ p q l) (hq : q.length = 4) : ∃ a b c d : Nat, a < b ∧ b < c ∧ c < d ∧ d < p.length ∧ at1 l 1 = (a : Int) + 1 ∧ at1 l 2 = (b : Int) + 1 ∧ at1 l 3 = (c : Int) + 1 ∧ at1 l 4 = (d : Int) + 1 := by
  have hl : l.length = 4 := by rw [h.len, hq]
  have r1 := h.rng 1 (by omega) (by omega)
  have r2 := h.rng 2 (by omega) (by omega)
  have r3 := h.rng 3 (by omega) (by omega)
  have r4 := h.rng 4 (by omega) (by omega)
  have i1 := h.inc 1 2 (by omega) (by omega) (by omega)
  have i2 := h.inc 2 3 (by omega) (by omega) (by omega)
  have i3 := h.inc 3 4 (by omega) (by omega) (by omega)
  exact ⟨(at1 l 1 - 1).toNat, (at1 l 2 - 1).toNat, (at1 l 3 - 1).toNat, (at1 l 4 - 1).toNat, by omega, by omega, by omega, by omega, by omega, by omega, by omega, by omega⟩
theorem four_at (a b c d : Int) : at1 [a, b, c, d] 1 = a ∧ at1 [a, b, c, d] 2 = b ∧ at1 [a, b, c, d] 3 = c ∧ at1 [a, b, c, d] 4 = d := ⟨rfl, rfl, rfl, rfl⟩
theorem occ_mk {p : List Int} {a b c d : Nat} {q1 q2 q3 q4 : Int} (h1 : a < b) (h2 : b < c) (h3 : c < d) (h4 : d < p.length)
    (h12 : q1 < q2 ↔ fAt p a < fAt p b) (h13 : q1 < q3 ↔ fAt p a < fAt p c) (h14 : q1 < q4 ↔ fAt p a < fAt p d) (h21 : q2 < q1 ↔ fAt p b < fAt p a) (h23 : q2 < q3 ↔ fAt p b < fAt p c) (h24 : q2 < q4 ↔ fAt p b < fAt p d) (h31 : q3 < q1 ↔ fAt p c < fAt p a) (h32 : q3 < q2 ↔ fAt p c < fAt p b) (h34 : q3 < q4 ↔ fAt p c < fAt p d) (h41 : q4 < q1 ↔ fAt p d < fAt p a) (h42 : q4 < q2 ↔ fAt p d < fAt p b) (h43 : q4 < q3 ↔ fAt p d < fAt p c) :
    Occ p [q1, q2, q3, q4] [(a : Int) + 1, (b : Int) + 1, (c : Int) + 1, (d : Int) + 1] := by
  obtain ⟨l1, l2, l3, l4⟩ := four_at ((a : Int) + 1) ((b : Int) + 1) ((c : Int) + 1) ((d : Int) + 1)
  obtain ⟨e1, e2, e3, e4⟩ := four_at q1 q2 q3 q4
  refine ⟨rfl, fun i j hi hij hj => ?_, fun i hi hil => ?_, fun i j hi hj => ?_⟩
  · have hj4 : j ≤ 4 := by simpa using hj
    rcases four_cases (i := i) (by omega) with rfl | rfl | rfl | rfl <;> rcases four_cases (i := j) (by omega) with rfl | rfl | rfl | rfl <;> first | omega | (simp only [l1, l2, l3, l4]; omega)
  · have hi4 : i ≤ 4 := by simpa using hil
    rcases four_cases (i := i) (by omega) with rfl | rfl | rfl | rfl <;> simp only [l1, l2, l3, l4] <;> omega
  · have hi4 : i ≤ 4 := by simpa using hi.2
    have hj4 : j ≤ 4 := by simpa using hj.2
    rcases four_cases (i := i) (by omega) with rfl | rfl | rfl | rfl <;> rcases four_cases (i := j) (by omega) with rfl | rfl | rfl | rfl <;> simp only [l1, l2, l3, l4, e1, e2, e3, e4, fAt_at1]
    · exact ⟨fun h => absurd h (Int.lt_irrefl _), fun h => absurd h (Int.lt_irrefl _)⟩
    · exact h12
    · exact h13
    · exact h14
    · exact h21
    · exact ⟨fun h => absurd h (Int.lt_irrefl _), fun h => absurd h (Int.lt_irrefl _)⟩
    · exact h23
    · exact h24
    · exact h31
    · exact h32
    · exact ⟨fun h => absurd h (Int.lt_irrefl _), fun h => absurd h (Int.lt_irrefl _)⟩
    · exact h34
    · exact h41
    · exact h42
    · exact h43
    · exact ⟨fun h => absurd h (Int.lt_irrefl _), fun h => absurd h (Int.lt_irrefl _)⟩
theorem has_2413 {p : List Int} (hp : permB p = true) : hasB p [2, 4, 1, 3] = false ↔ No2413 (fAt p) p.length := by
  constructor
  · intro h a b c d h1 h2 h3 h4 hx
    have : hasB p [2, 4, 1, 3] = true := (has_iff hp (by decide)).2 ⟨_, occ_mk h1 h2 h3 h4 (by omega) (by omega) (by omega) (by omega) (by omega) (by omega) (by omega) (by omega) (by omega) (by omega) (by omega) (by omega)⟩
    rw [h] at this; cases this
  · intro h
    cases hc : hasB p [2, 4, 1, 3] with
    | false => rfl
    | true =>
      exfalso
      obtain ⟨l, hl⟩ := (has_iff hp (by decide)).1 hc
      obtain ⟨a, b, c, d, h1, h2, h3, h4, e1, e2, e3, e4⟩ := occ_four hl rfl
      obtain ⟨q1, q2, q3, q4⟩ := four_at 2 4 1 3
      have o1 := (hl.ord 3 1 (by simp) (by simp)).1 (by rw [q3, q1]; omega)
      have o2 := (hl.ord 1 4 (by simp) (by simp)).1 (by rw [q1, q4]; omega)
      have o3 := (hl.ord 4 2 (by simp) (by simp)).1 (by rw [q4, q2]; omega)
      rw [e3, e1, fAt_at1, fAt_at1] at o1
      rw [e1, e4, fAt_at1, fAt_at1] at o2
      rw [e4, e2, fAt_at1, fAt_at1] at o3
      exact h a b c d h1 h2 h3 h4 ⟨o1, o2, o3⟩
theorem has_3142 {p : List Int} (hp : permB p = true) : hasB p [3, 1, 4, 2] = false ↔ No3142 (fAt p) p.length := by
  constructor
  · intro h a b c d h1 h2 h3 h4 hx
    have : hasB p [3, 1, 4, 2] = true := (has_iff hp (by decide)).2 ⟨_, occ_mk h1 h2 h3 h4 (by omega) (by omega) (by omega) (by omega) (by omega) (by omega) (by omega) (by omega) (by omega) (by omega) (by omega) (by omega)⟩
    rw [h] at this; cases this
  · intro h
    cases hc : hasB p [3, 1, 4, 2] with
    | false => rfl
    | true =>
      exfalso
      obtain ⟨l, hl⟩ := (has_iff hp (by decide)).1 hc
      obtain ⟨a, b, c, d, h1, h2, h3, h4, e1, e2, e3, e4⟩ := occ_four hl rfl
      obtain ⟨q1, q2, q3, q4⟩ := four_at 3 1 4 2
      have o1 := (hl.ord 2 4 (by simp) (by simp)).1 (by rw [q2, q4]; omega)
      have o2 := (hl.ord 4 1 (by simp) (by simp)).1 (by rw [q4, q1]; omega)
      have o3 := (hl.ord 1 3 (by simp) (by simp)).1 (by rw [q1, q3]; omega)
      rw [e2, e4, fAt_at1, fAt_at1] at o1
      rw [e4, e1, fAt_at1, fAt_at1] at o2
      rw [e1, e3, fAt_at1, fAt_at1] at o3
      exact h a b c d h1 h2 h3 h4 ⟨o1, o2, o3⟩
/-- The law's last word on separable lists. -/
def sepB (p : List Int) : Bool := permB p && (rootsN 8 p).all fun r => decide (r.length ≤ 2)
theorem sep_has {p : List Int} (hp : permB p = true) : sepB p = (!hasB p [2, 4, 1, 3] && !hasB p [3, 1, 4, 2]) := by
  have h1 := sep_iff 8 p hp (permB_true hp).1
  unfold sepB
  rw [hp, Bool.true_and, Bool.eq_iff_iff, List.all_eq_true, Bool.and_eq_true, Bool.not_eq_true', Bool.not_eq_true', has_2413 hp, has_3142 hp]
  constructor
  · intro h; exact h1.1 fun r hr => of_decide_eq_true (h r hr)
  · intro h r hr; exact decide_eq_true (h1.2 h r hr)
end Go.Proofs.YtldknpjeegdbmaaGreat

/- Patterns: the program's and the reference's outer functions (OccurrencesOf, CountPattern, HasPattern, WithoutPlace, LowersOf), hasList. -/
namespace Go.Proofs.YtldknpjeegdbmaaGreat
set_option maxRecDepth 100000
open Go Go.RowKit

theorem retL_nil {w w' : World} (hb : Below w.heap.size w w') : RetL w [] (.returned (.slice none 0 0)) w' :=
  ⟨none, 0, [], rfl, rfl, Own.nil_list _ _ _, hb⟩
def ooG (p q : List Int) : List (List Int) := if permB p = true ∧ permB q = true then occL p q else []
theorem RetL.after {w w1 w' : World} {L : List (List Int)} {e : Ending} (h : RetL w1 L e w') (hb : Below w.heap.size w w1) : RetL w L e w' := by
  obtain ⟨A, c, rs, rfl, hX, hO, hb2⟩ := h
  exact ⟨A, c, rs, rfl, hX, hO.wider hb.size (Nat.le_refl _), hb.trans (hb2.mono hb.size)⟩
theorem two_perms (p q : List Int) : (permB p = true ∧ permB q = true) ∨ (permB p = true ∧ permB q = false) ∨ permB p = false := by
  cases permB p <;> cases permB q <;> simp
set_option maxHeartbeats 1000000 in
theorem occurrencesOf_any (A B : Option Addr) (c d : Nat) (p q : List Int) (w : World) (hp : In w A c p) (hq : In w B d q) :
    Calls Tryz.prog 79 #[.slice A p.length c, .slice B q.length d] w (RetL w (ooG p q)) := by
  rcases two_perms p q with h | h | h
  · have := occurrencesOf_spec A B c d p q w hp hq h.1 h.2
    rwa [show ooG p q = occL p q by rw [ooG, if_pos h]]
  · have H1 := Lib.hid h.1
    have H2 := Lib.hid h.2
    have HG := Lib.hid (show ooG p q = [] by rw [ooG, if_neg (by simp [h.2])])
    clear h
    go_enter Tryz.func79, Tryz.ntmps79
    go_wp2_with fail
    (with_reducible refine (isPerm_sb A c p w true hp H1.out).mono ?_)
    rintro e w1 ⟨rfl, hd1⟩
    go_wp2_with fail
    (with_reducible refine (isPerm_sb B d q w1 false (hq.dr hd1) H2.out).mono ?_)
    rintro e w2 ⟨rfl, hd2⟩
    have hb := below_dr (Below.refl w.heap.size w) (hd1.trans hd2)
    go_wp2_with fail
    go_ret
    rw [HG.out]
    exact ⟨_, 0, [], rfl, rfl, Own.lit _ hb.size, hb.alloc hb.size _⟩
  · have H1 := Lib.hid h
    have HG := Lib.hid (show ooG p q = [] by rw [ooG, if_neg (by simp [h])])
    clear h
    go_enter Tryz.func79, Tryz.ntmps79
    go_wp2_with fail
    (with_reducible refine (isPerm_sb A c p w false hp H1.out).mono ?_)
    rintro e w1 ⟨rfl, hd1⟩
    have hb := below_dr (Below.refl w.heap.size w) hd1
    go_wp2_with fail
    go_ret
    rw [HG.out]
    exact ⟨_, 0, [], rfl, rfl, Own.lit _ hb.size, hb.alloc hb.size _⟩
/-- Does the pattern occur? -/
def hpG (p q : List Int) : Bool := permB p && permB q && hasB p q
theorem hp_count (p q : List Int) : decide (1 ≤ cpG p q) = hpG p q := by
  rcases two_perms p q with h | h | h
  · rw [cpG, if_pos h, hpG, h.1, h.2]
    unfold hasB
    cases occL p q with
    | nil => simp
    | cons a t => simp; omega
  · rw [cpG, if_neg (by simp [h.2]), hpG, h.2]; simp
  · rw [cpG, if_neg (by simp [h]), hpG, h]; simp
theorem hasPattern_spec (A B : Option Addr) (c d : Nat) (p q : List Int) (w : World) (b : Bool) (hp : In w A c p) (hq : In w B d q) (hb : hpG p q = b) :
    Calls Tryz.prog 22 #[.slice A p.length c, .slice B q.length d] w (Rb w (.bool b)) := by
  have HB := Lib.hid (show decide (1 ≤ cpG p q) = b by rw [hp_count]; exact hb)
  have HC := Lib.hid (countPattern_spec A B c d p q w hp hq)
  clear hb
  go_enter Tryz.func22, Tryz.ntmps22
  go_wp2_with fail
  (with_reducible refine HC.out.mono ?_)
  rintro e w1 ⟨rfl, hb1⟩
  go_wp2_with fail
  go_ret
  exact ⟨ret_bool (by rw [← HB.out]), hb1⟩
/-- The pattern that is left without a place. -/
def wpB (p : List Int) (x : Int) : Bool := permB p && decide (1 ≤ x ∧ x ≤ p.length)
def wpG (p : List Int) (x : Int) : List Int := if wpB p x = true then patL (cutAt p (x - 1).toNat) else []
theorem wpG_le (p : List Int) (x : Int) : (wpG p x).length ≤ p.length := by
  unfold wpG wpB
  split
  · rw [patL_length]; simp [cutAt]; omega
  · simp
def lowG (p : List Int) : List (List Int) := if permB p = true then lowL p else []
end Go.Proofs.YtldknpjeegdbmaaGreat

/- The draws of FnTrees. -/
namespace Go.Proofs.YtldknpjeegdbmaaGreat
set_option maxRecDepth 100000
open Go Go.RowKit

theorem inL_two {w : World} {g : Nat} {r s : Row} (ho : w.heap[g]? = some (Obj.cells #[r.v, s.v] 24 (0, 0))) (hr : In w r.A r.c r.xs) (hs : In w s.A s.c s.xs) (hl : r.xs.length + s.xs.length ≤ 1000) : InL w (some ⟨g, 0, none⟩) 2 [r, s] := by
  refine ⟨by simp [sizeR]; omega, fun x hx => ?_, fun x hx => ?_, fun o hx => ?_, fun o hx => ?_⟩
  · simp only [List.mem_cons, List.not_mem_nil, or_false] at hx
    rcases hx with rfl | rfl
    · exact hr.cap
    · exact hs.cap
  · simp only [List.mem_cons, List.not_mem_nil, or_false] at hx
    rcases hx with rfl | rfl
    · exact hr.rd
    · exact hs.rd
  · obtain rfl := List.mem_singleton.1 hx
    exact Nat.le_refl _
  · obtain rfl := List.mem_singleton.1 hx
    intro _
    refine ⟨g, 0, rfl, obj_lt ho, fun j hj => ?_⟩
    have hj : j < 2 := hj
    rw [obj_cell ho]
    rcases j with _ | _ | j
    · rfl
    · rfl
    · omega
theorem few_sizeT {X : List (List Int)} {n m : Nat} (hl : X.length ≤ n) (h : ∀ q ∈ X, q.length ≤ m) : X.length + sizeX X ≤ n + n * m := by
  have h1 : sizeX X ≤ X.length * m := by
    clear hl
    induction X with
    | nil => simp [sizeX]
    | cons a t ih =>
      have h2 := h a (by simp)
      have h3 := ih fun q hq => h q (by simp [hq])
      have h4 : sizeX (a :: t) = a.length + sizeX t := by simp [sizeX]
      rw [h4, List.length_cons, Nat.add_mul, Nat.one_mul]
      omega
  have := Nat.mul_le_mul_right m hl
  omega
theorem Own.drawnT {w w' : World} {lo hi q c : Nat} {rs : List Row} {os : List Outer} {A : Option Addr} {bs : List Int} (h : Own w lo hi rs os) (k : Drawn w w' q A c bs) (hq : q < lo) : Own w' lo hi rs os := h.span k.span (.inr hq)
set_option maxHeartbeats 4000000 in
theorem l5Inflated_any (w : World) (q : Nat) (A : Option Addr) (c : Nat) (bs : List Int) (hc : Cur w q A c bs) :
    Calls Tryz.prog 55 #[.pointer (some ⟨q, 0, none⟩)] w (RetD w q A c bs fun ys => ys.length ≤ 9) := by
  obtain ⟨j0, hj, hy0, hy1, hy2⟩ := info_parts infoL
  have hq := hc.lt
  have HC := Lib.hid (l1Below_any w q A c bs 5 (by omega) hc)
  go_enter Tryz.func55, Tryz.ntmps55
  go_wp2_with fail
  (with_reducible refine HC.out.mono ?_)
  rintro e w1 ⟨x, rfl, hx, k1⟩
  have hx4 : 0 ≤ x ∧ x ≤ 4 := by have := hx.2.1 (by omega); omega
  obtain ⟨n, hn⟩ : ∃ n : Nat, 1 + x = n := ⟨(1 + x).toNat, by omega⟩
  have e1 : IntKind.i64.wrap (1 + x) = (n : Int) := by rw [IntWalk.i64_in _ (by omega)]; exact hn
  have HD := Lib.hid (l2Draw_any w1 q A c bs n (by omega) k1.cur)
  have hn5 : n ≤ 5 := by omega
  clear HC hx hn
  go_wp2_with fail
  (with_reducible refine HD.out.mono ?_)
  rintro e w2 ⟨D, dk, ys, rfl, hp, ho, k2⟩
  have hyl : ys.length ≤ 8 := by rw [hp.length_eq, upToL_length]; omega
  have ho := own_mono ho k1.span.size
  have k2 := k1.trans k2
  have HO := Lib.hid (l1Once_any w2 q A c bs 2 (by omega) k2.cur)
  clear HD hp hn5 e1 hx4 k1
  go_wp2_with fail
  (with_reducible refine HO.out.mono ?_)
  rintro e w3 ⟨b, rfl, k3⟩
  have ho := own_drawn ho k3 hq
  have k3 := k2.trans k3
  clear HO k2
  rcases b with _ | _
  case' true =>
    clear hyl ho
    have hs3 := k3.span.size
    have hbo := (Below.refl w3.heap.size w3).alloc (Nat.le_refl _) (Obj.cells #[Value.string ⟨#[50, 52, 49, 51]⟩, Value.string ⟨#[51, 49, 52, 50]⟩, Value.string ⟨#[50, 52, 49, 53, 51]⟩, Value.string ⟨#[50, 53, 51, 49, 52]⟩, Value.string ⟨#[51, 49, 53, 50, 52]⟩] 9)
    have k4 := k3.next (hbo.mono hs3) hq
    have HP := Lib.hid (l1PickS_any _ q A c bs w3.heap.size 5 5 [⟨#[50, 52, 49, 51]⟩, ⟨#[51, 49, 52, 50]⟩, ⟨#[50, 52, 49, 53, 51]⟩, ⟨#[50, 53, 51, 49, 52]⟩, ⟨#[51, 49, 53, 50, 52]⟩] rfl (by decide) (by decide) (by omega) (by simp) (fun j hj => (obj_cell (obj_new w3 _)).trans (by
      have hj : j < 5 := hj
      rcases j with _ | _ | _ | _ | _ | j
      all_goals first | rfl | omega)) k4.cur)
    clear hbo
    go_wp2_with fail
    (with_reducible refine HP.out.mono ?_)
    rintro e w4 ⟨t, rfl, ht, k5⟩
    have hts : t.size ≤ 5 := by
      simp only [List.mem_cons, List.not_mem_nil, or_false] at ht
      rcases ht with rfl | rfl | rfl | rfl | rfl
      all_goals decide
    have k5 := k4.trans k5
    have HQ := Lib.hid (parsePerm_spec t w4 (by omega))
    obtain ⟨zs, hzs⟩ : ∃ l, l = ppG t.data.toList := ⟨_, rfl⟩
    have hzl : zs.length ≤ 8 := by rw [hzs]; exact (ppG_len _).2
    rw [← hzs] at HQ
    have hs5 := k5.span.size
    clear HP ht hts hzs k4 k3 hs3
    go_wp2_with fail
    (with_reducible refine HQ.out.mono ?_)
    clear HQ
    rintro e w3 ⟨D, dk, rfl, _, _, ho, hb⟩
    have k3 := k5.next (hb.mono hs5) hq
    have ho := own_mono ho hs5
    obtain ⟨ys, rfl⟩ : ∃ l, l = zs := ⟨_, rfl⟩
    have hyl := hzl
    clear hzl hb k5 hs5
  all_goals
    have hsz := k3.span.size
    have hO0 : Own (w3.alloc (.cells #[] 24)) w.heap.size (w3.alloc (.cells #[] 24)).heap.size (⟨D, dk, ys⟩ :: ([] : List Row)) [⟨some ⟨w3.heap.size, 0, none⟩, 0, ([] : List Row).map Row.v⟩] :=
      Own.with_ (((Own.one ho (Nat.le_refl _)).below ((Below.refl _ _).alloc (Nat.le_refl _) (.cells #[] 24))).wider (Nat.le_refl _) (by simp)) (World.ownsRow_lit w3 #[] 0 hsz (by unfold maxLen; omega) rfl) (Nat.le_refl _)
    have k4 := k3.next (((Below.refl w3.heap.size w3).alloc (Nat.le_refl _) (.cells #[] 24)).mono hsz) hq
    clear ho
    go_wp2_with fail
    go_loopw [4, 5] (fun v i wr => ∃ (k : Nat) (A1 : Option Addr) (c1 : Nat) (ds : List Row), k ≤ ys.length ∧ i = .int .i64 k ∧ v = .slice A1 ds.length c1 ∧ ds.length = k ∧ Hid (∀ p ∈ ds.map Row.xs, p.length ≤ 3) ∧ Own wr w.heap.size wr.heap.size (⟨D, dk, ys⟩ :: ds) [⟨A1, c1, ds.map Row.v⟩] ∧ Drawn w wr q A c bs) (fun _ i _ => ys.length - (intOf i).toNat)
    case atStart => exact ⟨0, _, _, [], Nat.zero_le _, rfl, rfl, rfl, Lib.hid (fun p hp => (List.not_mem_nil hp).elim), hO0, k4⟩
    case round =>
      clear hO0 k4 k3 hsz
      obtain ⟨k, A1, c1, ds, hk, rfl, rfl, hdl, HR, hO, k2⟩ := hrel
      have hsz := k2.span.size
      have hq2 := k2.cur.lt
      rcases Nat.lt_or_ge k ys.length with hlt | hge
      · have hbL : Below wr.heap.size wr (wr.alloc (Obj.cells #[Value.int .i64 1, Value.int .i64 1, Value.int .i64 1, Value.int .i64 2, Value.int .i64 3] 3)) := (Below.refl _ _).alloc (Nat.le_refl _) _
        have hO2 := hO.below hbL
        have k3 := k2.next (hbL.mono hsz) hq
        have HP := Lib.hid (l1PickInt_any _ q A c bs wr.heap.size 5 5 [1, 1, 1, 2, 3] rfl (by decide) (by decide) (by omega) (by simp) (fun j hj => (obj_cell (obj_new wr _)).trans (by
          have hj : j < 5 := hj
          rcases j with _ | _ | _ | _ | _ | j
          all_goals first | rfl | omega)) k3.cur)
        have HDL := Lib.hid hdl
        clear hO k2 hbL hdl
        go_wp2_with fail
        (with_reducible refine HP.out.mono ?_)
        rintro e w2 ⟨x, rfl, hx, k4⟩
        have hx8 : 1 ≤ x ∧ x ≤ 3 := by simp at hx; omega
        obtain ⟨m, rfl⟩ := Int.eq_ofNat_of_zero_le (show 0 ≤ x by omega)
        have hm4 : m ≤ 3 := by omega
        have hO3 := (hO2.drawnT k4 hq).wider (hi' := w2.heap.size) (Nat.le_refl _) (by have := k4.span.size; simp at this; omega)
        have k5 := k3.trans k4
        have HD := Lib.hid (l2Draw_any w2 q A c bs m (by omega) k5.cur)
        have hs2 := k5.span.size
        clear HP hx k4 k3 hO2
        go_wp2_with fail
        (with_reducible refine HD.out.mono ?_)
        rintro e w3 ⟨E, ek, d, rfl, hp, hod, k6⟩
        have hdm : d.length = m := by rw [hp.length_eq, upToL_length]
        have k7 := k5.trans k6
        have hs3 := k7.span.size
        have hO6 : Own w3 w.heap.size w3.heap.size (⟨D, dk, ys⟩ :: (ds ++ [⟨E, ek, d⟩])) [⟨A1, c1, ds.map Row.v⟩] := by simpa using (hO3.drawnT k6 hq).add (r := ⟨E, ek, d⟩) hod k6.span.size hs2
        have hown2 := hO6.outN (n := ds.length) (by simp)
        have hol := hO6.olim (n := ds.length) (by simp)
        have hds : ds.length ≤ 8 := by have := HDL.out; omega
        have HR2 := Lib.hid (show ∀ p ∈ (ds ++ [(⟨E, ek, d⟩ : Row)]).map Row.xs, p.length ≤ 3 from fun p hp => by
          rw [List.map_append, List.mem_append] at hp
          rcases hp with hp | hp
          · exact HR.out p hp
          · rw [List.map_singleton, List.mem_singleton] at hp
            have hpe : p = d := hp
            rw [hpe]
            omega)
        clear HD hp hdm hO3 hod k6 k5 hs2
        go_wp2_with (at_builtin; refine wpList_append_own _ rfl _ _ 26 rfl (w.heap.size) 24 j0 (.slice none 0 0) 1 24 Tryz.underlying26 hj hy0 hy1 hy2 rfl (by decide) _ _ _ rfl (World.ownsRow.alloc hown2 _) ⟨w3.heap.size, 0, none⟩ 1 1 [Value.slice E d.length ek] rfl rfl (cell_one_at _ _ (by simp)) (by intro u hu; simp at hu; subst hu; rfl) (by unfold maxLen; omega) (by omega) (by simp; omega) ?_; intro v9 w9 hown9 hgrow9 _)
        obtain ⟨A5, c5, rfl, hO7, hg3⟩ := hO6.grow (Nat.le_refl _) (by simp) hown9 hgrow9
        have k8 := k7.next ((Below.refl w.heap.size w3).grown hg3 hs3 fun g hg => (hol g hg).1) hq
        have K := Lib.hid (And.intro hO7 k8)
        clear hO7 k8 hown9 hgrow9 hg3 hO6 hown2 hol k7
        go_wp2_with fail
        go_roundw
        case rel => exact ⟨k + 1, A5, c5, ds ++ [⟨E, ek, d⟩], by omega, by go_num, by rw [List.length_append]; rfl, by rw [List.length_append, HDL.out]; rfl, HR2, by rw [List.map_append]; exact K.out.1, K.out.2⟩
        case measure => simp [intOf]; omega
      · obtain rfl : k = ys.length := by omega
        have h4 : ∀ p ∈ ds.map Row.xs, p.length ≤ 3 := HR.out
        have hdl3 : (ds.map Row.xs).length ≤ 8 := by rw [List.length_map]; omega
        have hfew := few_sizeT hdl3 h4
        have hin : InL wr A1 c1 ds := (hO.sub (List.sublist_cons_self _ _)).read.toL (by rw [sizeR_eq]; rw [List.length_map] at hfew; omega) (Nat.le_refl _)
        have hip : In wr D dk ys := In.of_own (hO.rows _ (List.mem_cons_self)) (by omega)
        have HM := Lib.hid (inflateBy_spec D A1 dk c1 ys ds wr hip hin)
        have hoD := hO.rows _ (List.mem_cons_self)
        obtain ⟨r, hr⟩ : ∃ r, r = ifG ys (ds.map Row.xs) := ⟨_, rfl⟩
        have hrl : r.length ≤ 8 := by rw [hr]; exact ifG_len _ _
        obtain ⟨b, hb⟩ : ∃ b, b = ifB ys (ds.map Row.xs) := ⟨_, rfl⟩
        rw [← hr, ← hb] at HM
        clear h4 hdl3 hin hO hdl hfew hip hr hb
        go_wp2_with fail
        (with_reducible refine HM.out.mono ?_)
        rintro e w2 ⟨E, ek, rfl, _, _, ho5, hb5⟩
        have k3 := k2.next (hb5.mono hsz) hq
        have hoD := own_below hoD hb5
        have ho5 := own_mono ho5 hsz
        rcases b with _ | _
        · go_wp2_with fail
          go_ret
          exact ⟨D, dk, ys, rfl, by omega, hoD, k3⟩
        · go_wp2_with fail
          go_ret
          exact ⟨E, ek, r, rfl, by omega, ho5, k3⟩
set_option maxHeartbeats 800000 in
theorem l5Bent_any (w : World) (q : Nat) (A : Option Addr) (c : Nat) (bs : List Int) (hc : Cur w q A c bs) :
    Calls Tryz.prog 26 #[.pointer (some ⟨q, 0, none⟩)] w (RetD w q A c bs fun ys => ys.length ≤ 9) := by
  have HC := Lib.hid (l1Once_any w q A c bs 3 (by omega) hc)
  have hq := hc.lt
  go_enter Tryz.func26, Tryz.ntmps26
  go_wp2_with fail
  (with_reducible refine HC.out.mono ?_)
  rintro e w1 ⟨b, rfl, k1⟩
  have hs1 := k1.span.size
  clear HC
  rcases b with _ | _
  · have HD := Lib.hid (l5Inflated_any w1 q A c bs k1.cur)
    go_wp2_with fail
    (with_reducible refine HD.out.mono ?_)
    rintro e w2 ⟨D, k, ys, rfl, hl, ho, k2⟩
    go_wp2_with fail
    go_ret
    exact ⟨D, k, ys, rfl, hl, own_mono ho hs1, k1.trans k2⟩
  · have HD := Lib.hid (l2Bent_any w1 q A c bs k1.cur)
    go_wp2_with fail
    (with_reducible refine HD.out.mono ?_)
    rintro e w2 ⟨D, k, ys, rfl, hl, ho, k2⟩
    go_wp2_with fail
    go_ret
    exact ⟨D, k, ys, rfl, hl, own_mono ho hs1, k1.trans k2⟩
set_option maxHeartbeats 4000000 in
theorem l4Summed_any (w : World) (q : Nat) (A : Option Addr) (c : Nat) (bs : List Int) (hc : Cur w q A c bs) :
    Calls Tryz.prog 33 #[.pointer (some ⟨q, 0, none⟩)] w (RetD w q A c bs fun ys => ys.length ≤ 9) := by
  have hq := hc.lt
  have HC := Lib.hid (l1Below_any w q A c bs 4 (by omega) hc)
  go_enter Tryz.func33, Tryz.ntmps33
  go_wp2_with fail
  (with_reducible refine HC.out.mono ?_)
  rintro e w1 ⟨x, rfl, hx, k1⟩
  have hx4 : 0 ≤ x ∧ x ≤ 3 := by have := hx.2.1 (by omega); omega
  obtain ⟨n, rfl⟩ := Int.eq_ofNat_of_zero_le hx4.1
  have hn5 : n ≤ 3 := by omega
  have HD := Lib.hid (l2Draw_any w1 q A c bs n (by omega) k1.cur)
  clear HC hx hx4
  go_wp2_with fail
  (with_reducible refine HD.out.mono ?_)
  rintro e w2 ⟨D, dk, ys, rfl, hp, ho, k2⟩
  have hyl : ys.length ≤ 8 := by rw [hp.length_eq, upToL_length]; omega
  have ho := own_mono ho k1.span.size
  have k2 := k1.trans k2
  clear HD hp hn5 k1
  go_wp2_with fail
  go_loopw [3, 4] (fun v i wr => ∃ (k : Nat) (D : Option Addr) (dk : Nat) (ys : List Int), k ≤ 3 ∧ i = .int .i64 k ∧ v = .slice D ys.length dk ∧ Hid (ys.length ≤ 8) ∧ wr.ownsRow w.heap.size 3 1 (.slice D ys.length dk) ys.length (ys.map (Value.int .i64)) ∧ Drawn w wr q A c bs) (fun _ i _ => 3 - (intOf i).toNat)
  case atStart => exact ⟨0, D, dk, ys, Nat.zero_le _, rfl, rfl, Lib.hid hyl, ho, k2⟩
  case round =>
    clear ho k2 hyl
    obtain ⟨k, D, dk, ys, hk, rfl, rfl, HY, ho, k2⟩ := hrel
    have hsz := k2.span.size
    rcases Nat.lt_or_ge k 3 with hlt | hge
    · have HC := Lib.hid (l1Below_any wr q A c bs 3 (by omega) k2.cur)
      have hkl : (k : Int) < 3 := by omega
      go_wp2_with fail
      (with_reducible refine HC.out.mono ?_)
      rintro e w1 ⟨x, rfl, hx, k3⟩
      have hx4 : 0 ≤ x ∧ x ≤ 2 := by have := hx.2.1 (by omega); omega
      obtain ⟨n, rfl⟩ := Int.eq_ofNat_of_zero_le hx4.1
      have hn5 : n ≤ 2 := by omega
      have ho := own_drawn ho k3 hq
      have k3 := k2.trans k3
      have HD := Lib.hid (l2Draw_any w1 q A c bs n (by omega) k3.cur)
      clear HC hx hx4 k2
      go_wp2_with fail
      (with_reducible refine HD.out.mono ?_)
      rintro e w2 ⟨E, ek, es, rfl, hp, hoE, k4⟩
      have hel : es.length ≤ 2 := by rw [hp.length_eq, upToL_length]; omega
      have ho := own_drawn ho k4 hq
      have hoE := own_mono hoE k3.span.size
      have k4 := k3.trans k4
      have hs4 := k4.span.size
      have hbo := (Below.refl w2.heap.size w2).alloc (Nat.le_refl _) (Obj.cells #[Value.slice D ys.length dk, Value.slice E es.length ek] 24)
      have ho := own_below ho hbo
      have hoE := own_below hoE hbo
      have k5 := k4.next (hbo.mono hs4) hq
      have ob := obj_new w2 (Obj.cells #[Value.slice D ys.length dk, Value.slice E es.length ek] 24)
      have HO := Lib.hid (l1Once_any _ q A c bs 2 (by omega) k5.cur)
      clear HD hp k3 hn5
      go_wp2_with fail
      (with_reducible refine HO.out.mono ?_)
      rintro e w3 ⟨b, rfl, k6⟩
      have ho := own_drawn ho k6 hq
      have hoE := own_drawn hoE k6 hq
      have hob : w3.heap[w2.heap.size]? = some (Obj.cells #[Value.slice D ys.length dk, Value.slice E es.length ek] 24) := (k6.span.block w2.heap.size (by simp) (by omega)).trans ob
      have k7 := k5.trans k6
      have hs7 := k7.span.size
      have hyl := HY.out
      have hil : InL w3 (some ⟨w2.heap.size, 0, none⟩) 2 [⟨D, dk, ys⟩, ⟨E, ek, es⟩] := inL_two hob (show In w3 D dk ys from In.of_own ho (by omega)) (show In w3 E ek es from In.of_own hoE (by omega)) (by show ys.length + es.length ≤ 1000; omega)
      have HJ := Lib.hid (show Calls Tryz.prog 69 #[.slice (some ⟨w2.heap.size, 0, none⟩) 2 2, .bool b] w3 (Ret2 (Value.int .i64) 3 w3 (jpG b (List.map Row.xs [⟨D, dk, ys⟩, ⟨E, ek, es⟩])) (jpB b (List.map Row.xs [⟨D, dk, ys⟩, ⟨E, ek, es⟩]))) from joinParts_spec _ 2 _ b w3 hil)
      obtain ⟨zs, hzs⟩ : ∃ l, l = jpG b (List.map Row.xs [⟨D, dk, ys⟩, ⟨E, ek, es⟩]) := ⟨_, rfl⟩
      have hzl : zs.length ≤ 8 := by rw [hzs]; exact jpG_len _ _
      obtain ⟨f, hf⟩ : ∃ l, l = jpB b (List.map Row.xs [⟨D, dk, ys⟩, ⟨E, ek, es⟩]) := ⟨_, rfl⟩
      rw [← hzs, ← hf] at HJ
      clear HO hil hob ob hoE k5 k6 hs4 k4 hbo hzs hf hyl hel
      go_wp2_with fail
      (with_reducible refine HJ.out.mono ?_)
      rintro e w4 ⟨Z, zk, rfl, _, _, hoZ, hb⟩
      have ho := own_below ho hb
      have hoZ := own_mono hoZ hs7
      have k8 := k7.next (hb.mono hs7) hq
      have HZ := Lib.hid hzl
      clear HJ hb k7 hs7 hzl
      rcases f with _ | _
      · go_wp2_with fail
        go_roundw
        case rel => exact ⟨k + 1, D, dk, ys, by omega, by go_num, rfl, HY, ho, k8⟩
        case measure => simp [intOf]; omega
      · go_wp2_with fail
        go_roundw
        case rel => exact ⟨k + 1, Z, zk, zs, by omega, by go_num, rfl, HZ, hoZ, k8⟩
        case measure => simp [intOf]; omega
    · obtain rfl : k = 3 := by omega
      have hyl := HY.out
      go_wp2_with fail
      go_ret
      exact ⟨D, dk, ys, rfl, by omega, ho, k2⟩
set_option maxHeartbeats 800000 in
theorem drawSplitPerm (A : Option Addr) (c : Nat) (bs : List Int) (w : World) (h : InY w A c bs) :
    Calls Tryz.prog 5 #[.slice A bs.length c] w (RetDL w fun ys => ys.length ≤ 9) := by
  have HC := Lib.hid (l1New_any A c bs w h.len h.rd)
  go_enter Tryz.func5, Tryz.ntmps5
  go_wp2_with fail
  (with_reducible refine HC.out.mono ?_)
  rintro e w1 ⟨q, rfl, hq, hc, hb⟩
  have HD := Lib.hid (l5Bent_any w1 q A c bs hc)
  clear HC
  go_wp2_with fail
  (with_reducible refine HD.out.mono ?_)
  rintro e w2 ⟨D, k, ys, rfl, hl, ho, k1⟩
  go_wp2_with fail
  go_ret
  exact ⟨D, k, ys, rfl, hl, own_mono ho hb.size, hb.trans (k1.below hq hb.size)⟩
set_option maxHeartbeats 800000 in
theorem drawIsSeparable (A : Option Addr) (c : Nat) (bs : List Int) (w : World) (h : InY w A c bs) :
    Calls Tryz.prog 9 #[.slice A bs.length c] w (RetDL w fun ys => ys.length ≤ 9) := by
  have HC := Lib.hid (l1New_any A c bs w h.len h.rd)
  go_enter Tryz.func9, Tryz.ntmps9
  go_wp2_with fail
  (with_reducible refine HC.out.mono ?_)
  rintro e w1 ⟨q, rfl, hq, hc, hb⟩
  have hq1 := hc.lt
  have HO := Lib.hid (l1Once_any w1 q A c bs 2 (by omega) hc)
  clear HC
  go_wp2_with fail
  (with_reducible refine HO.out.mono ?_)
  rintro e w2 ⟨b, rfl, k1⟩
  have hs1 := k1.span.size
  have hsb := hb.size
  clear HO
  rcases b with _ | _
  · have HD := Lib.hid (l5Bent_any w2 q A c bs k1.cur)
    go_wp2_with fail
    (with_reducible refine HD.out.mono ?_)
    rintro e w3 ⟨D, k, ys, rfl, hl, ho, k2⟩
    go_wp2_with fail
    go_ret
    exact ⟨D, k, ys, rfl, hl, own_mono ho (by omega), hb.trans ((k1.trans k2).below hq hb.size)⟩
  · have HD := Lib.hid (l4Summed_any w2 q A c bs k1.cur)
    go_wp2_with fail
    (with_reducible refine HD.out.mono ?_)
    rintro e w3 ⟨D, k, ys, rfl, hl, ho, k2⟩
    go_wp2_with fail
    go_ret
    exact ⟨D, k, ys, rfl, hl, own_mono ho (by omega), hb.trans ((k1.trans k2).below hq hb.size)⟩
end Go.Proofs.YtldknpjeegdbmaaGreat

/- MeetClasses, program and reference; slices.Concat of two lists of rows. -/
namespace Go.Proofs.YtldknpjeegdbmaaGreat
set_option maxRecDepth 100000
open Go Go.RowKit

def meB (X Y : List (List Int)) : Bool := basisB X && basisB Y && mkB (X ++ Y)
def meG (X Y : List (List Int)) : List (List Int) := if basisB X && basisB Y then mkG (X ++ Y) else []
theorem meG_le (X Y : List (List Int)) : (meG X Y).length + sizeX (meG X Y) ≤ 1048576 := by
  unfold meG
  split
  · exact mkG_le _
  · simp [sizeX]
theorem inL_of {w : World} {base c : Nat} {A : Option Addr} {rs : List Row} (hl : rs.length + sizeR rs ≤ 1048576) (hr : ∀ r ∈ rs, In w r.A r.c r.xs) (ho : w.ownsRow base 24 1 (.slice A rs.length c) rs.length (rs.map Row.v)) : InL w A c rs :=
  ⟨hl, ⟨fun r h => (hr r h).cap, fun r h => (hr r h).rd, fun o h => by obtain rfl := List.mem_singleton.1 h; simpa using (own_caps ho).1, fun o h => by
    obtain rfl := List.mem_singleton.1 h
    have h1 : w.ownsRow base 24 1 (.slice A (rs.map Row.v).length c) (rs.map Row.v).length ((rs.map Row.v).map id) := by simpa using ho
    exact Rd.of_own h1⟩⟩
theorem sizeR_app (rs qs : List Row) : sizeR (rs ++ qs) = sizeR rs + sizeR qs := by simp [sizeR]
theorem basis_sizeR {rs : List Row} (h : basisB (rs.map Row.xs) = true) : rs.length + sizeR rs ≤ 72 := by
  have h1 := basis_len h
  rw [List.length_map] at h1
  have h2 : sizeR rs ≤ rs.length * 8 := by
    have hp := basis_perm h
    clear h h1
    induction rs with
    | nil => simp [sizeR]
    | cons a t ih =>
      have h1 := (permB_true (hp a.xs (by simp))).1
      have h2 := ih (fun q hq => hp q (by simp only [List.map_cons, List.mem_cons]; exact .inr hq))
      simp only [sizeR, List.map_cons, List.sum_cons, List.length_cons, Nat.add_mul, Nat.one_mul] at h2 ⊢
      omega
  omega
end Go.Proofs.YtldknpjeegdbmaaGreat

/- The program's joins: slices.Concat of two lists of whole numbers, sum, joinParts. -/
namespace Go.Proofs.YtldknpjeegdbmaaGreat
set_option maxRecDepth 100000
open Go Go.RowKit

theorem info_zI : ∃ i0 : TypeInfo, Tryz.prog.info? 3 = some i0 ∧ i0.zero = some (.int .i64 0) ∧ i0.size = 1 ∧ i0.bytes = 8 := info_parts infoI
/-- slices.Grow of the nil list. -/
theorem growI_any (n : Nat) (w : World) (hn : n ≤ 1048576) :
    Calls Tryz.prog 119 #[.slice none 0 0, .int .i64 n] w fun e w' => ∃ A c, e = .returned (.slice A 0 c) ∧ w'.ownsRow w.heap.size 3 1 (.slice A 0 c) 0 [] ∧ Below w.heap.size w w' := by
  rcases Nat.eq_zero_or_pos n with h0 | h0
  · subst h0
    refine (Any8.slices_Grow_room Tryz.growI none 0 0 0 w (Nat.le_refl _) (by omega) (by omega) (Nat.le_refl _)).mono ?_
    rintro e w' ⟨rfl, rfl⟩
    exact ⟨none, 0, rfl, World.ownsRow_nil _ _ _ _, Below.refl _ _⟩
  · obtain ⟨j0, hj, hy0, hy1, hy2⟩ := info_zI
    refine (Any8.slices_Grow_grow Tryz.growI j0 (.int .i64 0) hj hy0 (by omega) none 0 0 n [] w (Nat.le_refl _) (by omega) (by rw [hy2]; omega) (by omega) (by simp) (fun _ => rfl) (fun a ha => by cases ha)).mono ?_
    rintro e w' ⟨rfl, rfl⟩
    refine ⟨_, _, rfl, ?_, (below_dr (Below.refl _ _) (Dr.refl _).drew).alloc (Nat.le_refl _) _⟩
    have hcap := grownCap_ge w (0 + n) 0 3
    refine ⟨rfl, .inr ⟨w.heap.size, _, _, rfl, Nat.le_refl _, obj_new w.drew _, Nat.zero_le _, grownCap_le_maxLen w (0 + n) 0 3 (by unfold maxLen; omega), ?_, by simp⟩⟩
    have e1 : (Value.int .i64 0).cells.size = 1 := rfl
    have hcap' : 0 + n ≤ grownCap w (0 + n) 0 3 := hcap
    show (Array.size ((([] : List Value).toArray ++ Builtin.zeroCells (Value.int .i64 0).cells (0 + n - 0)) ++ Builtin.zeroCells (Value.int .i64 0).cells (grownCap w (0 + n) 0 3 - (0 + n)))) = grownCap w (0 + n) 0 3 * 1
    rw [Array.size_append, Array.size_append, size_zeroCells, size_zeroCells, e1]
    simp only [List.size_toArray, List.length_nil]
    omega
def ci1 (n m k : Nat) : Nat := if k = 0 then 0 else if k = 1 then n else n + m
def ciL (ps bs : List Int) (k : Nat) : List Int := if k = 0 then [] else if k = 1 then ps else ps ++ bs
set_option maxHeartbeats 2000000 in
theorem concatI_any (g : Nat) (A B : Option Addr) (c d : Nat) (ps bs : List Int) (w : World) (hg : w.heap[g]? = some (.cells #[.slice A ps.length c, .slice B bs.length d] 24 (0, 0)))
    (ha : In w A c ps) (hb : In w B d bs) (hsa : ps.length ≤ 1000) (hsb : bs.length ≤ 1000) :
    Calls Tryz.prog 104 #[.slice (some ⟨g, 0, none⟩) 2 2] w (Ret (Value.int .i64) 3 w (ps ++ bs)) := by
  obtain ⟨i0, hi, hz0, hz1, hz2⟩ := info_parts infoI
  have f0 : w.cell? ⟨g, 0, none⟩ = some (.slice A ps.length c) := (obj_cell hg).trans rfl
  have f1 : w.cell? ⟨g, 0 + 1, none⟩ = some (.slice B bs.length d) := (obj_cell hg).trans rfl
  go_enter Tryz.func104, Tryz.ntmps104
  go_wp2_with fail
  go_loop [3, 11] (fun v i => ∃ k : Nat, k ≤ 2 ∧ i = .int .i64 k ∧ v = .int .i64 (ci1 ps.length bs.length k)) (fun _ i => 2 - (intOf i).toNat)
  case atStart => exact ⟨0, by omega, rfl, rfl⟩
  case round =>
    obtain ⟨k, hk, rfl, rfl⟩ := hrel
    rcases (show k = 0 ∨ k = 1 ∨ k = 2 by omega) with rfl | rfl | rfl
    · have e1 : IntKind.i64.wrap (((ci1 ps.length bs.length 0 : Nat) : Int) + (ps.length : Int)) = ((ci1 ps.length bs.length 1 : Nat) : Int) := by rw [IntWalk.i64_in _ (by simp [ci1]; omega)]; simp [ci1]
      have d1 : decide (((ci1 ps.length bs.length 1 : Nat) : Int) < 0) = false := decide_eq_false (by omega)
      go_wp2_with fail
      go_round
      case rel => exact ⟨1, by omega, by go_num, rfl⟩
      case measure => simp [intOf]
    · have e1 : IntKind.i64.wrap (((ci1 ps.length bs.length 1 : Nat) : Int) + (bs.length : Int)) = ((ci1 ps.length bs.length 2 : Nat) : Int) := by rw [IntWalk.i64_in _ (by simp [ci1]; omega)]; simp [ci1]
      have d1 : decide (((ci1 ps.length bs.length 2 : Nat) : Int) < 0) = false := decide_eq_false (by omega)
      go_wp2_with fail
      go_round
      case rel => exact ⟨2, by omega, by go_num, rfl⟩
      case measure => simp [intOf]
    · have HG := Lib.hid (growI_any (ci1 ps.length bs.length 2) w (by simp [ci1]; omega))
      go_wp2_with fail
      (with_reducible refine HG.out.mono ?_)
      rintro e w1 ⟨A1, c1, rfl, own1, hb1⟩
      have g1 := obj_below hg hb1 (obj_lt hg)
      go_wp2_with fail
      go_loopw [6, 27] (fun v i wr => ∃ (k : Nat) (A1 : Option Addr) (c1 n : Nat), k ≤ 2 ∧ i = .int .i64 k ∧ v = .slice A1 n c1 ∧ Hid (n = (ciL ps bs k).length) ∧ wr.ownsRow w.heap.size 3 1 (.slice A1 n c1) n ((ciL ps bs k).map (Value.int .i64)) ∧ Below w.heap.size w wr) (fun _ i _ => 2 - (intOf i).toNat)
      case atStart => exact ⟨0, A1, c1, 0, by omega, rfl, rfl, Lib.hid rfl, own1, hb1⟩
      case round =>
        clear own1 hb1 g1
        obtain ⟨k, A1, c1, n, hk, rfl, rfl, HN, own1, hb1⟩ := hrel
        have g1 := obj_below hg hb1 (obj_lt hg)
        have k0 : wr.cell? ⟨g, 0, none⟩ = some (.slice A ps.length c) := (obj_cell g1).trans rfl
        have k1 : wr.cell? ⟨g, 0 + 1, none⟩ = some (.slice B bs.length d) := (obj_cell g1).trans rfl
        have ha1 := (ha.next hb1).rd
        have hs1 := hb1.size
        have hb1' := (hb.next hb1).rd
        rcases (show k = 0 ∨ k = 1 ∨ k = 2 by omega) with rfl | rfl | rfl
        · have hl0 : n = 0 := HN.out
          go_wp2_with (at_builtin; refine wpList_append_rd _ rfl _ _ 24 rfl (w.heap.size) 3 i0 (.int .i64 0) 8 Tryz.underlying24 hi hz0 hz1 hz2 rfl _ _ _ rfl own1 _ _ _ _ (ps) rfl rfl ha1 (fun _ => rfl) (by unfold maxLen; omega) (by omega) (by first | omega | (simp; done) | (simp; omega)) ?_; intro v1 w1 hown1 hgrow1)
          obtain ⟨A5, c5, rfl, _, _⟩ := own_shape hown1
          have hb2 := hb1.grown hgrow1 hb1.size (fun q hq => (own1.lt q hq).1)
          have K := Lib.hid (And.intro hown1 hb2)
          clear hown1 hb2 hgrow1 own1 hb1 k0 k1
          go_wp2_with fail
          go_roundw
          case rel => exact ⟨1, A5, c5, n + ps.length, by omega, by go_num, rfl, Lib.hid (by rw [HN.out]; simp [ciL]), by simpa [ciL] using K.out.1, K.out.2⟩
          case measure => simp [intOf]
        · have hl1 : n = ps.length := HN.out
          go_wp2_with (at_builtin; refine wpList_append_rd _ rfl _ _ 24 rfl (w.heap.size) 3 i0 (.int .i64 0) 8 Tryz.underlying24 hi hz0 hz1 hz2 rfl _ _ _ rfl own1 _ _ _ _ (bs) rfl rfl hb1' (fun _ => rfl) (by unfold maxLen; omega) (by omega) (by first | omega | (simp; done) | (simp; omega)) ?_; intro v1 w1 hown1 hgrow1)
          obtain ⟨A5, c5, rfl, _, _⟩ := own_shape hown1
          have hb2 := hb1.grown hgrow1 hb1.size (fun q hq => (own1.lt q hq).1)
          have K := Lib.hid (And.intro hown1 hb2)
          clear hown1 hb2 hgrow1 own1 hb1 k0 k1
          go_wp2_with fail
          go_roundw
          case rel => exact ⟨2, A5, c5, n + bs.length, by omega, by go_num, rfl, Lib.hid (by rw [HN.out]; simp [ciL]), by simpa [ciL] using K.out.1, K.out.2⟩
          case measure => simp [intOf]
        · have hn2 : n = (ps ++ bs).length := HN.out
          subst hn2
          have K := Lib.hid (And.intro own1 hb1)
          clear own1 hb1
          go_wp2_with fail
          go_ret
          exact ⟨A1, c1, rfl, (own_caps K.out.1).1, (own_caps K.out.1).2, K.out.1, K.out.2⟩
set_option maxHeartbeats 1000000 in
theorem sum_impl (A B : Option Addr) (c d : Nat) (p q : List Int) (b : Bool) (w : World) (ha : In w A c p) (hb : In w B d q) (hp8 : p.length ≤ 8) (hq8 : q.length ≤ 8) (hpv : ∀ x ∈ p, 1 ≤ x ∧ x ≤ 1000) (hqv : ∀ x ∈ q, 1 ≤ x ∧ x ≤ 1000) :
    Calls Tryz.prog 85 #[.slice A p.length c, .slice B q.length d, .bool b] w (Ret (Value.int .i64) 3 w (join1 b p q)) := by
  have HJ := Lib.hid (show join1 b p q = if b = true then p.map (· + (q.length : Int)) ++ q else p ++ q.map (· + (p.length : Int)) from rfl)
  cases b with
  | true =>
    have HC := Lib.hid (raised_any A c p.length p (q.length : Int) w rfl (by omega) ha.rd (fun v hv => by have := hpv v hv; omega) (by omega))
    obtain ⟨s, hs⟩ : ∃ s, s = p.map (· + (q.length : Int)) := ⟨_, rfl⟩
    have hsl : s.length ≤ 8 := by rw [hs, List.length_map]; exact hp8
    obtain ⟨z, hz⟩ : ∃ z, z = s ++ q := ⟨_, rfl⟩
    have HJ2 : Hid (join1 true p q = z) := Lib.hid (by rw [HJ.out, hz, hs]; rfl)
    have HZ := Lib.hid hz
    clear hz
    rw [← hs] at HC
    clear hs
    go_enter Tryz.func85, Tryz.ntmps85
    go_wp2_with fail
    (with_reducible refine HC.out.mono ?_)
    rintro e w1 ⟨A1, c1, rfl, _, _, o1, hb1⟩
    have hbx := (Below.refl w1.heap.size w1).alloc (Nat.le_refl _) (Obj.cells #[Value.slice A1 s.length c1, Value.slice B q.length d] 24)
    have HD := Lib.hid (concatI_any w1.heap.size A1 B c1 d s q _ (obj_new w1 (Obj.cells #[Value.slice A1 s.length c1, Value.slice B q.length d] 24)) ((In.own o1 (by omega)).next hbx) ((hb.next hb1).next hbx) (by omega) (by omega))
    rw [← HZ.out] at HD
    have hb2 := hb1.trans (hbx.mono hb1.size)
    go_wp2_with fail
    (with_reducible refine HD.out.mono ?_)
    rintro e w2 ⟨A2, c2, rfl, h1, h2, o2, hb3⟩
    go_wp2_with fail
    go_ret
    rw [HJ2.out]
    exact ⟨A2, c2, rfl, h1, h2, own_mono o2 hb2.size, hb2.trans (hb3.mono hb2.size)⟩
  | false =>
    have HC := Lib.hid (raised_any B d q.length q (p.length : Int) w rfl (by omega) hb.rd (fun v hv => by have := hqv v hv; omega) (by omega))
    obtain ⟨s, hs⟩ : ∃ s, s = q.map (· + (p.length : Int)) := ⟨_, rfl⟩
    have hsl : s.length ≤ 8 := by rw [hs, List.length_map]; exact hq8
    obtain ⟨z, hz⟩ : ∃ z, z = p ++ s := ⟨_, rfl⟩
    have HJ2 : Hid (join1 false p q = z) := Lib.hid (by rw [HJ.out, hz, hs]; rfl)
    have HZ := Lib.hid hz
    clear hz
    rw [← hs] at HC
    clear hs
    go_enter Tryz.func85, Tryz.ntmps85
    go_wp2_with fail
    (with_reducible refine HC.out.mono ?_)
    rintro e w1 ⟨A1, c1, rfl, _, _, o1, hb1⟩
    have hbx := (Below.refl w1.heap.size w1).alloc (Nat.le_refl _) (Obj.cells #[Value.slice A p.length c, Value.slice A1 s.length c1] 24)
    have HD := Lib.hid (concatI_any w1.heap.size A A1 c c1 p s _ (obj_new w1 (Obj.cells #[Value.slice A p.length c, Value.slice A1 s.length c1] 24)) ((ha.next hb1).next hbx) ((In.own o1 (by omega)).next hbx) (by omega) (by omega))
    rw [← HZ.out] at HD
    have hb2 := hb1.trans (hbx.mono hb1.size)
    go_wp2_with fail
    (with_reducible refine HD.out.mono ?_)
    rintro e w2 ⟨A2, c2, rfl, h1, h2, o2, hb3⟩
    go_wp2_with fail
    go_ret
    rw [HJ2.out]
    exact ⟨A2, c2, rfl, h1, h2, own_mono o2 hb2.size, hb2.trans (hb3.mono hb2.size)⟩
theorem perm_one {p : List Int} (h : permB p = true) : ∀ x ∈ p, 1 ≤ x ∧ x ≤ 1000 := fun x hx => by
  obtain ⟨h8, hr, _⟩ := permB_true h
  have := hr x hx
  omega
set_option maxHeartbeats 4000000 in
theorem joinParts_impl (A : Option Addr) (c : Nat) (rs : List Row) (b : Bool) (w : World) (h : InL w A c rs) (hfit : jpB b (rs.map Row.xs) = true) :
    Calls Tryz.prog 58 #[.slice A rs.length c, .bool b] w (Ret (Value.int .i64) 3 w (jpG b (rs.map Row.xs))) := by
  have hlen := h.len
  have HG2 := Lib.hid (show jpG b (rs.map Row.xs) = joinL b (rs.map Row.xs) by unfold jpG; rw [hfit]; rfl)
  have HFT := Lib.hid (show ∀ j, j < rs.length → fitB (joinL b ((rs.map Row.xs).take j)) (lAt (rs.map Row.xs) j) = true from fun j hj => by
    unfold jpB at hfit
    rw [List.all_eq_true] at hfit
    exact hfit j (List.mem_range.2 (by rw [List.length_map]; exact hj)))
  clear hfit
  have hown0 : (w.alloc (.cells #[] 3)).ownsRow w.heap.size 3 1 (.slice (some ⟨w.heap.size, 0, none⟩) 0 0) 0 ((joinL b ((rs.map Row.xs).take 0)).map (Value.int .i64)) := World.ownsRow_lit w #[] 0 (Nat.le_refl _) (by unfold maxLen; omega) rfl
  have hb0 := (Below.refl w.heap.size w).alloc (Nat.le_refl _) (.cells #[] 3)
  go_enter Tryz.func58, Tryz.ntmps58
  go_wp2_with fail
  go_loopw [5, 11] (fun v i wr => ∃ (k m : Nat) (A3 : Option Addr) (c3 : Nat), k ≤ rs.length ∧ i = .int .i64 k ∧ v = .slice A3 m c3 ∧ Hid (m = (joinL b ((rs.map Row.xs).take k)).length) ∧ wr.ownsRow w.heap.size 3 1 (.slice A3 m c3) m ((joinL b ((rs.map Row.xs).take k)).map (Value.int .i64)) ∧ Below w.heap.size w wr) (fun _ i _ => rs.length - (intOf i).toNat)
  case atStart => exact ⟨0, 0, _, _, Nat.zero_le _, rfl, rfl, Lib.hid rfl, hown0, hb0⟩
  case round =>
    clear hown0 hb0
    obtain ⟨k, m, A3, c3, hk, rfl, rfl, HM, hown, hbw⟩ := hrel
    have hsz := hbw.size
    rcases Nat.lt_or_ge k rs.length with hlt | hge
    · have il2 := h.next hbw
      obtain ⟨bo, oo, rfl, _, hc⟩ := il2.read.at (by omega)
      have cc := hc k hlt
      have hin := il2.row (List.getElem_mem hlt)
      have hk2 : k < (rs.map Row.xs).length := by rw [List.length_map]; exact hlt
      have HQ := Lib.hid (show lAt (rs.map Row.xs) k = rs[k].xs by rw [lAt_eq hk2, List.getElem_map])
      have HJ := Lib.hid (joinL_take (b := b) hk2)
      have hfk := HFT.out k hlt
      obtain ⟨R1, hR1⟩ : ∃ R1 : Row, R1 = rs[k] := ⟨_, rfl⟩
      rw [← hR1] at cc hin HQ
      rw [HQ.out] at HJ hfk
      clear hc hR1 il2
      obtain ⟨rA, rc, q⟩ := R1
      obtain ⟨o, ho⟩ : ∃ o, o = joinL b ((rs.map Row.xs).take k) := ⟨_, rfl⟩
      rw [← ho] at HM hown HJ hfk
      obtain ⟨rfl⟩ : m = o.length := HM.out
      have hft := fit_parts hfk
      have hf8 : o.length + q.length ≤ 8 := hft.2.2
      have hio : In wr A3 c3 o := In.own hown (by omega)
      have HC := Lib.hid (sum_impl A3 rA c3 rc o q b wr hio hin (by omega) (by omega) (perm_one hft.1) (perm_one hft.2.1))
      clear ho hft hio hin hfk
      go_wp2_with fail
      (with_reducible refine HC.out.mono ?_)
      rintro e w2 ⟨A5, c5, rfl, _, _, ho2, hb2⟩
      have K := Lib.hid (And.intro (own_mono ho2 hsz) (hbw.trans (hb2.mono hsz)))
      clear ho2 hb2 hbw HC hown cc
      go_wp2_with fail
      go_roundw
      case rel => exact ⟨k + 1, _, A5, c5, by omega, by go_num, rfl, Lib.hid (by rw [HJ.out]), by rw [HJ.out]; exact K.out.1, K.out.2⟩
      case measure => simp [intOf]; omega
    · obtain rfl : k = rs.length := by omega
      have ht : (rs.map Row.xs).take rs.length = rs.map Row.xs := List.take_of_length_le (by rw [List.length_map]; exact Nat.le_refl _)
      rw [ht] at HM hown
      obtain ⟨rfl⟩ : m = _ := HM.out
      go_wp2_with fail
      go_ret
      rw [HG2.out]
      exact ⟨A3, c3, rfl, (own_caps hown).1, (own_caps hown).2, hown, hbw⟩
end Go.Proofs.YtldknpjeegdbmaaGreat

/- The program's skewParts and isInterval. -/
namespace Go.Proofs.YtldknpjeegdbmaaGreat
set_option maxRecDepth 100000
open Go Go.RowKit

/-- A row of a list is put anew. -/
theorem Own.put_at {w1 : World} {lo m g cap : Nat} {r0 r : Row} {l t : List Row} (h : Own w1 lo m (l ++ r0 :: t) [⟨some ⟨g, 0, none⟩, cap, (l ++ r0 :: t).map Row.v⟩]) (hs : m ≤ w1.heap.size) (hl : lo ≤ m)
    (hr : w1.ownsRow m 3 1 r.v r.xs.length (r.xs.map (Value.int .i64))) :
    Own (w1.setCell ⟨g, l.length, none⟩ r.v) lo (w1.setCell ⟨g, l.length, none⟩ r.v).heap.size (l ++ r :: t) [⟨some ⟨g, 0, none⟩, cap, (l ++ r :: t).map Row.v⟩] ∧ w1.grownBy (w1.setCell ⟨g, l.length, none⟩ r.v) (some g) := by
  have h1 := h.add (r := r) hr hs hl
  have hg := grown_set w1 g l.length r.v
  have hn : ((l ++ r0 :: t).map Row.v).length = (l ++ r0 :: t).length := by simp
  have h2 := h1.kept (Nat.le_refl _) hn hg
  have h3 : Own (w1.setCell ⟨g, l.length, none⟩ r.v) lo (w1.setCell ⟨g, l.length, none⟩ r.v).heap.size (l ++ r :: t) [] := by
    have hp : ((l ++ r0 :: t) ++ [r]).Perm (r0 :: (l ++ r :: t)) := by
      refine (List.perm_append_singleton r _).trans ?_
      have a1 : (r :: (l ++ r0 :: t)).Perm (r :: (r0 :: (l ++ t))) := List.Perm.cons r List.perm_middle
      have a2 : (r0 :: (l ++ r :: t)).Perm (r0 :: (r :: (l ++ t))) := List.Perm.cons r0 List.perm_middle
      exact a1.trans ((List.Perm.swap r0 r (l ++ t)).trans a2.symm)
    exact (h2.perm hp).sub (List.sublist_cons_self _ _)
  have h4 := own_set_at (h.outN hn) (j := l.length) (by simp) r.v
  refine ⟨h3.with_ ?_ (Nat.le_refl _), hg⟩
  have e : ((l ++ r0 :: t).map Row.v).set l.length r.v = (l ++ r :: t).map Row.v := by
    rw [List.map_append, List.map_cons, List.map_append, List.map_cons]
    have : l.length = (l.map Row.v).length := by simp
    rw [this, List.set_append_right _ _ (Nat.le_refl _), Nat.sub_self]; rfl
  rw [e] at h4
  have e2 : (l ++ r0 :: t).length = ((l ++ r :: t).map Row.v).length := by simp
  rw [e2] at h4
  exact h4
theorem own_someT {w : World} {base e n : Nat} {v : Value} {vs : List Value} (h : w.ownsRow base e 1 v n vs) (hne : v ≠ .slice none 0 0) : ∃ g c, v = .slice (some ⟨g, 0, none⟩) n c := by
  rcases h.2 with ⟨rfl, _⟩ | ⟨g, cap, cur, rfl, _⟩
  · exact absurd rfl hne
  · exact ⟨g, cap, rfl⟩
theorem own_cellU {w : World} {base e n g cap k : Nat} {vs : List Value} (h : w.ownsRow base e 1 (.slice (some ⟨g, 0, none⟩) n cap) n vs) (hk : k < n) : w.cell? ⟨g, k, none⟩ = some (vs[k]'(by rw [own_len h]; exact hk)) ∧ w.frozen? ⟨g, k, none⟩ = false :=
  ⟨by rw [h.cellAt k (by omega)]; exact List.getElem?_eq_getElem _, h.frozenAt k⟩
set_option maxHeartbeats 4000000 in
theorem skewRows_impl (A : Option Addr) (c : Nat) (p : List Int) (w : World) (h : In w A c p) (hp : permB p = true) :
    Calls Tryz.prog 59 #[.slice A p.length c] w (RetL w (skewL p)) := by
  have HPC := Lib.hid (perm_compl hp)
  have hcl := complL_length p
  have hl8 := (permB_true hp).1
  have HC := Lib.hid (complement_impl A c p w h (perm_million hp))
  clear hp
  go_enter Tryz.func59, Tryz.ntmps59
  go_wp2_with fail
  (with_reducible refine HC.out.mono ?_)
  rintro e w2 ⟨Q, qc, rfl, _, _, ownQ, hb2⟩
  have h12 := hb2.size
  obtain ⟨q, hq⟩ : ∃ q, q = complL p := ⟨_, rfl⟩
  rw [← hq] at ownQ HPC
  have hql : q.length ≤ 8 := by rw [hq, hcl]; exact hl8
  have HQ := Lib.hid hq
  have HD := Lib.hid (sumRows_impl Q qc q w2 (In.own ownQ (by omega)) HPC.out)
  clear HC ownQ hcl hq
  rw [← HQ.out]
  go_wp2_with fail
  (with_reducible refine HD.out.mono ?_)
  rintro e w3 ⟨S, sk, ss, rfl, hX, hOs, hb3⟩
  have hb03 := hb2.trans (hb3.mono hb2.size)
  have HX := Lib.hid hX
  have hssl : ss.length ≤ 8 := by have h1 := congrArg List.length HX.out; have h2 := sumTo_le q q.length; rw [List.length_map] at h1; unfold sumL at h1; omega
  have HSP := Lib.hid (sumL_perm HPC.out)
  obtain ⟨N, hN⟩ : ∃ N, N = ss.length := ⟨_, rfl⟩
  have HN := Lib.hid hN
  have hO0 : Own w3 w.heap.size w3.heap.size ss [⟨S, sk, ss.map Row.v⟩] := hOs.wider h12 (Nat.le_refl _)
  rw [← hN]
  have hN8 : N ≤ 8 := by omega
  clear HD hX hb2 hb3 hOs hN
  go_wp2_with fail
  go_loopw [11] (fun i wr => ∃ (l t : List Row), i = .int .i64 (l.length : Nat) ∧ l.length + t.length ≤ N ∧ N ≤ l.length + t.length ∧ Hid (l.map Row.xs = ((sumL q).take l.length).map complL ∧ t.map Row.xs = (sumL q).drop l.length) ∧ Own wr w.heap.size wr.heap.size (l ++ t) [⟨S, sk, (l ++ t).map Row.v⟩] ∧ Below w.heap.size w wr) (fun i _ => N - (intOf i).toNat)
  case atStart => exact ⟨[], ss, rfl, by rw [HN.out]; simp, by rw [HN.out]; simp, Lib.hid ⟨rfl, by rw [HX.out]; rfl⟩, hO0, hb03⟩
  case round =>
    clear hO0 hb03
    obtain ⟨l, t, rfl, hlt1, hlt2, HK, hO, hb⟩ := hrel
    have hsz := hb.size
    have hlen : (l ++ t).length = N := by rw [List.length_append]; omega
    rcases Nat.lt_or_ge l.length N with hlt | hge
    · obtain ⟨r0, t', rfl⟩ : ∃ r0 t', t = r0 :: t' := by
        cases t with
        | nil => simp at hlt2; omega
        | cons r0 t' => exact ⟨r0, t', rfl⟩
      have hk2 : l.length < (sumL q).length := by rw [← HX.out, List.length_map, ← HN.out]; exact hlt
      have hr0 : (sumL q)[l.length] = r0.xs := by
        have h1 := HK.out.2
        rw [List.drop_eq_getElem_cons hk2, List.map_cons] at h1
        injection h1 with h1 _
        exact h1.symm
      have HT1 := Lib.hid (show ((sumL q).take (l.length + 1)).map complL = ((sumL q).take l.length).map complL ++ [complL r0.xs] by
        rw [List.take_succ_eq_append_getElem hk2, List.map_append, hr0]; rfl)
      have HT2 := Lib.hid (show t'.map Row.xs = (sumL q).drop (l.length + 1) by
        have h1 := HK.out.2
        rw [List.drop_eq_getElem_cons hk2, List.map_cons] at h1
        injection h1)
      have hpr := (HSP.out r0.xs (by rw [← hr0]; exact List.getElem_mem hk2)).1
      have howN := hO.outN (n := N) (by simp only [List.length_map]; exact hlen)
      obtain ⟨g, cg, hv⟩ := own_someT howN (fun he => by injection he with _ he; omega)
      injection hv with hv1 hv2 hv3
      subst hv1 hv3
      have hcu := own_cellU howN hlt
      have hce : ((l ++ r0 :: t').map Row.v)[l.length]'(by simp) = r0.v := by simp
      rw [hce] at hcu
      obtain ⟨cc, ff⟩ := hcu
      have hin : In wr r0.A r0.c r0.xs := ⟨by have := (permB_true hpr).1; omega, hO.read.cap r0 (by simp), hO.read.rd r0 (by simp)⟩
      have hrl8 := (permB_true hpr).1
      have HPR := Lib.hid hpr
      clear hpr hce hr0 howN hk2
      obtain ⟨rA, rc, rx⟩ := r0
      replace cc : wr.cell? ⟨g, l.length, none⟩ = some (Value.slice rA rx.length rc) := cc
      have HC := Lib.hid (complement_impl rA rc rx wr hin (perm_million HPR.out))
      obtain ⟨cx, hcx⟩ : ∃ l, l = complL rx := ⟨_, rfl⟩
      have hcxl : cx.length ≤ 8 := by rw [hcx, complL_length]; exact hrl8
      rw [← hcx] at HC
      have HT1 : Hid (((sumL q).take (l.length + 1)).map complL = ((sumL q).take l.length).map complL ++ [cx]) := Lib.hid (by rw [HT1.out, hcx])
      have hln : (l.length : Int) < (N : Int) := by omega
      have hl0 : (0 : Int) ≤ (l.length : Int) := Int.natCast_nonneg _
      clear hin hcx
      go_wp2_with fail
      (with_reducible refine HC.out.mono ?_)
      rintro e w4 ⟨D, dc, rfl, _, _, ownD, hb4⟩
      have hO4 := hO.below hb4
      have howN4 := hO4.outN (n := N) (by simp only [List.length_map]; exact hlen)
      have hcu4 := own_cellU howN4 hlt
      obtain ⟨u4, cc4⟩ : ∃ u, w4.cell? ⟨g, l.length, none⟩ = some u := ⟨_, hcu4.1⟩
      have ff4 := hcu4.2
      clear hcu4
      obtain ⟨hO7, hg7⟩ := Own.put_at (r := ⟨D, dc, cx⟩) hO4 hb4.size hsz ownD
      have hb7 := (hb.trans (hb4.mono hsz)).grown hg7 (by have := hb4.size; omega) (fun g' hg' => by
        have h1 := (hO4.olim (n := N) (by simp only [List.length_map]; exact hlen) g' (by rw [← hg']; rfl)).1
        exact h1)
      have K := Lib.hid (And.intro hO7 hb7)
      clear hO7 hb7 hg7 hO4 howN4 ownD hb4 hb hO cc ff HC
      go_wp2_with fail
      go_roundw
      case rel => exact ⟨l ++ [⟨D, dc, cx⟩], t', by rw [List.length_append]; go_num, by simp only [List.length_append, List.length_cons, List.length_nil] at hlt1 hlt2 ⊢; omega, by simp only [List.length_append, List.length_cons, List.length_nil] at hlt1 hlt2 ⊢; omega, Lib.hid ⟨by rw [List.map_append, HK.out.1, List.length_append]; exact HT1.out.symm, by rw [List.length_append]; exact HT2.out⟩, by rw [List.append_assoc]; exact K.out.1, K.out.2⟩
      case measure => simp [intOf]; omega
    · have ht : t = [] := List.eq_nil_of_length_eq_zero (by omega)
      subst ht
      simp only [List.append_nil] at hO
      have hlN : l.length = N := by simp at hlt1; omega
      have HLN := Lib.hid hlN
      have HFin := Lib.hid (show l.map Row.xs = skewL p by rw [HK.out.1, skewL, ← HQ.out, List.take_of_length_le (by rw [← HX.out, List.length_map, ← HN.out]; exact hge)])
      have hnl : ¬ (l.length : Int) < (N : Int) := by omega
      have d1 : decide ((l.length : Int) < (N : Int)) = false := decide_eq_false hnl
      clear hlN hlt1 hlt2 hlen
      go_wp2_with fail
      go_ret
      exact ⟨S, sk, l, by rw [HLN.out]; rfl, HFin.out, hO, hb⟩
theorem top_max (b : List Int) : Lib.maxOf b = topL b := by cases b <;> rfl
theorem bot_min (b : List Int) : Lib.minOf b = botL b := by cases b <;> rfl
set_option maxHeartbeats 1000000 in
theorem isInterval_any (A : Option Addr) (c : Nat) (p : List Int) (f t : Nat) (w : World) (h : In w A c p) (hf : f < t) (ht : t ≤ p.length) (hv : ∀ x ∈ p, 0 ≤ x ∧ x ≤ 1000) :
    Calls Tryz.prog 60 #[.slice A p.length c, .int .i64 f, .int .i64 t] w (fun e w' => e = .returned (.bool (ivB ((p.drop f).take (t - f)))) ∧ w' = w) := by
  obtain ⟨s, hs⟩ : ∃ s, s = (p.drop f).take (t - f) := ⟨_, rfl⟩
  have hsl : s.length = t - f := by rw [hs, List.length_take, List.length_drop]; omega
  have hne : s ≠ [] := fun e => by rw [e] at hsl; simp at hsl; omega
  have hsv : ∀ x ∈ s, 0 ≤ x ∧ x ≤ 1000 := fun x hx => by rw [hs] at hx; exact hv x (List.mem_of_mem_drop (List.mem_of_mem_take hx))
  have hlen := h.len
  have hcap := h.cap
  rw [← hs]
  obtain ⟨bl, ol, rfl, hbl, hc⟩ := h.rd (by omega)
  have hcs : ∀ j, j < s.length → w.cell? ⟨bl, ol + f + j, none⟩ = some (.int .i64 (s.getD j 0)) := fun j hj => by
    have h1 := hc (f + j) (by omega)
    rw [Nat.add_assoc, h1]
    have : s[j]? = p[f + j]? := by rw [hs, List.getElem?_take_of_lt (by omega), List.getElem?_drop]
    rw [List.getElem?_eq_getElem hj, List.getElem?_eq_getElem (by omega : f + j < p.length)] at this
    rw [List.getD_eq_getElem?_getD, List.getElem?_eq_getElem hj, Option.getD_some, Option.some.inj this]
  have HMX := Lib.hid (Tryz.slices_Max_int bl (ol + f) s.length (c - f) s w (len_pos hne) (Nat.le_refl _) (by omega) hcs)
  have HMN := Lib.hid (Tryz.slices_Min_int bl (ol + f) s.length (c - f) s w (len_pos hne) (Nat.le_refl _) (by omega) hcs)
  rw [List.take_length, top_max] at HMX
  rw [List.take_length, bot_min] at HMN
  have HIV := Lib.hid (show ivB s = decide (topL s - botL s = (s.length : Int) - 1) from rfl)
  have b1 := hsv _ (topL_max hne).1
  have b2 := hsv _ (botL_min hne).1
  have e1 : IntKind.i64.wrap (topL s - botL s) = topL s - botL s := IntWalk.i64_in _ (by omega)
  have e2 : IntKind.i64.wrap ((s.length : Int) - 1) = (s.length : Int) - 1 := IntWalk.i64_in _ (by omega)
  obtain ⟨m, hm⟩ : ∃ m, m = s.length := ⟨_, rfl⟩
  rw [← hm] at HMX HMN e2 HIV
  have htf : t - f = m := by omega
  have hsl2 := fun w => run_cut2 (P := Tryz.prog) (t := 24) Tryz.underlying24 sizeI (some ⟨bl, ol, none⟩) p.length c f t (f : Int) (t : Int) rfl rfl (by omega) (by omega) w
  rw [htf, show cutA (some ⟨bl, ol, none⟩) c f = some ⟨bl, ol + f, none⟩ by unfold cutA; rw [if_neg (by omega)]; simp [Addr.add]] at hsl2
  clear hs hne hsv hc hcs hsl hm htf b1 b2
  go_enter Tryz.func60, Tryz.ntmps60
  go_wp2_with fail
  (with_reducible refine HMX.out.mono ?_)
  rintro e w' ⟨rfl, rfl⟩
  go_wp2_with fail
  (with_reducible refine HMN.out.mono ?_)
  rintro e w' ⟨rfl, rfl⟩
  go_wp2_with fail
  go_ret
  exact ⟨by rw [HIV.out]; first | rfl | congr 2, rfl⟩
end Go.Proofs.YtldknpjeegdbmaaGreat
