/- Several texts in one, each with its own head: TM3, TM4, TM5, TS1, TS2, U1, TS3. No program of ours. -/
import Derived.Test.YtldknpjeegdbmaaGreatMTrees6
/- Plain maths of FnTrees: intervals; the blocks that are as long as may be; the heads' pattern has no interval. -/
namespace Go.Proofs.YtldknpjeegdbmaaGreat
set_option maxRecDepth 100000

def topL (b : List Int) : Int := b.foldl max (headL b)
def botL (b : List Int) : Int := b.foldl min (headL b)
theorem fold_max (l : List Int) (a : Int) : (∀ x ∈ l, x ≤ l.foldl max a) ∧ a ≤ l.foldl max a ∧ (l.foldl max a = a ∨ l.foldl max a ∈ l) := by
  induction l generalizing a with
  | nil => exact ⟨fun _ h => (List.not_mem_nil h).elim, Int.le_refl _, .inl rfl⟩
  | cons c t ih =>
    obtain ⟨h1, h2, h3⟩ := ih (max a c)
    rw [List.foldl_cons]
    refine ⟨fun x hx => ?_, by omega, ?_⟩
    · rcases List.mem_cons.1 hx with rfl | hx
      · omega
      · exact h1 x hx
    · rcases h3 with h3 | h3
      · rw [h3]
        rcases Int.le_total a c with h | h
        · right; rw [show max a c = c by omega]; simp
        · left; omega
      · right; exact List.mem_cons_of_mem _ h3
theorem fold_min (l : List Int) (a : Int) : (∀ x ∈ l, l.foldl min a ≤ x) ∧ l.foldl min a ≤ a ∧ (l.foldl min a = a ∨ l.foldl min a ∈ l) := by
  induction l generalizing a with
  | nil => exact ⟨fun _ h => (List.not_mem_nil h).elim, Int.le_refl _, .inl rfl⟩
  | cons c t ih =>
    obtain ⟨h1, h2, h3⟩ := ih (min a c)
    rw [List.foldl_cons]
    refine ⟨fun x hx => ?_, by omega, ?_⟩
    · rcases List.mem_cons.1 hx with rfl | hx
      · omega
      · exact h1 x hx
    · rcases h3 with h3 | h3
      · rw [h3]
        rcases Int.le_total a c with h | h
        · left; omega
        · right; rw [show min a c = c by omega]; simp
      · right; exact List.mem_cons_of_mem _ h3
theorem topL_max {b : List Int} (h : b ≠ []) : topL b ∈ b ∧ ∀ x ∈ b, x ≤ topL b := by
  obtain ⟨h1, h2, h3⟩ := fold_max b (headL b)
  exact ⟨h3.elim (fun e => by unfold topL; rw [e]; exact headL_mem h) id, h1⟩
theorem botL_min {b : List Int} (h : b ≠ []) : botL b ∈ b ∧ ∀ x ∈ b, botL b ≤ x := by
  obtain ⟨h1, h2, h3⟩ := fold_min b (headL b)
  exact ⟨h3.elim (fun e => by unfold botL; rw [e]; exact headL_mem h) id, h1⟩
/-- The values follow one another. -/
def ivB (b : List Int) : Bool := decide (topL b - botL b = (b.length : Int) - 1)
theorem onto_ints {X Y : List Int} (hY : Y.Nodup) (hs : ∀ y ∈ Y, y ∈ X) (hl : X.length ≤ Y.length) : ∀ x ∈ X, x ∈ Y := by
  intro x hx
  apply Classical.byContradiction
  intro hn
  have h1 : (x :: Y).Nodup := List.nodup_cons.2 ⟨hn, hY⟩
  have h2 := nodup_sub_len (x :: Y) X h1 fun y hy => by
    rcases List.mem_cons.1 hy with rfl | hy
    · exact hx
    · exact hs y hy
  rw [List.length_cons] at h2
  omega
theorem iv_iff {b : List Int} (hn : b.Nodup) (h : b ≠ []) : ivB b = true ↔ ∃ m, IvAt b m := by
  obtain ⟨t1, t2⟩ := topL_max h
  obtain ⟨b1, b2⟩ := botL_min h
  have hl := len_pos h
  unfold ivB
  rw [decide_eq_true_eq]
  constructor
  · intro e
    refine ⟨botL b, fun v => ⟨fun hv => ?_, fun hv => ?_⟩⟩
    · have := t2 v hv; have := b2 v hv; omega
    · refine onto_ints (X := fromL (botL b) b.length) hn (fun y hy => ?_) (by rw [fromL_length]; exact Nat.le_refl _) v (fromL_mem.2 hv)
      have := t2 y hy; have := b2 y hy
      exact fromL_mem.2 (by omega)
  · rintro ⟨m, hm⟩
    have h1 := (hm _).1 t1
    have h2 := (hm _).1 b1
    have h3 := b2 m ((hm m).2 (by omega))
    have h4 := t2 (m + b.length - 1) ((hm _).2 (by omega))
    omega
theorem iv_one (x : Int) : ivB [x] = true := by simp [ivB, topL, botL, headL]
/-- All values between the least and the greatest one. -/
theorem iv_full {b : List Int} (hn : b.Nodup) (h : b ≠ []) (hf : ∀ v, botL b ≤ v → v ≤ topL b → v ∈ b) : ivB b = true := by
  obtain ⟨t1, t2⟩ := topL_max h
  obtain ⟨b1, b2⟩ := botL_min h
  have h3 := b2 _ t1
  have := len_same hn (fromL_nodup (botL b) (topL b - botL b + 1).toNat) fun v => by
    rw [fromL_mem]
    constructor
    · intro hv; have := t2 v hv; have := b2 v hv; omega
    · intro hv; exact hf v (by omega) (by omega)
  rw [fromL_length] at this
  unfold ivB
  rw [decide_eq_true_eq]
  omega

/-! The blocks, each as long as may be. -/
def longL (n : Nat) (s : List Int) : Nat → Nat
  | 0 => 1
  | k + 1 => if decide (k + 1 < n) && ivB (s.take (k + 1)) then k + 1 else longL n s k
theorem longL_facts {n : Nat} {s : List Int} (hn : 2 ≤ n) : ∀ k, 1 ≤ k → k ≤ s.length → 1 ≤ longL n s k ∧ longL n s k ≤ k ∧ longL n s k < n ∧ ivB (s.take (longL n s k)) = true ∧ ∀ j, longL n s k < j → j ≤ k → j < n → ivB (s.take j) = false := by
  intro k
  induction k with
  | zero => intro h; omega
  | succ k ih =>
    intro _ hk
    by_cases h : (decide (k + 1 < n) && ivB (s.take (k + 1))) = true
    · have e : longL n s (k + 1) = k + 1 := by rw [longL, if_pos h]
      rw [Bool.and_eq_true, decide_eq_true_eq] at h
      rw [e]
      exact ⟨by omega, Nat.le_refl _, h.1, h.2, fun j h1 h2 => by omega⟩
    · have e : longL n s (k + 1) = longL n s k := by rw [longL, if_neg h]
      rw [e]
      have hk0 : 1 ≤ k := by
        rcases Nat.eq_zero_or_pos k with h0 | h0
        · exfalso
          subst h0
          apply h
          rw [Bool.and_eq_true, decide_eq_true_eq]
          refine ⟨by omega, ?_⟩
          cases s with
          | nil => simp at hk
          | cons a t => exact iv_one a
        · exact h0
      obtain ⟨h1, h2, h3, h4, h5⟩ := ih hk0 (by omega)
      refine ⟨h1, by omega, h3, h4, fun j hj hjk hjn => ?_⟩
      by_cases hjk1 : j = k + 1
      · subst hjk1
        cases hb : ivB (s.take (k + 1)) with
        | false => rfl
        | true => exact absurd (by rw [Bool.and_eq_true, decide_eq_true_eq]; exact ⟨hjn, hb⟩) h
      · exact h5 j hj (by omega) hjn
def blkF (n : Nat) : Nat → List Int → List (List Int)
  | 0, _ => []
  | f + 1, s => if s.length = 0 then [] else s.take (longL n s s.length) :: blkF n f (s.drop (longL n s s.length))
/-- No block can be made longer. -/
def Grd (n : Nat) (bs : List (List Int)) : Prop := ∀ xs b zs ys, bs = xs ++ b :: (zs ++ ys) → zs.flatten ≠ [] → (b :: zs).flatten.length < n → ivB (b :: zs).flatten = false
theorem blkF_facts {n : Nat} (hn : 2 ≤ n) : ∀ f (s : List Int), s.length ≤ f → (blkF n f s).flatten = s ∧ (∀ b ∈ blkF n f s, b ≠ [] ∧ b.length < n ∧ ivB b = true) ∧ Grd n (blkF n f s) := by
  intro f
  induction f with
  | zero =>
    intro s hs
    have : s = [] := List.eq_nil_of_length_eq_zero (by omega)
    subst this
    refine ⟨rfl, fun b hb => (List.not_mem_nil hb).elim, fun xs b zs ys h => ?_⟩
    have := congrArg List.length h
    simp [blkF] at this
  | succ f ih =>
    intro s hs
    by_cases h0 : s.length = 0
    · have : s = [] := List.eq_nil_of_length_eq_zero h0
      subst this
      refine ⟨rfl, fun b hb => (by simp [blkF] at hb), fun xs b zs ys h => ?_⟩
      have := congrArg List.length h
      simp [blkF] at this
    · obtain ⟨h1, h2, h3, h4, h5⟩ := longL_facts (s := s) hn s.length (by omega) (Nat.le_refl _)
      have e : blkF n (f + 1) s = s.take (longL n s s.length) :: blkF n f (s.drop (longL n s s.length)) := by rw [blkF, if_neg h0]
      obtain ⟨i1, i2, i3⟩ := ih (s.drop (longL n s s.length)) (by rw [List.length_drop]; omega)
      generalize longL n s s.length = L at *
      rw [e]
      refine ⟨by rw [List.flatten_cons, i1, List.take_append_drop], fun b hb => ?_, fun xs b zs ys h hz hlt => ?_⟩
      · rcases List.mem_cons.1 hb with rfl | hb
        · refine ⟨fun e' => ?_, by rw [List.length_take]; omega, h4⟩
          have := congrArg List.length e'
          rw [List.length_take, List.length_nil] at this
          omega
        · exact i2 b hb
      · cases xs with
        | nil =>
          rw [List.nil_append] at h
          injection h with ha hb
          have hs2 : s = (b :: zs).flatten ++ ys.flatten := by
            rw [← ha, List.flatten_cons, List.append_assoc, ← List.flatten_append, ← hb, i1, List.take_append_drop]
          have hbl : b.length = L := by rw [← ha, List.length_take]; omega
          have hzl := len_pos hz
          have hcl : (b :: zs).flatten.length = b.length + zs.flatten.length := by rw [List.flatten_cons, List.length_append]
          have hsl := congrArg List.length hs2
          rw [List.length_append] at hsl
          have := h5 (b :: zs).flatten.length (by omega) (by omega) hlt
          rwa [show s.take (b :: zs).flatten.length = (b :: zs).flatten by rw [hs2, List.take_left']; rfl] at this
        | cons x xs =>
          rw [List.cons_append] at h
          injection h with ha hb
          exact i3 xs b zs ys hb hz hlt
theorem blkF_blks {p : List Int} (hp : permB p = true) (hn : 2 ≤ p.length) : Blks p (blkF p.length p.length p) ∧ Grd p.length (blkF p.length p.length p) ∧ ∀ b ∈ blkF p.length p.length p, b.length < p.length := by
  obtain ⟨h1, h2, h3⟩ := blkF_facts hn p.length p (Nat.le_refl _)
  refine ⟨⟨h1, fun b hb => (h2 b hb).1, fun b hb => ?_⟩, h3, fun b hb => (h2 b hb).2.1⟩
  have hbn := flat_nodup (by rw [h1]; exact (permB_true hp).2.2) hb
  exact (iv_iff hbn (h2 b hb).1).1 (h2 b hb).2.2
/-- No places but one or all follow one another. -/
def simpB (p : List Int) : Bool := (List.range p.length).all fun f => (List.range p.length).all fun t => !(decide (f < t) && decide (t - f + 1 < p.length) && ivB ((p.drop f).take (t - f + 1)))
theorem simp_iff {p : List Int} : simpB p = true ↔ ∀ f t, f < t → t < p.length → t - f + 1 < p.length → ivB ((p.drop f).take (t - f + 1)) = false := by
  unfold simpB
  rw [List.all_eq_true]
  constructor
  · intro h f t h1 h2 h3
    have := List.all_eq_true.1 (h f (List.mem_range.2 (by omega))) t (List.mem_range.2 h2)
    cases hb : ivB ((p.drop f).take (t - f + 1)) with
    | false => rfl
    | true => simp [h1, h3, hb] at this
  · intro h f hf
    rw [List.all_eq_true]
    intro t ht
    have ht := List.mem_range.1 ht
    by_cases h1 : f < t
    · by_cases h3 : t - f + 1 < p.length
      · rw [h f t h1 ht h3]; simp
      · simp [h3]
    · simp [h1]
/-- The heads' pattern has no interval where no block can be longer. -/
theorem root_simple {p : List Int} {bs : List (List Int)} (h : Blks p bs) (hp : permB p = true) (hg : Grd p.length bs) : simpB (rootL bs) = true := by
  have hn := (permB_true hp).2.2
  have hrp := root_perm h hp
  have hrn := (permB_true hrp).2.2
  rw [simp_iff]
  intro f t h1 h2 h3
  rw [rootL_length] at h2 h3
  obtain ⟨k, hk⟩ : ∃ k, k = t - f + 1 := ⟨_, rfl⟩
  rw [← hk] at h3 ⊢
  have hfk : f + k ≤ bs.length := by omega
  cases hiv : ivB (((rootL bs).drop f).take k) with
  | false => rfl
  | true =>
    exfalso
    have hrl := rootL_length bs
    have hsl : (((rootL bs).drop f).take k).length = k := by rw [List.length_take, List.length_drop]; omega
    have hsn : (((rootL bs).drop f).take k).Nodup := (hrn.sublist (List.drop_sublist _ _)).sublist (List.take_sublist _ _)
    obtain ⟨r, hr⟩ := (iv_iff hsn (fun e => by rw [e] at hsl; simp at hsl; omega)).1 hiv
    rw [IvAt, hsl] at hr
    have hin : ∀ i (hi : i < bs.length), (f ≤ i ∧ i < f + k) ↔ (r ≤ (rootL bs)[i]'(by omega) ∧ (rootL bs)[i]'(by omega) < r + k) := by
      intro i hi
      rw [← hr]
      constructor
      · rintro ⟨h4, h5⟩
        refine List.mem_iff_getElem.2 ⟨i - f, by rw [hsl]; omega, ?_⟩
        rw [List.getElem_take, List.getElem_drop]
        congr 1
        omega
      · intro hm
        obtain ⟨j, hj, e⟩ := List.mem_iff_getElem.1 hm
        rw [hsl] at hj
        rw [List.getElem_take, List.getElem_drop] at e
        have := nodup_inj hrn (i := f + j) (j := i) (by omega) (by omega) e
        omega
    have hsplit : bs = bs.take f ++ ((bs.drop f).take k ++ bs.drop (f + k)) := by
      rw [← List.drop_drop, List.take_append_drop, List.take_append_drop]
    obtain ⟨S, hS⟩ : ∃ S, S = (bs.drop f).take k := ⟨_, rfl⟩
    have hSl : S.length = k := by rw [hS, List.length_take, List.length_drop]; omega
    have hSm : ∀ c, c ∈ S ↔ ∃ i, ∃ hi : i < bs.length, f ≤ i ∧ i < f + k ∧ bs[i] = c := by
      intro c
      rw [hS, List.mem_iff_getElem]
      constructor
      · rintro ⟨j, hj, e⟩
        rw [List.length_take, List.length_drop] at hj
        rw [List.getElem_take, List.getElem_drop] at e
        exact ⟨f + j, by omega, by omega, by omega, e⟩
      · rintro ⟨i, hi, h4, h5, e⟩
        refine ⟨i - f, by rw [List.length_take, List.length_drop]; omega, ?_⟩
        rw [List.getElem_take, List.getElem_drop, ← e]
        congr 1
        omega
    rw [← hS] at hsplit
    have hSb : ∀ c ∈ S, c ∈ bs := fun c hc => by rw [hsplit]; simp [hc]
    have hflat : p = (bs.take f).flatten ++ (S.flatten ++ (bs.drop (f + k)).flatten) := by
      rw [← List.flatten_append, ← List.flatten_append, ← hsplit, h.flat]
    have hSn : S.flatten.Nodup := by
      rw [hflat, List.nodup_append] at hn
      exact (List.nodup_append.1 hn.2.1).1
    have hSlen := flat_len_le fun b hb => h.ne b (hSb b hb)
    have hSne : S.flatten ≠ [] := fun e => by rw [e, hSl] at hSlen; simp at hSlen; omega
    have hlt : S.flatten.length < p.length := by
      have e1 := flat_len_le (bs := bs.take f) fun b hb => h.ne b (List.mem_of_mem_take hb)
      have e2 := flat_len_le (bs := bs.drop (f + k)) fun b hb => h.ne b (List.mem_of_mem_drop hb)
      have e3 := congrArg List.length hflat
      rw [List.length_append, List.length_append] at e3
      rw [List.length_take] at e1
      rw [List.length_drop] at e2
      omega
    have hfull : ivB S.flatten = true := by
      obtain ⟨t1, t2⟩ := topL_max hSne
      obtain ⟨b1, b2⟩ := botL_min hSne
      have hpm : ∀ x ∈ S.flatten, x ∈ p := fun x hx => by rw [hflat]; simp [hx]
      refine iv_full hSn hSne fun v hv1 hv2 => ?_
      have e1 := (perm_iv hp _).1 (hpm _ t1)
      have e2 := (perm_iv hp _).1 (hpm _ b1)
      have hvp : v ∈ p := (perm_iv hp v).2 (by omega)
      rw [← h.flat] at hvp
      obtain ⟨c, hc, hvc⟩ := List.mem_flatten.1 hvp
      by_cases hcS : c ∈ S
      · exact List.mem_flatten.2 ⟨c, hcS, hvc⟩
      exfalso
      obtain ⟨i, hi, rfl⟩ := List.mem_iff_getElem.1 hc
      have hio : ¬ (f ≤ i ∧ i < f + k) := fun hh => hcS ((hSm _).2 ⟨i, hi, hh.1, hh.2, rfl⟩)
      rw [hin i hi] at hio
      obtain ⟨a, ha, hba⟩ := List.mem_flatten.1 b1
      obtain ⟨a', ha', hta⟩ := List.mem_flatten.1 t1
      obtain ⟨j, hj, hj1, hj2, rfl⟩ := (hSm a).1 ha
      obtain ⟨j', hj', hj1', hj2', rfl⟩ := (hSm a').1 ha'
      have q1 := (hin j hj).1 ⟨hj1, hj2⟩
      have q2 := (hin j' hj').1 ⟨hj1', hj2'⟩
      rcases Int.lt_or_le ((rootL bs)[i]'(by omega)) r with h4 | h4
      · have h5 := (root_lt hi hj).1 (by omega)
        have := blks_lt h (permB_true hp).2.2 (List.getElem_mem hi) (List.getElem_mem hj) h5 v hvc _ hba
        omega
      · have h5 := (root_lt hj' hi).1 (by omega)
        have := blks_lt h (permB_true hp).2.2 (List.getElem_mem hj') (List.getElem_mem hi) h5 _ hta v hvc
        omega
    obtain ⟨b, zs, rfl⟩ : ∃ b zs, S = b :: zs := by
      cases S with
      | nil => rw [List.length_nil] at hSl; omega
      | cons b zs => exact ⟨b, zs, rfl⟩
    have hz : zs.flatten ≠ [] := fun e => by
      have h1 := flat_len_le (bs := zs) fun c hc => h.ne c (hSb c (by simp [hc]))
      rw [e, List.length_nil] at h1
      rw [List.length_cons] at hSl
      omega
    have := hg (bs.take f) b zs (bs.drop (f + k)) (by rw [List.cons_append] at hsplit; exact hsplit) hz hlt
    rw [this] at hfull
    cases hfull
/-- A simple permutation is its own root. -/
theorem simple_root {p : List Int} {bs : List (List Int)} (h : Blks p bs) (hp : permB p = true) (hs : simpB p = true) (hlt : ∀ b ∈ bs, b.length < p.length) : rootL bs = p := by
  rw [simp_iff] at hs
  have h1 : ∀ b ∈ bs, b.length = 1 := by
    intro b hb
    have hb0 := len_pos (h.ne b hb)
    apply Classical.byContradiction
    intro hne
    obtain ⟨xs, ys, e⟩ := List.append_of_mem hb
    have hf : p = xs.flatten ++ (b ++ ys.flatten) := by rw [← h.flat, e]; simp
    have hl := congrArg List.length hf
    rw [List.length_append, List.length_append] at hl
    have hbl := hlt b hb
    have := hs xs.flatten.length (xs.flatten.length + b.length - 1) (by omega) (by omega) (by omega)
    rw [show xs.flatten.length + b.length - 1 - xs.flatten.length + 1 = b.length by omega, hf, List.drop_left' rfl, List.take_left' rfl] at this
    rw [(iv_iff (flat_nodup (by rw [h.flat]; exact (permB_true hp).2.2) hb) (h.ne b hb)).2 (h.iv b hb)] at this
    cases this
  have h2 : bs.map headL = p := by
    rw [← h.flat]
    clear h hlt hs
    induction bs with
    | nil => rfl
    | cons a t ih =>
      have ha := h1 a (by simp)
      rw [List.map_cons, List.flatten_cons, ih fun b hb => h1 b (by simp [hb])]
      match a with
      | [x] => rfl
  unfold rootL
  rw [h2]
  exact patL_self (permB_true hp).2.2 (permB_true hp).2.1 rfl
end Go.Proofs.YtldknpjeegdbmaaGreat

/- Plain maths of FnTrees: the parts of a sum and of a skew sum, and how they are joined. -/
namespace Go.Proofs.YtldknpjeegdbmaaGreat
set_option maxRecDepth 100000

def join1 (b : Bool) (a q : List Int) : List Int := if b = true then a.map (· + (q.length : Int)) ++ q else a ++ q.map (· + (a.length : Int))
def joinL (b : Bool) (L : List (List Int)) : List Int := L.foldl (join1 b) []
theorem join1_len (b : Bool) (a q : List Int) : (join1 b a q).length = a.length + q.length := by unfold join1; split <;> simp
theorem join1_nil (b : Bool) (q : List Int) : join1 b [] q = q := by unfold join1; split <;> simp
theorem join1_nil' (b : Bool) (q : List Int) : join1 b q [] = q := by unfold join1; split <;> simp
theorem join1_assoc (b : Bool) (a c q : List Int) : join1 b a (join1 b c q) = join1 b (join1 b a c) q := by
  cases b with
  | true =>
    have h := join1_len true c q
    unfold join1 at h ⊢
    simp only [if_true] at h ⊢
    rw [h, List.map_append, List.map_map, List.append_assoc]
    congr 2
    funext x
    simp only [Function.comp]
    push_cast
    omega
  | false =>
    have h := join1_len false a c
    unfold join1 at h ⊢
    simp only [Bool.false_eq_true, if_false] at h ⊢
    rw [h, List.map_append, List.map_map, List.append_assoc]
    congr 3
    funext x
    simp only [Function.comp]
    push_cast
    omega
theorem foldl_join (b : Bool) (L : List (List Int)) : ∀ a, L.foldl (join1 b) a = join1 b a (joinL b L) := by
  induction L with
  | nil => intro a; exact (join1_nil' b a).symm
  | cons q t ih =>
    intro a
    rw [List.foldl_cons, ih, show joinL b (q :: t) = join1 b q (joinL b t) by rw [joinL, List.foldl_cons, join1_nil, ih q], join1_assoc]
theorem joinL_cons (b : Bool) (q : List Int) (t : List (List Int)) : joinL b (q :: t) = join1 b q (joinL b t) := by
  rw [joinL, List.foldl_cons, join1_nil, foldl_join]
theorem joinL_snoc (b : Bool) (L : List (List Int)) (q : List Int) : joinL b (L ++ [q]) = join1 b (joinL b L) q := by
  rw [joinL, List.foldl_append]; rfl
theorem joinL_len (b : Bool) (L : List (List Int)) : (joinL b L).length = (L.map List.length).sum := by
  induction L with
  | nil => rfl
  | cons q t ih => rw [joinL_cons, join1_len, ih, List.map_cons, List.sum_cons]
theorem compl_join1 (a q : List Int) : complL (join1 false a q) = join1 true (complL a) (complL q) := by
  have h := join1_len false a q
  unfold complL join1 at *
  simp only [Bool.false_eq_true, if_false, if_true] at h ⊢
  rw [h, List.map_append, List.map_map, List.map_map, List.length_map]
  congr 1
  · refine List.map_congr_left fun x _ => ?_
    simp only [Function.comp]
    push_cast
    omega
  · refine List.map_congr_left fun x _ => ?_
    simp only [Function.comp]
    push_cast
    omega
theorem compl_joinL (L : List (List Int)) : complL (joinL false L) = joinL true (L.map complL) := by
  induction L with
  | nil => rfl
  | cons q t ih => rw [joinL_cons, compl_join1, ih, List.map_cons, joinL_cons]

/-! The cuts of a sum. -/
def cutN (p : List Int) : Nat → Nat
  | 0 => 0
  | k + 1 => if pmax p (k + 1) = (k : Int) + 1 then k + 1 else cutN p k
def partS (p : List Int) (k : Nat) : List Int := ((p.take (k + 1)).drop (cutN p k)).map (· + -(cutN p k : Int))
def sumTo (p : List Int) : Nat → List (List Int)
  | 0 => []
  | k + 1 => if pmax p (k + 1) = (k : Int) + 1 then sumTo p k ++ [partS p k] else sumTo p k
def sumL (p : List Int) : List (List Int) := sumTo p p.length
def skewL (p : List Int) : List (List Int) := (sumL (complL p)).map complL
theorem cutN_le (p : List Int) (k : Nat) : cutN p k ≤ k := by
  induction k with
  | zero => exact Nat.le_refl _
  | succ k ih => unfold cutN; split <;> omega
theorem cutN_pmax (p : List Int) (k : Nat) : pmax p (cutN p k) = (cutN p k : Int) := by
  induction k with
  | zero => rfl
  | succ k ih =>
    unfold cutN
    split
    · rename_i h; rw [h]; push_cast; rfl
    · exact ih
theorem pmax_le {p : List Int} {k : Nat} : ∀ v ∈ p.take k, v ≤ pmax p k := (fold_max (p.take k) 0).1
theorem cut_mem {p : List Int} (hp : permB p = true) {k : Nat} (hk : k ≤ p.length) (h : pmax p k = (k : Int)) (v : Int) : v ∈ p.take k ↔ 1 ≤ v ∧ v ≤ k := by
  obtain ⟨h8, hr, hn⟩ := permB_true hp
  have hs : ∀ x ∈ p.take k, 1 ≤ x ∧ x ≤ k := fun x hx => by
    have := pmax_le x hx
    have := hr x (List.mem_of_mem_take hx)
    omega
  refine ⟨hs v, fun hv => ?_⟩
  refine onto_ints (X := fromL 1 k) (hn.sublist (List.take_sublist _ _)) (fun y hy => ?_) ?_ v ?_
  · have := hs y hy
    exact fromL_mem.2 (by omega)
  · rw [fromL_length, List.length_take]; omega
  · exact fromL_mem.2 (by omega)
theorem take_split {p : List Int} (hp : permB p = true) {k : Nat} : p.take (k + 1) = p.take (cutN p k) ++ (p.take (k + 1)).drop (cutN p k) := by
  have _h0 := hp
  have := cutN_le p k
  conv => lhs; rw [← List.take_append_drop (cutN p k) (p.take (k + 1))]
  rw [List.take_take, Nat.min_eq_left (by omega)]
theorem slice_iv {p : List Int} (hp : permB p = true) {k : Nat} (hk : k < p.length) (h : pmax p (k + 1) = (k : Int) + 1) : IvAt ((p.take (k + 1)).drop (cutN p k)) ((cutN p k : Int) + 1) := by
  have hc := cutN_le p k
  have hn := (permB_true hp).2.2
  have h1 := cut_mem hp (k := k + 1) hk (by rw [h]; push_cast; rfl)
  have h2 := cut_mem hp (k := cutN p k) (by omega) (cutN_pmax p k)
  have hl : ((p.take (k + 1)).drop (cutN p k)).length = k + 1 - cutN p k := by rw [List.length_drop, List.length_take]; omega
  have hd : (p.take (cutN p k) ++ (p.take (k + 1)).drop (cutN p k)).Nodup := by rw [← take_split hp]; exact hn.sublist (List.take_sublist _ _)
  rw [List.nodup_append] at hd
  intro v
  rw [hl]
  constructor
  · intro hv
    have a := (h1 v).1 (by rw [take_split hp]; simp [hv])
    have b : v ∉ p.take (cutN p k) := fun hh => hd.2.2 v hh v hv rfl
    rw [h2 v] at b
    omega
  · intro hv
    have a := (h1 v).2 (by omega)
    rw [take_split hp, List.mem_append] at a
    rcases a with a | a
    · have := (h2 v).1 a; omega
    · exact a
theorem slice_nodup {p : List Int} (hp : permB p = true) {k : Nat} : ((p.take (k + 1)).drop (cutN p k)).Nodup := ((permB_true hp).2.2.sublist (List.take_sublist _ _)).sublist (List.drop_sublist _ _)
theorem slice_pat {p : List Int} (hp : permB p = true) {k : Nat} (hk : k < p.length) (h : pmax p (k + 1) = (k : Int) + 1) : patL ((p.take (k + 1)).drop (cutN p k)) = partS p k := by
  have hiv := slice_iv hp hk h
  unfold patL partS
  refine List.map_congr_left fun x hx => ?_
  have hx' := (hiv x).1 hx
  rw [below_iv (slice_nodup hp) hiv (by omega)]
  omega
theorem partS_len {p : List Int} (hp : permB p = true) {k : Nat} (hk : k < p.length) : (partS p k).length = k + 1 - cutN p k := by have _h0 := hp; unfold partS; rw [List.length_map, List.length_drop, List.length_take]; omega
theorem partS_perm {p : List Int} (hp : permB p = true) {k : Nat} (hk : k < p.length) (h : pmax p (k + 1) = (k : Int) + 1) : permB (partS p k) = true ∧ partS p k ≠ [] := by
  have hl := partS_len hp hk
  have hc := cutN_le p k
  refine ⟨?_, fun e => by rw [e] at hl; simp at hl; omega⟩
  rw [← slice_pat hp hk h]
  refine patL_permB (slice_nodup hp) ?_
  rw [List.length_drop, List.length_take]
  have := (permB_true hp).1
  omega
theorem sumTo_perm {p : List Int} (hp : permB p = true) {k : Nat} (hk : k ≤ p.length) : ∀ q ∈ sumTo p k, permB q = true ∧ q ≠ [] := by
  induction k with
  | zero => intro q hq; simp [sumTo] at hq
  | succ k ih =>
    intro q hq
    unfold sumTo at hq
    split at hq
    · rename_i h
      rcases List.mem_append.1 hq with hq | hq
      · exact ih (by omega) q hq
      · rw [List.mem_singleton] at hq
        rw [hq]
        exact partS_perm hp (by omega) h
    · exact ih (by omega) q hq
theorem sumTo_join {p : List Int} (hp : permB p = true) {k : Nat} (hk : k ≤ p.length) : joinL false (sumTo p k) = p.take (cutN p k) := by
  induction k with
  | zero => simp [sumTo, cutN, joinL]
  | succ k ih =>
    have ih := ih (by omega)
    unfold sumTo cutN
    split
    · rw [joinL_snoc, ih, take_split hp (k := k)]
      have hc := cutN_le p k
      unfold join1 partS
      simp only [Bool.false_eq_true, if_false]
      rw [List.map_map, List.length_take, Nat.min_eq_left (by omega)]
      congr 1
      conv => rhs; rw [← List.map_id ((p.take (k + 1)).drop (cutN p k))]
      refine List.map_congr_left fun x _ => ?_
      simp only [Function.comp, id]
      omega
    · exact ih
theorem cutN_all {p : List Int} (hp : permB p = true) : cutN p p.length = p.length := by
  obtain ⟨h8, hr, hn⟩ := permB_true hp
  rcases h : p.length with _ | n
  · rfl
  · have hm := perm_mem hn hr rfl (p.length : Int) (by omega)
    have h1 := pmax_le (p := p) (k := p.length) _ (by rw [List.take_length]; exact hm)
    have h2 := (fold_max (p.take p.length) 0).2.2
    have h3 : pmax p p.length ≤ p.length := by
      unfold pmax
      rcases h2 with h2 | h2
      · rw [h2]; omega
      · exact (hr _ (List.mem_of_mem_take h2)).2
    unfold cutN
    rw [if_pos]
    rw [← h]
    have : ((n : Int) + 1) = (p.length : Int) := by omega
    rw [this]
    omega
theorem sum_join {p : List Int} (hp : permB p = true) : joinL false (sumL p) = p := by
  rw [sumL, sumTo_join hp (Nat.le_refl _), cutN_all hp, List.take_length]
theorem sumL_perm {p : List Int} (hp : permB p = true) : ∀ q ∈ sumL p, permB q = true ∧ q ≠ [] := sumTo_perm hp (Nat.le_refl _)
theorem skew_join {p : List Int} (hp : permB p = true) : joinL true (skewL p) = p := by
  rw [skewL, ← compl_joinL, sum_join (perm_compl hp), compl_compl]
theorem skewL_perm {p : List Int} (hp : permB p = true) : ∀ q ∈ skewL p, permB q = true ∧ q ≠ [] := by
  intro q hq
  obtain ⟨a, ha, rfl⟩ := List.mem_map.1 hq
  obtain ⟨h1, h2⟩ := sumL_perm (perm_compl hp) a ha
  refine ⟨perm_compl h1, fun e => h2 ?_⟩
  have := congrArg List.length e
  rw [complL_length] at this
  exact List.eq_nil_of_length_eq_zero this
/-- What is joined behind a permutation is a permutation. -/
theorem join_perm {b : Bool} {q r : List Int} (h : permB (join1 b q r) = true) (hq : permB q = true) : permB r = true := by
  obtain ⟨h8, hr, hn⟩ := permB_true h
  obtain ⟨q8, qr, qn⟩ := permB_true hq
  rw [join1_len] at h8 hr
  have hqm : ∀ v : Int, 1 ≤ v → v ≤ q.length → v ∈ q := fun v h1 h2 => perm_mem qn qr rfl v ⟨h1, h2⟩
  simp only [permB, decide_eq_true_eq]
  cases b with
  | true =>
    unfold join1 at hr hn
    simp only [if_true] at hr hn
    rw [List.nodup_append] at hn
    refine ⟨by omega, fun v hv => ?_, hn.2.1⟩
    have h1 := hr v (by simp [hv])
    push_cast at h1
    refine ⟨h1.1, ?_⟩
    apply Classical.byContradiction
    intro hh
    exact hn.2.2 v (List.mem_map.2 ⟨v - r.length, hqm _ (by omega) (by omega), by omega⟩) v hv rfl
  | false =>
    unfold join1 at hr hn
    simp only [Bool.false_eq_true, if_false] at hr hn
    rw [List.nodup_append] at hn
    have hnr : r.Nodup := by
      rw [List.nodup_iff_pairwise_ne]
      have := List.nodup_iff_pairwise_ne.1 hn.2.1
      rw [List.pairwise_map] at this
      exact this.imp fun h e => h (by rw [e])
    refine ⟨by omega, fun v hv => ?_, hnr⟩
    have hm : v + (q.length : Int) ∈ r.map (· + (q.length : Int)) := List.mem_map.2 ⟨v, hv, rfl⟩
    have h1 := hr (v + q.length) (List.mem_append.2 (.inr hm))
    push_cast at h1
    refine ⟨?_, by omega⟩
    apply Classical.byContradiction
    intro hh
    exact hn.2.2 (v + q.length) (hqm _ (by omega) (by omega)) _ hm rfl
end Go.Proofs.YtldknpjeegdbmaaGreat

/- Plain maths of FnTrees: the split of a permutation into its root and its parts, and what it is worth. -/
namespace Go.Proofs.YtldknpjeegdbmaaGreat
set_option maxRecDepth 100000

def rootB (b : Bool) : List Int := if b = true then [2, 1] else [1, 2]
def headP (L : List (List Int)) : List Int := L[0]?.getD []
def splitR (p : List Int) : List Int := if p.length = 1 then [1] else if 1 < (sumL p).length then rootB false else if 1 < (skewL p).length then rootB true else rootL (blkF p.length p.length p)
def splitP (p : List Int) : List (List Int) := if p.length = 1 then [[1]] else if 1 < (sumL p).length then [headP (sumL p), joinL false (sumL p).tail] else if 1 < (skewL p).length then [headP (skewL p), joinL true (skewL p).tail] else (blkF p.length p.length p).map patL
theorem two_parts {b : Bool} {p : List Int} {L : List (List Int)} (hp : permB p = true) (hj : joinL b L = p) (hL : ∀ q ∈ L, permB q = true ∧ q ≠ []) (hl : 1 < L.length) :
    p = join1 b (headP L) (joinL b L.tail) ∧ permB (headP L) = true ∧ permB (joinL b L.tail) = true ∧ headP L ≠ [] ∧ joinL b L.tail ≠ [] := by
  obtain ⟨q, t, rfl⟩ : ∃ q t, L = q :: t := by
    cases L with
    | nil => simp at hl
    | cons q t => exact ⟨q, t, rfl⟩
  have e : headP (q :: t) = q := rfl
  rw [e, List.tail_cons]
  rw [joinL_cons] at hj
  have hq := hL q (by simp)
  refine ⟨hj.symm, hq.1, join_perm (by rw [hj]; exact hp) hq.1, hq.2, fun h => ?_⟩
  have h1 := joinL_len b t
  rw [h, List.length_nil] at h1
  cases t with
  | nil => simp at hl
  | cons a s =>
    rw [List.map_cons, List.sum_cons] at h1
    have := len_pos (hL a (by simp)).2
    omega
/-- What the split is. -/
inductive SplitIs (p r : List Int) (L : List (List Int)) : Prop
  | one (h : p.length = 1) (hr : r = [1]) (hL : L = [[1]])
  | two (b : Bool) (q s : List Int) (h : p = join1 b q s) (hq : permB q = true) (hs : permB s = true) (hq0 : q ≠ []) (hs0 : s ≠ []) (hr : r = rootB b) (hL : L = [q, s])
  | many (bs : List (List Int)) (h2 : 2 ≤ p.length) (h : Blks p bs) (hg : Grd p.length bs) (hlt : ∀ b ∈ bs, b.length < p.length) (h1 : (sumL p).length ≤ 1) (h1' : (skewL p).length ≤ 1) (hr : r = rootL bs) (hL : L = bs.map patL)
theorem split_is {p : List Int} (hp : permB p = true) (h0 : p ≠ []) : SplitIs p (splitR p) (splitP p) := by
  have hl0 := len_pos h0
  unfold splitR splitP
  by_cases h1 : p.length = 1
  · rw [if_pos h1, if_pos h1]; exact .one h1 rfl rfl
  rw [if_neg h1, if_neg h1]
  by_cases h2 : 1 < (sumL p).length
  · rw [if_pos h2, if_pos h2]
    obtain ⟨a, b, c, d, e⟩ := two_parts hp (sum_join hp) (sumL_perm hp) h2
    exact .two false _ _ a b c d e rfl rfl
  rw [if_neg h2, if_neg h2]
  by_cases h3 : 1 < (skewL p).length
  · rw [if_pos h3, if_pos h3]
    obtain ⟨a, b, c, d, e⟩ := two_parts hp (skew_join hp) (skewL_perm hp) h3
    exact .two true _ _ a b c d e rfl rfl
  rw [if_neg h3, if_neg h3]
  obtain ⟨a, b, c⟩ := blkF_blks hp (by omega)
  exact .many _ (by omega) a b c (by omega) (by omega) rfl rfl
theorem one_perm {p : List Int} (hp : permB p = true) (h : p.length = 1) : p = [1] := by
  obtain ⟨_, h2, _⟩ := permB_true hp
  match p, h with
  | [x], _ => have := h2 x (by simp); simp at this; simp; omega
theorem split_part {p r : List Int} {L : List (List Int)} (hp : permB p = true) (h : SplitIs p r L) : (∀ q ∈ L, permB q = true ∧ q ≠ [] ∧ (2 ≤ p.length → q.length < p.length)) ∧ L.length = r.length ∧ permB r = true ∧ (L.map List.length).sum = p.length ∧ r ≠ [] := by
  cases h with
  | one h hr hL =>
    subst hr hL
    refine ⟨fun q hq => ?_, rfl, by decide, by simp [h], by simp⟩
    rw [List.mem_singleton] at hq
    subst hq
    exact ⟨by decide, by simp, fun h2 => by omega⟩
  | two b q s h hq hs hq0 hs0 hr hL =>
    subst hr hL
    have hl := join1_len b q s
    have h1 := len_pos hq0
    have h2 := len_pos hs0
    rw [← h] at hl
    refine ⟨fun x hx => ?_, by cases b <;> rfl, by cases b <;> decide, by simp [hl], by cases b <;> simp [rootB]⟩
    simp only [List.mem_cons, List.not_mem_nil, or_false] at hx
    rcases hx with rfl | rfl
    · exact ⟨hq, hq0, fun _ => by omega⟩
    · exact ⟨hs, hs0, fun _ => by omega⟩
  | many bs h2 h hg hlt h1 h1' hr hL =>
    subst hr hL
    refine ⟨fun q hq => ?_, by rw [List.length_map, rootL_length], root_perm h hp, ?_, fun e => ?_⟩
    · obtain ⟨b, hb, rfl⟩ := List.mem_map.1 hq
      have := len_pos (h.ne b hb)
      refine ⟨part_perm h hp hb, fun e => ?_, fun _ => by rw [patL_length]; exact hlt b hb⟩
      have := congrArg List.length e
      rw [patL_length, List.length_nil] at this
      omega
    · rw [List.map_map, ← h.flat, List.length_flatten]
      congr 1
      exact List.map_congr_left fun b _ => patL_length b
    · have := congrArg List.length e
      rw [rootL_length, List.length_nil] at this
      have hb : bs = [] := List.eq_nil_of_length_eq_zero this
      have hf : p = [] := by rw [← h.flat, hb]; rfl
      rw [hf] at h2
      simp at h2

/-! Inflation. -/
def rAt (r : List Int) (i : Nat) : Int := r[i]?.getD 0
def lAt (L : List (List Int)) (i : Nat) : List Int := L[i]?.getD []
def baseTo (r : List Int) (L : List (List Int)) (k : Nat) : Nat → Nat
  | 0 => 0
  | i + 1 => baseTo r L k i + if rAt r i < rAt r k then (lAt L i).length else 0
def inflTo (r : List Int) (L : List (List Int)) : Nat → List Int
  | 0 => []
  | k + 1 => inflTo r L k ++ (lAt L k).map fun x => (baseTo r L k r.length : Int) + x
theorem infl_two (b : Bool) (q s : List Int) : inflTo (rootB b) [q, s] 2 = join1 b q s := by
  cases b <;> simp [rootB, inflTo, baseTo, rAt, lAt, join1, Int.add_comm]
theorem rAt_root {bs : List (List Int)} {i : Nat} (hi : i < bs.length) : rAt (rootL bs) i = (rootL bs)[i]'(by rw [rootL_length]; exact hi) := by
  unfold rAt
  rw [List.getElem?_eq_getElem (by rw [rootL_length]; exact hi)]; rfl
theorem base_blocks {bs : List (List Int)} {k : Nat} (hk : k < bs.length) : ∀ i, i ≤ bs.length → baseTo (rootL bs) (bs.map patL) k i = ((bs.take i).map fun a => if headL a < headL bs[k] then a.length else 0).sum := by
  intro i
  induction i with
  | zero => intro _; rfl
  | succ i ih =>
    intro hi
    have hi' : i < bs.length := by omega
    rw [List.take_succ_eq_append_getElem hi', List.map_append, List.sum_append, ← ih (by omega)]
    have e : lAt (bs.map patL) i = patL bs[i] := by
      unfold lAt
      rw [List.getElem?_map, List.getElem?_eq_getElem hi']; rfl
    show baseTo (rootL bs) (bs.map patL) k i + (if rAt (rootL bs) i < rAt (rootL bs) k then (lAt (bs.map patL) i).length else 0) = _
    rw [rAt_root hi', rAt_root hk, e, patL_length]
    congr 1
    simp only [root_lt hi' hk, List.map_cons, List.map_nil, List.sum_cons, List.sum_nil, Nat.add_zero]
theorem infl_many {p : List Int} {bs : List (List Int)} (h : Blks p bs) (hp : permB p = true) : ∀ k, k ≤ bs.length → inflTo (rootL bs) (bs.map patL) k = (bs.take k).flatten := by
  intro k
  induction k with
  | zero => intro _; rfl
  | succ k ih =>
    intro hk
    have hk' : k < bs.length := by omega
    have e : lAt (bs.map patL) k = patL bs[k] := by
      unfold lAt
      rw [List.getElem?_map, List.getElem?_eq_getElem hk']; rfl
    rw [List.take_succ_eq_append_getElem hk', List.flatten_append, ← ih (by omega)]
    show inflTo (rootL bs) (bs.map patL) k ++ (lAt (bs.map patL) k).map (fun x => (baseTo (rootL bs) (bs.map patL) k (rootL bs).length : Int) + x) = _
    rw [e, rootL_length, base_blocks hk' _ (Nat.le_refl _), List.take_length]
    have := infl_block h hp (List.getElem_mem hk')
    unfold baseL at this
    rw [this]
    simp
theorem split_infl {p r : List Int} {L : List (List Int)} (hp : permB p = true) (h : SplitIs p r L) : inflTo r L r.length = p := by
  cases h with
  | one h hr hL => subst hr hL; rw [one_perm hp h]; rfl
  | two b q s h hq hs hq0 hs0 hr hL =>
    subst hr hL
    rw [show (rootB b).length = 2 by cases b <;> rfl, infl_two, h]
  | many bs h2 h hg hlt h1 h1' hr hL =>
    subst hr hL
    rw [rootL_length, infl_many h hp _ (Nat.le_refl _), List.take_length, h.flat]
theorem split_simple {p r : List Int} {L : List (List Int)} (hp : permB p = true) (h : SplitIs p r L) : p.length = 1 ∨ simpB r = true := by
  cases h with
  | one h hr hL => exact .inl h
  | two b q s h hq hs hq0 hs0 hr hL => subst hr; right; cases b <;> decide
  | many bs h2 h hg hlt h1 h1' hr hL => subst hr; right; exact root_simple h hp hg
theorem iv_shift {q : List Int} (hq : permB q = true) (x : Int) : IvAt (q.map (· + x)) (x + 1) := fun v => by
  rw [List.mem_map, List.length_map]
  constructor
  · rintro ⟨y, hy, rfl⟩
    have := (perm_iv hq y).1 hy
    omega
  · intro hv
    exact ⟨v - x, (perm_iv hq _).2 (by omega), by omega⟩
theorem iv_true {b : List Int} {m : Int} (hn : b.Nodup) (h : b ≠ []) (hiv : IvAt b m) : ivB b = true := (iv_iff hn h).2 ⟨m, hiv⟩
theorem split_self {p r : List Int} {L : List (List Int)} (hp : permB p = true) (h : SplitIs p r L) (hs : simpB p = true) (h4 : 4 ≤ p.length) : r = p := by
  have hn := (permB_true hp).2.2
  cases h with
  | one h hr hL => omega
  | many bs h2 h hg hlt h1 h1' hr hL => subst hr; exact simple_root h hp hs hlt
  | two b q s h hq hs' hq0 hs0 hr hL =>
    exfalso
    have hl := join1_len b q s
    rw [← h] at hl
    have h1 := len_pos hq0
    have h2 := len_pos hs0
    rw [simp_iff] at hs
    obtain ⟨x, y, e, hx, hy⟩ : ∃ x y : Int, p = q.map (· + x) ++ s.map (· + y) ∧ IvAt (q.map (· + x)) (x + 1) ∧ IvAt (s.map (· + y)) (y + 1) := by
      cases b with
      | true => exact ⟨s.length, 0, by rw [h]; simp [join1], iv_shift hq _, iv_shift hs' _⟩
      | false => exact ⟨0, q.length, by rw [h]; simp [join1], iv_shift hq _, iv_shift hs' _⟩
    rw [e] at hn
    have hn2 := List.nodup_append.1 hn
    rcases Nat.lt_or_ge 1 q.length with h5 | h5
    · have := hs 0 (q.length - 1) (by omega) (by omega) (by omega)
      rw [List.drop_zero, show q.length - 1 - 0 + 1 = q.length by omega, e, List.take_left' (by simp), iv_true hn2.1 (by simpa using hq0) hx] at this
      cases this
    · have := hs 1 (p.length - 1) (by omega) (by omega) (by omega)
      rw [show p.length - 1 - 1 + 1 = s.length by omega, e, List.drop_left' (by simp; omega), List.take_of_length_le (by simp), iv_true hn2.2.1 (by simpa using hs0) hy] at this
      cases this
end Go.Proofs.YtldknpjeegdbmaaGreat

/- The reference's joins: l4Join, l4Fit, JoinParts. Written by gen/gents1.py. -/
namespace Go.Proofs.YtldknpjeegdbmaaGreat
set_option maxRecDepth 100000
open Go Go.RowKit

theorem join1_two (b : Bool) (p q : List Int) : join1 b p q = p.map (· + (if b = true then (q.length : Int) else 0)) ++ q.map (· + (if b = true then 0 else (p.length : Int))) := by
  cases b <;> simp [join1]
theorem read_lt {w : World} {B : Nat} {A : Option Addr} {xs : List Int} (h : Rd (Value.int .i64) w B A xs) (h0 : 0 < xs.length) : ∃ b off, A = some ⟨b, off, none⟩ ∧ b < B ∧ ∀ j (hj : j < xs.length), w.cell? ⟨b, off + j, none⟩ = some (.int .i64 xs[j]) := h h0
set_option maxHeartbeats 4000000 in
theorem l4Join_any (A B : Option Addr) (c d : Nat) (p q : List Int) (b : Bool) (w : World) (ha : In w A c p) (hb : In w B d q) (hp8 : p.length ≤ 8) (hq8 : q.length ≤ 8) (hpv : ∀ x ∈ p, 0 ≤ x ∧ x ≤ 1000) (hqv : ∀ x ∈ q, 0 ≤ x ∧ x ≤ 1000) :
    Calls Tryz.prog 93 #[.slice A p.length c, .slice B q.length d, .bool b] w (Ret (Value.int .i64) 3 w (join1 b p q)) := by
  obtain ⟨i0, hi, hz0, hz1, hz2⟩ := info_parts infoI
  have hJ := join1_two b p q
  obtain ⟨t1, ht1⟩ : ∃ t : Int, (if b = true then (1 : Int) else 0) = t := ⟨_, rfl⟩
  obtain ⟨t2, ht2⟩ : ∃ t : Int, (if (!b) = true then (1 : Int) else 0) = t := ⟨_, rfl⟩
  obtain ⟨m1, hm1⟩ : ∃ t : Int, (if b = true then (q.length : Int) else 0) = t := ⟨_, rfl⟩
  obtain ⟨m2, hm2⟩ : ∃ t : Int, (if b = true then 0 else (p.length : Int)) = t := ⟨_, rfl⟩
  rw [hm1, hm2] at hJ
  have e1 : IntKind.i64.wrap (t1 * (q.length : Int)) = m1 := by rw [← ht1, ← hm1]; cases b <;> simp <;> exact IntWalk.i64_in _ (by omega)
  have e2 : IntKind.i64.wrap (t2 * (p.length : Int)) = m2 := by rw [← ht2, ← hm2]; cases b <;> simp <;> exact IntWalk.i64_in _ (by omega)
  have b1 : 0 ≤ m1 ∧ m1 ≤ 8 := by rw [← hm1]; split <;> omega
  have b2 : 0 ≤ m2 ∧ m2 ≤ 8 := by rw [← hm2]; split <;> omega
  have HJ := Lib.hid hJ
  have HT1 := Lib.hid ht1
  have HT2 := Lib.hid ht2
  clear hJ ht1 ht2 hm1 hm2
  have hown0 : (w.alloc (.cells #[] 3)).ownsRow w.heap.size 3 1 (.slice (some ⟨w.heap.size, 0, none⟩) 0 0) 0 (((p.take 0).map (· + m1)).map (Value.int .i64)) := World.ownsRow_lit w #[] 0 (Nat.le_refl _) (by unfold maxLen; omega) rfl
  have hb0 := (Below.refl w.heap.size w).alloc (Nat.le_refl _) (.cells #[] 3)
  go_enter Tryz.func93, Tryz.ntmps93
  go_wp2_with fail
  go_loopw [7, 8] (fun v i wr => ∃ (j : Nat) (A3 : Option Addr) (c3 : Nat), j ≤ p.length ∧ i = .int .i64 j ∧ v = .slice A3 j c3 ∧ wr.ownsRow w.heap.size 3 1 (.slice A3 j c3) j (((p.take j).map (· + m1)).map (Value.int .i64)) ∧ Below w.heap.size w wr) (fun _ i _ => p.length - (intOf i).toNat)
  case atStart => exact ⟨0, _, _, Nat.zero_le _, rfl, rfl, hown0, hb0⟩
  case round =>
    clear hown0 hb0
    obtain ⟨j, A3, c3, hj, rfl, rfl, hown, hbw⟩ := hrel
    have hsz := hbw.size
    rcases Nat.lt_or_ge j p.length with hlt | hge
    · obtain ⟨bl, ol, rfl, hbl, hc⟩ := ha.rd (by omega)
      have g1 : wr.cell? ⟨bl, ol + j, none⟩ = some (.int .i64 p[j]) := (hbw.cell hbl).trans (hc j hlt)
      have HT := Lib.hid (show (p.take (j + 1)).map (· + m1) = (p.take j).map (· + m1) ++ [p[j] + m1] by rw [List.take_succ_eq_append_getElem hlt, List.map_append]; rfl)
      have hx8 := hpv p[j] (List.getElem_mem hlt)
      obtain ⟨x, hx⟩ : ∃ x : Int, x = p[j] := ⟨_, rfl⟩
      rw [← hx] at HT g1 hx8
      have g1d : wr.drew.cell? ⟨bl, ol + j, none⟩ = some (.int .i64 x) := g1
      have e3 : IntKind.i64.wrap (x + m1) = x + m1 := IntWalk.i64_in _ (by omega)
      have HJ1 := Lib.hid (Nat.succ_le_of_lt hlt)
      clear hx hc
      go_wp2_with fail
      go_region_held3 (fun v => v.cell? ⟨bl, ol + j, none⟩ = some (.int .i64 x)) (first | exact g1d | exact (World.cell?_alloc_lt wr _ _ (by show bl < wr.heap.size; omega)).trans g1 | exact g19) ((first | (go_at_call 52; (with_reducible refine (l1Bit_b b t1 _ HT1.out).mono ?_); rintro e w' ⟨rfl, rfl⟩) | (refine step_append_lies _ (by rfl) _ _ _ (by rfl) w.heap.size 3 i0 (.int .i64 0) 1 8 Tryz.underlying24 hi hz0 hz1 hz2 rfl (by decide) (Value.slice A3 j c3) (j) _ (by rfl) ((World.ownsRow.alloc hown _).drew) ⟨wr.heap.size, 0, none⟩ 1 1 [.int .i64 (x + m1)] (by rfl) (by rfl) (cell_one_new _ _ _) (by intro u hu; simp at hu; subst hu; rfl) (by omega) (by unfold maxLen; omega) (by omega) (by simp; omega) (wr.heap.size + 1) (by simp) ?_; intro gg cap w9 hown9 hgrow9 hat hlt9; have g19 : w9.cell? ⟨bl, ol + j, none⟩ = some (.int .i64 x) := (grown_drewW hgrow9).cell ((World.cell?_alloc_lt wr _ _ (by show bl < wr.heap.size; omega)).trans g1) (by intro he; have := (hown.lt _ he.symm).1; simp at this; omega)) | fail))
      have hb4 := (hbw.alloc hsz _).grown (grown_drewW hgrow9) (by simp; omega) (fun g hg => (hown.lt g hg).1)
      have K := Lib.hid (And.intro hown9 hb4)
      clear hown9 hgrow9 hb4 hat hlt9 g19
      go_wp2_with fail
      go_roundw
      case rel => exact ⟨j + 1, _, cap, HJ1.out, by go_num, rfl, by rw [HT.out, List.map_append]; exact K.out.1, K.out.2⟩
      case measure => simp [intOf]; have := HJ1.out; omega
    · obtain rfl : j = p.length := by omega
      rw [List.take_length] at hown
      obtain ⟨N, hN⟩ : ∃ N, N = p.length + 0 := ⟨_, rfl⟩
      go_wp2_with fail
      go_loopw [7, 9] (fun v i wr => ∃ (j : Nat) (A3 : Option Addr) (c3 : Nat), j ≤ q.length ∧ i = .int .i64 j ∧ v = .slice A3 (p.length + j) c3 ∧ wr.ownsRow w.heap.size 3 1 (.slice A3 (p.length + j) c3) (p.length + j) ((p.map (· + m1) ++ (q.take j).map (· + m2)).map (Value.int .i64)) ∧ Below w.heap.size w wr) (fun _ i _ => q.length - (intOf i).toNat)
      case atStart => exact ⟨0, _, _, Nat.zero_le _, rfl, rfl, by simpa using hown, hbw⟩
      case round =>
        clear hown hbw hsz
        obtain ⟨j, A3, c3, hj, rfl, rfl, hown, hbw⟩ := hrel
        have hsz := hbw.size
        rcases Nat.lt_or_ge j q.length with hlt | hge
        · obtain ⟨bl, ol, rfl, hbl, hc⟩ := hb.rd (by omega)
          have g1 : wr.cell? ⟨bl, ol + j, none⟩ = some (.int .i64 q[j]) := (hbw.cell hbl).trans (hc j hlt)
          have HT := Lib.hid (show p.map (· + m1) ++ (q.take (j + 1)).map (· + m2) = (p.map (· + m1) ++ (q.take j).map (· + m2)) ++ [q[j] + m2] by rw [List.take_succ_eq_append_getElem hlt, List.map_append, List.append_assoc]; rfl)
          have hx8 := hqv q[j] (List.getElem_mem hlt)
          obtain ⟨x, hx⟩ : ∃ x : Int, x = q[j] := ⟨_, rfl⟩
          rw [← hx] at HT g1 hx8
          have g1d : wr.drew.cell? ⟨bl, ol + j, none⟩ = some (.int .i64 x) := g1
          have e3 : IntKind.i64.wrap (x + m2) = x + m2 := IntWalk.i64_in _ (by omega)
          have HJ1 := Lib.hid (Nat.succ_le_of_lt hlt)
          clear hx hc
          go_wp2_with fail
          go_region_held3 (fun v => v.cell? ⟨bl, ol + j, none⟩ = some (.int .i64 x)) (first | exact g1d | exact (World.cell?_alloc_lt wr _ _ (by show bl < wr.heap.size; omega)).trans g1 | exact g19) ((first | (go_at_call 52; (with_reducible refine (l1Bit_b (!b) t2 _ HT2.out).mono ?_); rintro e w' ⟨rfl, rfl⟩) | (refine step_append_lies _ (by rfl) _ _ _ (by rfl) w.heap.size 3 i0 (.int .i64 0) 1 8 Tryz.underlying24 hi hz0 hz1 hz2 rfl (by decide) (Value.slice A3 (p.length + j) c3) ((p.length + j)) _ (by rfl) ((World.ownsRow.alloc hown _).drew) ⟨wr.heap.size, 0, none⟩ 1 1 [.int .i64 (x + m2)] (by rfl) (by rfl) (cell_one_new _ _ _) (by intro u hu; simp at hu; subst hu; rfl) (by omega) (by unfold maxLen; omega) (by omega) (by simp; omega) (wr.heap.size + 1) (by simp) ?_; intro gg cap w9 hown9 hgrow9 hat hlt9; have g19 : w9.cell? ⟨bl, ol + j, none⟩ = some (.int .i64 x) := (grown_drewW hgrow9).cell ((World.cell?_alloc_lt wr _ _ (by show bl < wr.heap.size; omega)).trans g1) (by intro he; have := (hown.lt _ he.symm).1; simp at this; omega)) | fail))
          have hb4 := (hbw.alloc hsz _).grown (grown_drewW hgrow9) (by simp; omega) (fun g hg => (hown.lt g hg).1)
          have K := Lib.hid (And.intro hown9 hb4)
          clear hown9 hgrow9 hb4 hat hlt9 g19
          go_wp2_with fail
          go_roundw
          case rel => exact ⟨j + 1, _, cap, HJ1.out, by go_num, rfl, by rw [HT.out, List.map_append]; exact K.out.1, K.out.2⟩
          case measure => simp [intOf]; have := HJ1.out; omega
        · obtain rfl : j = q.length := by omega
          rw [List.take_length, ← HJ.out] at hown
          have HL := Lib.hid (join1_len b p q)
          go_wp2_with fail
          go_ret
          exact ⟨A3, c3, by rw [HL.out]; rfl, by rw [HL.out]; exact (own_caps hown).1, (own_caps hown).2, by rw [HL.out]; exact hown, hbw⟩
end Go.Proofs.YtldknpjeegdbmaaGreat

/- l4Fit, JoinParts; the parts of a sum as rows, program and reference. Written by gen/gents2.py. -/
namespace Go.Proofs.YtldknpjeegdbmaaGreat
set_option maxRecDepth 100000
open Go Go.RowKit

def fitB (p q : List Int) : Bool := permB p && permB q && decide (p.length + q.length ≤ 8)
def jpB (b : Bool) (L : List (List Int)) : Bool := (List.range L.length).all fun k => fitB (joinL b (L.take k)) (lAt L k)
def jpG (b : Bool) (L : List (List Int)) : List Int := if jpB b L = true then joinL b L else []
theorem perm_join1 {b : Bool} {a q : List Int} (h : fitB a q = true) : permB (join1 b a q) = true := by
  unfold fitB at h
  simp only [Bool.and_eq_true, decide_eq_true_eq] at h
  obtain ⟨⟨ha, hq⟩, h8⟩ := h
  obtain ⟨_, ar, an⟩ := permB_true ha
  obtain ⟨_, qr, qn⟩ := permB_true hq
  have hl := join1_len b a q
  simp only [permB, decide_eq_true_eq]
  rw [hl]
  have inj : ∀ (l : List Int) (x : Int), l.Nodup → (l.map (· + x)).Nodup := fun l x h => by
    rw [List.nodup_iff_pairwise_ne, List.pairwise_map]
    exact (List.nodup_iff_pairwise_ne.1 h).imp fun hne e => hne (by omega)
  refine ⟨h8, fun v hv => ?_, ?_⟩
  · unfold join1 at hv
    split at hv
    all_goals
      rcases List.mem_append.1 hv with hv | hv
      all_goals first
        | (obtain ⟨y, hy, rfl⟩ := List.mem_map.1 hv
           first | (have := ar y hy; push_cast; omega) | (have := qr y hy; push_cast; omega))
        | (first | (have := ar v hv; push_cast; omega) | (have := qr v hv; push_cast; omega))
  · unfold join1
    split
    · rw [List.nodup_append]
      refine ⟨inj _ _ an, qn, fun x hx y hy e => ?_⟩
      obtain ⟨z, hz, rfl⟩ := List.mem_map.1 hx
      have := ar z hz; have := qr y hy; omega
    · rw [List.nodup_append]
      refine ⟨an, inj _ _ qn, fun x hx y hy e => ?_⟩
      obtain ⟨z, hz, rfl⟩ := List.mem_map.1 hy
      have := ar x hx; have := qr z hz; omega
theorem lAt_eq {L : List (List Int)} {k : Nat} (h : k < L.length) : lAt L k = L[k] := by unfold lAt; rw [List.getElem?_eq_getElem h]; rfl
theorem joinL_take {b : Bool} {L : List (List Int)} {k : Nat} (h : k < L.length) : joinL b (L.take (k + 1)) = join1 b (joinL b (L.take k)) (lAt L k) := by
  rw [List.take_succ_eq_append_getElem h, joinL_snoc, lAt_eq h]
theorem jp_bad {b : Bool} {L : List (List Int)} {k : Nat} (h : k < L.length) (hf : fitB (joinL b (L.take k)) (lAt L k) = false) : jpB b L = false := by
  unfold jpB
  rw [List.all_eq_false]
  exact ⟨k, List.mem_range.2 h, by simpa using hf⟩
theorem permB_nil : permB [] = true := by decide
theorem jp_perm {b : Bool} {L : List (List Int)} (k : Nat) (hk : k ≤ L.length) (h : ∀ j, j < k → fitB (joinL b (L.take j)) (lAt L j) = true) : permB (joinL b (L.take k)) = true := by
  induction k with
  | zero => exact permB_nil
  | succ k ih =>
    rw [joinL_take (by omega)]
    exact perm_join1 (h k (by omega))
theorem jpG_len (b : Bool) (L : List (List Int)) : (jpG b L).length ≤ 8 := by
  unfold jpG
  split
  · rename_i h
    unfold jpB at h
    rw [List.all_eq_true] at h
    have := jp_perm (b := b) (L := L) L.length (Nat.le_refl _) fun j hj => h j (List.mem_range.2 hj)
    rw [List.take_length] at this
    exact (permB_true this).1
  · simp
theorem l4Fit_b (A B : Option Addr) (c d : Nat) (p q : List Int) (b : Bool) (w : World) (ha : In w A c p) (hb : In w B d q) (hf : fitB p q = b) :
    Calls Tryz.prog 92 #[.slice A p.length c, .slice B q.length d] w (Rq w (.bool b)) := by
  unfold fitB at hf
  have hlp := ha.len
  have hlq := hb.len
  rcases hp : permB p with _ | _
  · have HP := Lib.hid hp
    have HB := Lib.hid (show b = false by rw [← hf, hp]; rfl)
    clear hp hf
    go_enter Tryz.func92, Tryz.ntmps92
    go_wp2_with fail
    (with_reducible refine (isPerm_sb A c p w false ha HP.out).mono ?_)
    rintro e w1 ⟨rfl, hd⟩
    go_wp2_with fail
    go_ret
    exact ⟨by rw [HB.out]; rfl, hd⟩
  · rcases hq : permB q with _ | _
    · have HP := Lib.hid hp
      have HQ := Lib.hid hq
      have HB := Lib.hid (show b = false by rw [← hf, hp, hq]; rfl)
      clear hp hq hf
      go_enter Tryz.func92, Tryz.ntmps92
      go_wp2_with fail
      (with_reducible refine (isPerm_sb A c p w true ha HP.out).mono ?_)
      rintro e w1 ⟨rfl, hd⟩
      go_wp2_with fail
      (with_reducible refine (isPerm_sb B d q w1 false (hb.dr hd) HQ.out).mono ?_)
      rintro e w2 ⟨rfl, hd2⟩
      go_wp2_with fail
      go_ret
      exact ⟨by rw [HB.out]; rfl, hd.trans hd2⟩
    · have HP := Lib.hid hp
      have HQ := Lib.hid hq
      have hp8 := (permB_true hp).1
      have hq8 := (permB_true hq).1
      have e1 : IntKind.i64.wrap ((p.length : Int) + (q.length : Int)) = (p.length : Int) + (q.length : Int) := IntWalk.i64_in _ (by omega)
      rw [hp, hq] at hf
      simp only [Bool.true_and] at hf
      have d1 : decide ((p.length : Int) + (q.length : Int) ≤ 8) = b := by rw [← hf, decide_eq_decide]; omega
      clear hp hq hf
      go_enter Tryz.func92, Tryz.ntmps92
      go_wp2_with fail
      (with_reducible refine (isPerm_sb A c p w true ha HP.out).mono ?_)
      rintro e w1 ⟨rfl, hd⟩
      go_wp2_with fail
      (with_reducible refine (isPerm_sb B d q w1 true (hb.dr hd) HQ.out).mono ?_)
      rintro e w2 ⟨rfl, hd2⟩
      go_wp2_with fail
      go_ret
      exact ⟨by first | rfl | (simp only [d1]), hd.trans hd2⟩
theorem fit_parts {p q : List Int} (h : fitB p q = true) : permB p = true ∧ permB q = true ∧ p.length + q.length ≤ 8 := by
  unfold fitB at h
  simp only [Bool.and_eq_true, decide_eq_true_eq] at h
  exact ⟨h.1.1, h.1.2, h.2⟩
theorem perm_small {p : List Int} (h : permB p = true) : ∀ x ∈ p, 0 ≤ x ∧ x ≤ 1000 := fun x hx => by
  obtain ⟨h8, hr, _⟩ := permB_true h
  have := hr x hx
  omega
set_option maxHeartbeats 4000000 in
theorem joinParts_spec (A : Option Addr) (c : Nat) (rs : List Row) (b : Bool) (w : World) (h : InL w A c rs) :
    Calls Tryz.prog 69 #[.slice A rs.length c, .bool b] w (Ret2 (Value.int .i64) 3 w (jpG b (rs.map Row.xs)) (jpB b (rs.map Row.xs))) := by
  have hlen := h.len
  have hown0 : (w.alloc (.cells #[] 3)).ownsRow w.heap.size 3 1 (.slice (some ⟨w.heap.size, 0, none⟩) 0 0) 0 ((joinL b ((rs.map Row.xs).take 0)).map (Value.int .i64)) := World.ownsRow_lit w #[] 0 (Nat.le_refl _) (by unfold maxLen; omega) rfl
  have hb0 := (Below.refl w.heap.size w).alloc (Nat.le_refl _) (.cells #[] 3)
  go_enter Tryz.func69, Tryz.ntmps69
  go_wp2_with fail
  go_loopw [6, 7] (fun v i wr => ∃ (k m : Nat) (A3 : Option Addr) (c3 : Nat), k ≤ rs.length ∧ i = .int .i64 k ∧ v = .slice A3 m c3 ∧ Hid (m = (joinL b ((rs.map Row.xs).take k)).length) ∧ wr.ownsRow w.heap.size 3 1 (.slice A3 m c3) m ((joinL b ((rs.map Row.xs).take k)).map (Value.int .i64)) ∧ Hid (∀ j, j < k → fitB (joinL b ((rs.map Row.xs).take j)) (lAt (rs.map Row.xs) j) = true) ∧ Below w.heap.size w wr) (fun _ i _ => rs.length - (intOf i).toNat)
  case atStart => exact ⟨0, 0, _, _, Nat.zero_le _, rfl, rfl, Lib.hid rfl, hown0, Lib.hid (fun j hj => by omega), hb0⟩
  case round =>
    clear hown0 hb0
    obtain ⟨k, m, A3, c3, hk, rfl, rfl, HM, hown, HF, hbw⟩ := hrel
    have hsz := hbw.size
    have hpk := jp_perm (b := b) (L := rs.map Row.xs) k (by rw [List.length_map]; exact hk) HF.out
    rcases Nat.lt_or_ge k rs.length with hlt | hge
    · have il2 := h.next hbw
      obtain ⟨bo, oo, rfl, _, hc⟩ := il2.read.at (by omega)
      have cc := hc k hlt
      have hin := il2.row (List.getElem_mem hlt)
      have hk2 : k < (rs.map Row.xs).length := by rw [List.length_map]; exact hlt
      have HQ := Lib.hid (show lAt (rs.map Row.xs) k = rs[k].xs by rw [lAt_eq hk2, List.getElem_map])
      have HJ := Lib.hid (joinL_take (b := b) hk2)
      obtain ⟨R1, hR1⟩ : ∃ R1 : Row, R1 = rs[k] := ⟨_, rfl⟩
      rw [← hR1] at cc hin HQ
      rw [HQ.out] at HJ
      clear hc hR1 il2
      obtain ⟨rA, rc, q⟩ := R1
      obtain ⟨o, ho⟩ : ∃ o, o = joinL b ((rs.map Row.xs).take k) := ⟨_, rfl⟩
      rw [← ho] at HM hown HJ hpk
      have HO := Lib.hid ho
      obtain ⟨rfl⟩ : m = o.length := HM.out
      have hio : In wr A3 c3 o := In.own hown (by have := (permB_true hpk).1; omega)
      obtain ⟨fb, hfb⟩ : ∃ f, fitB o q = f := ⟨_, rfl⟩
      have HFB := Lib.hid hfb
      have HC := Lib.hid (l4Fit_b A3 rA c3 rc o q fb wr hio hin hfb)
      clear hfb ho
      go_wp2_with fail
      (with_reducible refine HC.out.mono ?_)
      rintro e w1 ⟨rfl, hd⟩
      have hb1 := below_dr (Below.refl wr.heap.size wr) hd
      have hbw1 := below_dr hbw hd
      have hin1 := hin.next hb1
      have hio1 := hio.next hb1
      have cc1 : w1.cell? _ = _ := (hd.cell _).trans cc
      clear HC hio hin hown hd hb1 hbw cc
      rcases fb with _ | _
      · have HG := Lib.hid (show jpB b (rs.map Row.xs) = false from jp_bad hk2 (by rw [← HO.out, HQ.out]; exact HFB.out))
        have HG2 := Lib.hid (show jpG b (rs.map Row.xs) = [] by unfold jpG; rw [HG.out]; rfl)
        go_wp2_with fail
        go_ret2
        rw [HG.out, HG2.out]
        exact ⟨_, 0, rfl, Nat.le_refl _, Nat.zero_le _, World.ownsRow_lit _ #[] 0 hbw1.size (by unfold maxLen; omega) rfl, hbw1.alloc hbw1.size _⟩
      · have hft := fit_parts HFB.out
        have HD := Lib.hid (l4Join_any A3 rA c3 rc o q b w1 hio1 hin1 (by omega) (by omega) (perm_small hft.1) (perm_small hft.2.1))
        have HF2 := Lib.hid (show ∀ j, j < k + 1 → fitB (joinL b ((rs.map Row.xs).take j)) (lAt (rs.map Row.xs) j) = true from fun j hj => by
          rcases Nat.lt_or_ge j k with h | h
          · exact HF.out j h
          · obtain rfl : j = k := by omega
            rw [← HO.out, HQ.out]; exact HFB.out)
        clear hft
        go_wp2_with fail
        (with_reducible refine HD.out.mono ?_)
        rintro e w2 ⟨A5, c5, rfl, _, _, ho2, hb2⟩
        have K := Lib.hid (And.intro (own_mono ho2 hbw1.size) (hbw1.trans (hb2.mono hbw1.size)))
        clear ho2 hb2 hbw1 HD
        go_wp2_with fail
        go_roundw
        case rel => exact ⟨k + 1, _, A5, c5, by omega, by go_num, rfl, Lib.hid (by rw [HJ.out]), by rw [HJ.out]; exact K.out.1, HF2, K.out.2⟩
        case measure => simp [intOf]; omega
    · obtain rfl : k = rs.length := by omega
      have HG := Lib.hid (show jpB b (rs.map Row.xs) = true from List.all_eq_true.2 fun j hj => HF.out j (by have := List.mem_range.1 hj; rwa [List.length_map] at this))
      have ht : (rs.map Row.xs).take rs.length = rs.map Row.xs := List.take_of_length_le (by rw [List.length_map]; exact Nat.le_refl _)
      rw [ht] at HM hown
      have HG2 := Lib.hid (show jpG b (rs.map Row.xs) = joinL b (rs.map Row.xs) by unfold jpG; rw [HG.out]; rfl)
      obtain ⟨rfl⟩ : m = _ := HM.out
      go_wp2_with fail
      go_ret2
      rw [HG.out, HG2.out]
      exact ⟨A3, c3, rfl, (own_caps hown).1, (own_caps hown).2, hown, hbw⟩
def sumGL (p : List Int) : List (List Int) := if permB p = true then sumL p else []
theorem sumTo_succ (p : List Int) (k : Nat) : sumTo p (k + 1) = if pmax p (k + 1) = (k : Int) + 1 then sumTo p k ++ [partS p k] else sumTo p k := rfl
theorem cutN_succ (p : List Int) (k : Nat) : cutN p (k + 1) = if pmax p (k + 1) = (k : Int) + 1 then k + 1 else cutN p k := rfl
theorem sumTo_le (p : List Int) (k : Nat) : (sumTo p k).length ≤ k := by
  induction k with
  | zero => exact Nat.le_refl _
  | succ k ih =>
    rw [sumTo_succ]
    split
    · rw [List.length_append]; simp; omega
    · omega
set_option maxHeartbeats 4000000 in
theorem sumRows_impl (A : Option Addr) (c : Nat) (p : List Int) (w : World) (h : In w A c p) (hp : permB p = true) :
    Calls Tryz.prog 57 #[.slice A p.length c] w (RetL w (sumL p)) := by
  obtain ⟨j0, hj, hy0, hy1, hy2⟩ := info_parts infoL
  have hcap := h.cap
  obtain ⟨h8, hr, _⟩ := permB_true hp
  have hbd : ∀ v ∈ p, 1 ≤ v ∧ v ≤ 8 := fun v hv => by have := hr v hv; omega
  have HP := Lib.hid hp
  have hO0 := Own.lit (lo := w.heap.size) w (Nat.le_refl _)
  have hb0 := (Below.refl w.heap.size w).alloc (Nat.le_refl _) (.cells #[] 24)
  clear hp hr
  go_enter Tryz.func57, Tryz.ntmps57
  go_wp2_with fail
  go_loopw [3, 4, 5, 11] (fun v s t i wr => ∃ (k : Nat) (A1 : Option Addr) (c1 : Nat) (rs : List Row), k ≤ p.length ∧ i = .int .i64 k ∧ s = .int .i64 (cutN p k : Nat) ∧ t = .int .i64 (pmax p k) ∧ v = .slice A1 rs.length c1 ∧ Hid (rs.map Row.xs = sumTo p k) ∧ Own wr w.heap.size wr.heap.size rs [⟨A1, c1, rs.map Row.v⟩] ∧ Below w.heap.size w wr) (fun _ _ _ i _ => p.length - (intOf i).toNat)
  case atStart => exact ⟨0, _, _, [], Nat.zero_le _, rfl, rfl, rfl, rfl, Lib.hid rfl, hO0, hb0⟩
  case round =>
    clear hO0 hb0
    obtain ⟨k, A1, c1, rs, hk, rfl, rfl, rfl, rfl, HX, hO, hb⟩ := hrel
    have hsz := hb.size
    have hpm := pmax_bd hbd k
    have hpm2 := pmax_bd hbd (k + 1)
    have hst := cutN_le p k
    have hrl : rs.length ≤ 8 := by have h1 := congrArg List.length HX.out; have h2 := sumTo_le p k; rw [List.length_map] at h1; omega
    rcases Nat.lt_or_ge k p.length with hlt | hge
    · obtain ⟨b, off, rfl, hbb, hc⟩ := (h.next hb).rd (by omega)
      have cc := hc k hlt
      have hvk := hbd p[k] (List.getElem_mem hlt)
      have HM := Lib.hid (pmax_succ p k hlt)
      have HS := Lib.hid (sumTo_succ p k)
      have HCS := Lib.hid (cutN_succ p k)
      have HCUT := Lib.hid (((h.next hb).rd.take (k + 1)).cut (k := cutN p k) (c := c) (by simp; omega) (by simp; omega))
      have hsl := fun w => run_cut2 (P := Tryz.prog) (t := 24) Tryz.underlying24 sizeI (some ⟨b, off, none⟩) p.length c (cutN p k) (k + 1) (cutN p k : Int) ((k : Int) + 1) rfl (by omega) (by omega) (by omega) w
      clear hc
      have HLN := Lib.hid (show ((p.take (k + 1)).drop (cutN p k)).length = k + 1 - cutN p k by simp; omega)
      have HVV := Lib.hid (show ∀ v ∈ (p.take (k + 1)).drop (cutN p k), 1 ≤ v ∧ v ≤ 1048576 from fun v hv => by
        have := hbd v ((List.take_sublist _ _).subset ((List.drop_sublist _ _).subset hv))
        omega)
      by_cases heq : pmax p (k + 1) = (k : Int) + 1
      · have HE := Lib.hid (show sumTo p (k + 1) = sumTo p k ++ [partS p k] by rw [HS.out, if_pos heq])
        have HC1 := Lib.hid (show cutN p (k + 1) = k + 1 by rw [HCS.out, if_pos heq])
        have HEQ := Lib.hid heq
        by_cases hmx : pmax p k < p[k]
        · have HV := Lib.hid (show pmax p (k + 1) = p[k] by rw [HM.out]; omega)
          have dq : (p[k] == (k : Int) + 1) = true := by rw [← HV.out, heq]; simp
          clear heq
          go_wp2_with fail
          (with_reducible refine (raised_any _ _ (k + 1 - cutN p k) ((p.take (k + 1)).drop (cutN p k)) (-(cutN p k : Int)) wr HLN.out (by omega) HCUT.out HVV.out (by omega)).mono ?_)
          rintro e w2 ⟨A2, c2, rfl, _, _, own2, hb2⟩
          have own2 : w2.ownsRow wr.heap.size 3 1 (Row.v ⟨A2, c2, partS p k⟩) (partS p k).length ((partS p k).map (Value.int .i64)) := own2
          have hO6 := (hO.below hb2).add (r := ⟨A2, c2, partS p k⟩) own2 hb2.size hsz
          have hown2 := hO6.outN (n := rs.length) (by simp)
          have hbw := hb.trans (hb2.mono hsz)
          have hwz : w.heap.size ≤ w2.heap.size := hbw.size
          have hol := hO6.olim (n := rs.length) (by simp)
          clear own2 hO hb2
          have HLL : Hid ((((p.take (k + 1)).drop (cutN p k)).map (· + -(cutN p k : Int))).length = (partS p k).length) := Lib.hid rfl
          rw [HLL.out]
          generalize hLv : (partS p k).length = Lv
          have HLv := Lib.hid hLv
          clear hLv
          go_wp2_with (at_builtin; refine wpList_append_own _ rfl _ _ 26 rfl (w.heap.size) 24 j0 (.slice none 0 0) 1 24 Tryz.underlying26 hj hy0 hy1 hy2 rfl (by decide) _ _ _ rfl (World.ownsRow.alloc hown2 _) ⟨w2.heap.size, 0, none⟩ 1 1 [Value.slice A2 Lv c2] rfl rfl (cell_one_at _ _ (by simp)) (by intro u hu; simp at hu; subst hu; rfl) (by unfold maxLen; omega) (by omega) (by simp; omega) ?_; intro v9 w9 hown9 hgrow9 _)
          obtain ⟨A5, c5, rfl, hO7, hg3⟩ := hO6.grow (o := Obj.cells #[Value.slice A2 Lv c2] 24) (u := Row.v ⟨A2, c2, partS p k⟩) (Nat.le_refl _) (by simp) (by rw [show Row.v ⟨A2, c2, partS p k⟩ = Value.slice A2 Lv c2 by rw [← HLv.out]; rfl]; exact hown9) hgrow9
          have hb3 := hbw.grown hg3 hwz fun g hg => (hol g hg).1
          have K := Lib.hid (And.intro hO7 hb3)
          clear hown9 hgrow9 hg3 hO6 hown2 hbw hol hO7 hb3
          go_wp2_with fail
          go_roundw
          case rel => exact ⟨k + 1, A5, c5, rs ++ [⟨A2, c2, partS p k⟩], by omega, by go_num, by rw [HC1.out]; go_num, by rw [HM.out], by rw [List.length_append]; rfl, Lib.hid (by rw [List.map_append, HX.out, HE.out]; rfl), by rw [List.map_append]; exact K.out.1, K.out.2⟩
          case measure => simp [intOf]; omega
        · have HV := Lib.hid (show pmax p (k + 1) = pmax p k by rw [HM.out]; omega)
          have dq : (pmax p k == (k : Int) + 1) = true := by rw [← HV.out, heq]; simp
          clear heq
          go_wp2_with fail
          (with_reducible refine (raised_any _ _ (k + 1 - cutN p k) ((p.take (k + 1)).drop (cutN p k)) (-(cutN p k : Int)) wr HLN.out (by omega) HCUT.out HVV.out (by omega)).mono ?_)
          rintro e w2 ⟨A2, c2, rfl, _, _, own2, hb2⟩
          have own2 : w2.ownsRow wr.heap.size 3 1 (Row.v ⟨A2, c2, partS p k⟩) (partS p k).length ((partS p k).map (Value.int .i64)) := own2
          have hO6 := (hO.below hb2).add (r := ⟨A2, c2, partS p k⟩) own2 hb2.size hsz
          have hown2 := hO6.outN (n := rs.length) (by simp)
          have hbw := hb.trans (hb2.mono hsz)
          have hwz : w.heap.size ≤ w2.heap.size := hbw.size
          have hol := hO6.olim (n := rs.length) (by simp)
          clear own2 hO hb2
          have HLL : Hid ((((p.take (k + 1)).drop (cutN p k)).map (· + -(cutN p k : Int))).length = (partS p k).length) := Lib.hid rfl
          rw [HLL.out]
          generalize hLv : (partS p k).length = Lv
          have HLv := Lib.hid hLv
          clear hLv
          go_wp2_with (at_builtin; refine wpList_append_own _ rfl _ _ 26 rfl (w.heap.size) 24 j0 (.slice none 0 0) 1 24 Tryz.underlying26 hj hy0 hy1 hy2 rfl (by decide) _ _ _ rfl (World.ownsRow.alloc hown2 _) ⟨w2.heap.size, 0, none⟩ 1 1 [Value.slice A2 Lv c2] rfl rfl (cell_one_at _ _ (by simp)) (by intro u hu; simp at hu; subst hu; rfl) (by unfold maxLen; omega) (by omega) (by simp; omega) ?_; intro v9 w9 hown9 hgrow9 _)
          obtain ⟨A5, c5, rfl, hO7, hg3⟩ := hO6.grow (o := Obj.cells #[Value.slice A2 Lv c2] 24) (u := Row.v ⟨A2, c2, partS p k⟩) (Nat.le_refl _) (by simp) (by rw [show Row.v ⟨A2, c2, partS p k⟩ = Value.slice A2 Lv c2 by rw [← HLv.out]; rfl]; exact hown9) hgrow9
          have hb3 := hbw.grown hg3 hwz fun g hg => (hol g hg).1
          have K := Lib.hid (And.intro hO7 hb3)
          clear hown9 hgrow9 hg3 hO6 hown2 hbw hol hO7 hb3
          go_wp2_with fail
          go_roundw
          case rel => exact ⟨k + 1, A5, c5, rs ++ [⟨A2, c2, partS p k⟩], by omega, by go_num, by rw [HC1.out]; go_num, by rw [HM.out], by rw [List.length_append]; rfl, Lib.hid (by rw [List.map_append, HX.out, HE.out]; rfl), by rw [List.map_append]; exact K.out.1, K.out.2⟩
          case measure => simp [intOf]; omega
      · have HE := Lib.hid (show sumTo p (k + 1) = sumTo p k by rw [HS.out, if_neg heq])
        have HC1 := Lib.hid (show cutN p (k + 1) = cutN p k by rw [HCS.out, if_neg heq])
        by_cases hmx : pmax p k < p[k]
        · have HV := Lib.hid (show pmax p (k + 1) = p[k] by rw [HM.out]; omega)
          have dq : (p[k] == (k : Int) + 1) = false := by rw [← HV.out]; simpa using heq
          clear heq
          go_wp2_with fail
          go_roundw
          case rel => exact ⟨k + 1, A1, c1, rs, by omega, by go_num, by rw [HC1.out], by rw [HM.out], rfl, Lib.hid (by rw [HX.out, HE.out]), hO, hb⟩
          case measure => simp [intOf]; omega
        · have HV := Lib.hid (show pmax p (k + 1) = pmax p k by rw [HM.out]; omega)
          have dq : (pmax p k == (k : Int) + 1) = false := by rw [← HV.out]; simpa using heq
          clear heq
          go_wp2_with fail
          go_roundw
          case rel => exact ⟨k + 1, A1, c1, rs, by omega, by go_num, by rw [HC1.out], by rw [HM.out], rfl, Lib.hid (by rw [HX.out, HE.out]), hO, hb⟩
          case measure => simp [intOf]; omega
    · obtain rfl : k = p.length := by omega
      go_wp2_with fail
      go_ret
      exact ⟨A1, c1, rs, rfl, HX.out, hO, hb⟩
set_option maxHeartbeats 4000000 in
theorem sumRows_spec (A : Option Addr) (c : Nat) (p : List Int) (w : World) (h : In w A c p) :
    Calls Tryz.prog 62 #[.slice A p.length c] w (RetL w (sumGL p)) := by
  obtain ⟨j0, hj, hy0, hy1, hy2⟩ := info_parts infoL
  have hcap := h.cap
  have hO00 := Own.lit (lo := w.heap.size) w (Nat.le_refl _)
  have hb00 := (Below.refl w.heap.size w).alloc (Nat.le_refl _) (.cells #[] 24)
  by_cases hp : permB p = true
  case neg =>
    have hpf : permB p = false := by simpa using hp
    have HP := Lib.hid hpf
    have HG := Lib.hid (show sumGL p = [] by unfold sumGL; rw [if_neg hp])
    clear hp hpf
    go_enter Tryz.func62, Tryz.ntmps62
    go_wp2_with fail
    (with_reducible refine (isPerm_sb A c p _ false (h.next hb00) HP.out).mono ?_)
    rintro e w1 ⟨rfl, hd1⟩
    have hb0 := below_dr hb00 hd1
    have hO0 := (hO00.dr hd1).wider (hi' := w1.heap.size) (Nat.le_refl _) (by rw [hd1.heap]; exact Nat.le_refl _)
    go_wp2_with fail
    go_ret
    rw [HG.out]
    exact ⟨_, _, [], rfl, rfl, hO0, hb0⟩
  obtain ⟨h8, hr, _⟩ := permB_true hp
  have hbd : ∀ v ∈ p, 1 ≤ v ∧ v ≤ 8 := fun v hv => by have := hr v hv; omega
  have HP := Lib.hid hp
  have HG := Lib.hid (show sumGL p = sumL p by unfold sumGL; rw [if_pos hp])
  clear hp hr
  go_enter Tryz.func62, Tryz.ntmps62
  go_wp2_with fail
  (with_reducible refine (isPerm_sb A c p _ true (h.next hb00) HP.out).mono ?_)
  rintro e w1 ⟨rfl, hd1⟩
  have hb0 := below_dr hb00 hd1
  have hO0 := (hO00.dr hd1).wider (hi' := w1.heap.size) (Nat.le_refl _) (by rw [hd1.heap]; exact Nat.le_refl _)
  clear hb00 hO00
  go_wp2_with fail
  go_loopw [3, 4, 5, 6] (fun v s t i wr => ∃ (k : Nat) (A1 : Option Addr) (c1 : Nat) (rs : List Row), k ≤ p.length ∧ i = .int .i64 k ∧ s = .int .i64 (cutN p k : Nat) ∧ t = .int .i64 (pmax p k) ∧ v = .slice A1 rs.length c1 ∧ Hid (rs.map Row.xs = sumTo p k) ∧ Own wr w.heap.size wr.heap.size rs [⟨A1, c1, rs.map Row.v⟩] ∧ Below w.heap.size w wr) (fun _ _ _ i _ => p.length - (intOf i).toNat)
  case atStart => exact ⟨0, _, _, [], Nat.zero_le _, rfl, rfl, rfl, rfl, Lib.hid rfl, hO0, hb0⟩
  case round =>
    clear hO0 hb0
    obtain ⟨k, A1, c1, rs, hk, rfl, rfl, rfl, rfl, HX, hO, hb⟩ := hrel
    have hsz := hb.size
    have hpm := pmax_bd hbd k
    have hpm2 := pmax_bd hbd (k + 1)
    have hst := cutN_le p k
    have hrl : rs.length ≤ 8 := by have h1 := congrArg List.length HX.out; have h2 := sumTo_le p k; rw [List.length_map] at h1; omega
    rcases Nat.lt_or_ge k p.length with hlt | hge
    · obtain ⟨b, off, rfl, hbb, hc⟩ := (h.next hb).rd (by omega)
      have cc := hc k hlt
      have hvk := hbd p[k] (List.getElem_mem hlt)
      have HM := Lib.hid (pmax_succ p k hlt)
      have HS := Lib.hid (sumTo_succ p k)
      have HCS := Lib.hid (cutN_succ p k)
      have HCUT := Lib.hid (((h.next hb).rd.take (k + 1)).cut (k := cutN p k) (c := c) (by simp; omega) (by simp; omega))
      have hsl := fun w => run_cut2 (P := Tryz.prog) (t := 24) Tryz.underlying24 sizeI (some ⟨b, off, none⟩) p.length c (cutN p k) (k + 1) (cutN p k : Int) ((k : Int) + 1) rfl (by omega) (by omega) (by omega) w
      clear hc
      have HLN := Lib.hid (show ((p.take (k + 1)).drop (cutN p k)).length = k + 1 - cutN p k by simp; omega)
      have HVV := Lib.hid (show ∀ v ∈ (p.take (k + 1)).drop (cutN p k), 1 ≤ v ∧ v ≤ 1048576 from fun v hv => by
        have := hbd v ((List.take_sublist _ _).subset ((List.drop_sublist _ _).subset hv))
        omega)
      by_cases heq : pmax p (k + 1) = (k : Int) + 1
      · have HE := Lib.hid (show sumTo p (k + 1) = sumTo p k ++ [partS p k] by rw [HS.out, if_pos heq])
        have HC1 := Lib.hid (show cutN p (k + 1) = k + 1 by rw [HCS.out, if_pos heq])
        have HEQ := Lib.hid heq
        have dq : (pmax p (k + 1) == (k : Int) + 1) = true := by rw [heq]; simp
        clear heq
        go_wp2_with fail
        (with_reducible refine (l1Max_b (pmax p k) p[k] (pmax p (k + 1)) wr HM.out.symm).mono ?_)
        rintro e w' ⟨rfl, rfl⟩
        go_wp2_with fail
        (with_reducible refine (pattern_spec _ _ (k + 1 - cutN p k) ((p.take (k + 1)).drop (cutN p k)) wr HLN.out (by omega) HCUT.out).mono ?_)
        rintro e w2 ⟨A2, c2, rfl, _, _, own2, hb2⟩
        have HPT := Lib.hid (slice_pat HP.out hlt HEQ.out)
        rw [HPT.out] at own2
        have own2 : w2.ownsRow wr.heap.size 3 1 (Row.v ⟨A2, c2, partS p k⟩) (partS p k).length ((partS p k).map (Value.int .i64)) := own2
        have hO6 := (hO.below hb2).add (r := ⟨A2, c2, partS p k⟩) own2 hb2.size hsz
        have hown2 := hO6.outN (n := rs.length) (by simp)
        have hbw := hb.trans (hb2.mono hsz)
        have hwz : w.heap.size ≤ w2.heap.size := hbw.size
        have hol := hO6.olim (n := rs.length) (by simp)
        clear own2 hO hb2
        rw [HPT.out]
        skip
        generalize hLv : (partS p k).length = Lv
        have HLv := Lib.hid hLv
        clear hLv
        go_wp2_with (at_builtin; refine wpList_append_own _ rfl _ _ 26 rfl (w.heap.size) 24 j0 (.slice none 0 0) 1 24 Tryz.underlying26 hj hy0 hy1 hy2 rfl (by decide) _ _ _ rfl (World.ownsRow.alloc hown2 _) ⟨w2.heap.size, 0, none⟩ 1 1 [Value.slice A2 Lv c2] rfl rfl (cell_one_at _ _ (by simp)) (by intro u hu; simp at hu; subst hu; rfl) (by unfold maxLen; omega) (by omega) (by simp; omega) ?_; intro v9 w9 hown9 hgrow9 _)
        obtain ⟨A5, c5, rfl, hO7, hg3⟩ := hO6.grow (o := Obj.cells #[Value.slice A2 Lv c2] 24) (u := Row.v ⟨A2, c2, partS p k⟩) (Nat.le_refl _) (by simp) (by rw [show Row.v ⟨A2, c2, partS p k⟩ = Value.slice A2 Lv c2 by rw [← HLv.out]; rfl]; exact hown9) hgrow9
        have hb3 := hbw.grown hg3 hwz fun g hg => (hol g hg).1
        have K := Lib.hid (And.intro hO7 hb3)
        clear hown9 hgrow9 hg3 hO6 hown2 hbw hol hO7 hb3
        go_wp2_with fail
        go_roundw
        case rel => exact ⟨k + 1, A5, c5, rs ++ [⟨A2, c2, partS p k⟩], by omega, by go_num, by rw [HC1.out]; go_num, rfl, by rw [List.length_append]; rfl, Lib.hid (by rw [List.map_append, HX.out, HE.out]; rfl), by rw [List.map_append]; exact K.out.1, K.out.2⟩
        case measure => simp [intOf]; omega
      · have HE := Lib.hid (show sumTo p (k + 1) = sumTo p k by rw [HS.out, if_neg heq])
        have HC1 := Lib.hid (show cutN p (k + 1) = cutN p k by rw [HCS.out, if_neg heq])
        have dq : (pmax p (k + 1) == (k : Int) + 1) = false := by simpa using heq
        clear heq
        go_wp2_with fail
        (with_reducible refine (l1Max_b (pmax p k) p[k] (pmax p (k + 1)) wr HM.out.symm).mono ?_)
        rintro e w' ⟨rfl, rfl⟩
        go_wp2_with fail
        go_roundw
        case rel => exact ⟨k + 1, A1, c1, rs, by omega, by go_num, by rw [HC1.out], rfl, rfl, Lib.hid (by rw [HX.out, HE.out]), hO, hb⟩
        case measure => simp [intOf]; omega
    · obtain rfl : k = p.length := by omega
      go_wp2_with fail
      go_ret
      rw [HG.out]
      exact ⟨A1, c1, rs, rfl, HX.out, hO, hb⟩
end Go.Proofs.YtldknpjeegdbmaaGreat

/- The lower permutations: lowers, LowersOf, l7Without. -/
namespace Go.Proofs.YtldknpjeegdbmaaGreat
set_option maxRecDepth 100000
open Go Go.RowKit

def lowM (p : List Int) (k : Nat) : List (List Int) := (List.range k).map fun i => patL (cutAt p i)
theorem lowM_succ (p : List Int) (k : Nat) : lowM p (k + 1) = lowM p k ++ [patL (cutAt p k)] := by simp [lowM, List.range_succ]
theorem lowM_length (p : List Int) (k : Nat) : (lowM p k).length = k := by simp [lowM]
/-- The different patterns without a place, in order. -/
def lowL (p : List Int) : List (List Int) := ordL (lowM p p.length)
theorem lowM_len {p : List Int} {k : Nat} (hk : k ≤ p.length) : ∀ q ∈ lowM p k, q.length = p.length - 1 := fun q hq => by
  unfold lowM at hq
  obtain ⟨i, hi, rfl⟩ := List.mem_map.1 hq
  rw [patL_length, cutAt_length p i (by have := List.mem_range.1 hi; omega)]
theorem lowL_len {p : List Int} : ∀ q ∈ lowL p, q.length = p.length - 1 := fun q hq => lowM_len (Nat.le_refl _) q ((ordL_mem _ q).1 hq)
theorem lowL_length (p : List Int) : (lowL p).length ≤ p.length := by
  have h := ordL_len (lowM p p.length)
  rw [lowM_length] at h
  exact h
theorem sizeX_of {X : List (List Int)} {m : Nat} (h : ∀ s ∈ X, s.length ≤ m) : sizeX X ≤ X.length * m := by
  induction X with
  | nil => simp [sizeX]
  | cons a t ih =>
    have h1 := h a (by simp)
    have h2 := ih (fun s hs => h s (by simp [hs]))
    simp only [sizeX, List.map_cons, List.sum_cons, List.length_cons, Nat.add_mul, Nat.one_mul] at h2 ⊢
    omega
end Go.Proofs.YtldknpjeegdbmaaGreat

/- The parts of a skew sum (reference); l5Run, IntervalsOf, IsSimple. -/
namespace Go.Proofs.YtldknpjeegdbmaaGreat
set_option maxRecDepth 100000
open Go Go.RowKit

theorem Own.by_ {w w' : World} {lo hi : Nat} {rs : List Row} {os : List Outer} {row : Option Nat} (h : Own w lo hi rs os) (hg : w.grownBy w' row) (hr : ∀ g, row = some g → g < lo ∨ hi ≤ g) : Own w' lo hi rs os := by
  rcases row with _ | g
  · exact h.span (Span.of_grown (lo := lo) (hi := lo) hg fun g h => by cases h) (.inr (Nat.le_refl _))
  · refine h.span (Span.of_grown (lo := g) (hi := g + 1) hg fun g' h => by injection h with h; omega) ?_
    have := hr g rfl
    omega
def skewGL (p : List Int) : List (List Int) := if permB p = true then skewL p else []
theorem perm_million {p : List Int} (h : permB p = true) : ∀ x ∈ p, 0 ≤ x ∧ x ≤ 1048576 := fun x hx => by
  obtain ⟨h8, hr, _⟩ := permB_true h
  have := hr x hx
  omega
theorem rows_bound {rs : List Row} {X : List (List Int)} {n m : Nat} (hX : rs.map Row.xs = X) (hl : X.length ≤ n) (hr : ∀ q ∈ X, q.length ≤ m) (hnm : n + n * m ≤ 1048576) : rs.length + sizeR rs ≤ 1048576 := by
  have h1 := sizeX_of hr
  have h2 : rs.length = X.length := by rw [← hX, List.length_map]
  rw [sizeR_eq, hX]
  have := Nat.mul_le_mul_right m hl
  omega
set_option maxHeartbeats 4000000 in
theorem skewRows_spec (A : Option Addr) (c : Nat) (p : List Int) (w : World) (h : In w A c p) :
    Calls Tryz.prog 64 #[.slice A p.length c] w (RetL w (skewGL p)) := by
  obtain ⟨j0, hj, hy0, hy1, hy2⟩ := info_parts infoL
  have hO00 := Own.lit (lo := w.heap.size) w (Nat.le_refl _)
  have hb00 := (Below.refl w.heap.size w).alloc (Nat.le_refl _) (.cells #[] 24)
  by_cases hp : permB p = true
  case neg =>
    have hpf : permB p = false := by simpa using hp
    have HP := Lib.hid hpf
    have HG := Lib.hid (show skewGL p = [] by unfold skewGL; rw [if_neg hp])
    clear hp hpf
    go_enter Tryz.func64, Tryz.ntmps64
    go_wp2_with fail
    (with_reducible refine (isPerm_sb A c p _ false (h.next hb00) HP.out).mono ?_)
    rintro e w1 ⟨rfl, hd1⟩
    have hb0 := below_dr hb00 hd1
    have hO0 := (hO00.dr hd1).wider (hi' := w1.heap.size) (Nat.le_refl _) (by rw [hd1.heap]; exact Nat.le_refl _)
    go_wp2_with fail
    go_ret
    rw [HG.out]
    exact ⟨_, _, [], rfl, rfl, hO0, hb0⟩
  have HP := Lib.hid hp
  have HG := Lib.hid (show skewGL p = skewL p by unfold skewGL; rw [if_pos hp])
  have HPC := Lib.hid (perm_compl hp)
  have hcl := complL_length p
  have hl8 := (permB_true hp).1
  have HSM := Lib.hid (perm_million hp)
  clear hp
  go_enter Tryz.func64, Tryz.ntmps64
  go_wp2_with fail
  (with_reducible refine (isPerm_sb A c p _ true (h.next hb00) HP.out).mono ?_)
  rintro e w1 ⟨rfl, hd1⟩
  have hb0 := below_dr hb00 hd1
  have hO0 := (hO00.dr hd1).wider (hi' := w1.heap.size) (Nat.le_refl _) (by rw [hd1.heap]; exact Nat.le_refl _)
  have h1s : w1.heap.size = w.heap.size + 1 := by rw [hd1.heap]; simp
  have H1S := Lib.hid h1s
  have HC := Lib.hid (l3Complement_any A c p w1 (h.next hb0) HSM.out)
  clear hb00 hO00 hd1 h1s
  go_wp2_with fail
  (with_reducible refine HC.out.mono ?_)
  rintro e w2 ⟨Q, qc, rfl, _, _, ownQ, hb2⟩
  have hO0 := hO0.below hb2
  have hb02 := hb0.trans (hb2.mono hb0.size)
  have h12 := hb2.size
  obtain ⟨q, hq⟩ : ∃ q, q = complL p := ⟨_, rfl⟩
  rw [← hq] at ownQ HPC
  have hql : q.length ≤ 8 := by rw [hq, hcl]; exact hl8
  have HQ := Lib.hid hq
  have HD := Lib.hid (sumRows_spec Q qc q w2 (In.own ownQ (by omega)))
  clear HC hb0 hb2 ownQ hcl hq
  rw [← HQ.out]
  go_wp2_with fail
  (with_reducible refine HD.out.mono ?_)
  rintro e w3 ⟨S, sk, ss, rfl, hX, hOs, hb3⟩
  have hO0 := hO0.below hb3
  have hb03 := hb02.trans (hb3.mono hb02.size)
  have h23 := hb3.size
  have HX := Lib.hid (show ss.map Row.xs = sumL q by rw [hX, sumGL, if_pos HPC.out])
  have hssl : ss.length ≤ 8 := by have h1 := congrArg List.length HX.out; have h2 := sumTo_le q q.length; rw [List.length_map] at h1; unfold sumL at h1; omega
  have HSP := Lib.hid (sumL_perm HPC.out)
  have HO0 := hO0.wider (hi' := w3.heap.size) (Nat.le_refl _) (by omega)
  have h13 : w.heap.size + 1 ≤ w2.heap.size := by rw [← H1S.out]; exact h12
  clear HD hX hb02 hb3 hO0
  go_wp2_with fail
  go_loopw [3, 5] (fun v i wr => ∃ (k : Nat) (A2 : Option Addr) (c2 : Nat) (ks : List Row), k ≤ ss.length ∧ i = .int .i64 (k : Int) ∧ v = .slice A2 ks.length c2 ∧ ks.length ≤ k ∧ Hid (ks.map Row.xs = ((sumL q).take k).map complL) ∧ Own wr w.heap.size wr.heap.size ks [⟨A2, c2, ks.map Row.v⟩] ∧ Own wr w2.heap.size w3.heap.size ss [⟨S, sk, ss.map Row.v⟩] ∧ Hid (∀ g, (Value.slice A2 ks.length c2).ownBlock = some g → g < w2.heap.size ∨ w3.heap.size ≤ g) ∧ w3.heap.size ≤ wr.heap.size ∧ Below w.heap.size w wr) (fun _ i _ => ss.length - (intOf i).toNat)
  case atStart => exact ⟨0, _, _, [], Nat.zero_le _, rfl, rfl, Nat.le_refl _, Lib.hid rfl, HO0, hOs, Lib.hid (fun g hg => by have h : some w.heap.size = some g := hg; injection h with h; omega), Nat.le_refl _, hb03⟩
  case round =>
    clear HO0 hOs hb03
    obtain ⟨k, A2, c2, ks, hk, rfl, rfl, hksl, HK, hO, hOs, HBL, h3r, hb⟩ := hrel
    have hsz := hb.size
    rcases Nat.lt_or_ge k ss.length with hlt | hge
    · have hR := hOs.read.more h3r
      obtain ⟨bo, oo, rfl, _, hc⟩ := hR.at (by omega)
      have cc := hc k hlt
      have hk2 : k < (sumL q).length := by rw [← HX.out, List.length_map]; exact hlt
      have HT := Lib.hid (show ((sumL q).take (k + 1)).map complL = ((sumL q).take k).map complL ++ [complL ss[k].xs] by
        rw [List.take_succ_eq_append_getElem hk2, List.map_append]
        have : (sumL q)[k] = ss[k].xs := by simp only [← HX.out, List.getElem_map]
        rw [this]; rfl)
      have hpr := (HSP.out ss[k].xs (by rw [← HX.out]; exact List.mem_map.2 ⟨_, List.getElem_mem hlt, rfl⟩)).1
      have hin : In wr ss[k].A ss[k].c ss[k].xs := ⟨by have := (permB_true hpr).1; omega, hR.cap _ (List.getElem_mem hlt), hR.rd _ (List.getElem_mem hlt)⟩
      obtain ⟨R1, hR1⟩ : ∃ R1 : Row, R1 = ss[k] := ⟨_, rfl⟩
      rw [← hR1] at cc hin HT hpr
      clear hc hR1 hR
      obtain ⟨rA, rc, rx⟩ := R1
      have HC := Lib.hid (l3Complement_any rA rc rx wr hin (perm_million hpr))
      obtain ⟨cx, hcx⟩ : ∃ l, l = complL rx := ⟨_, rfl⟩
      have hcxl : cx.length ≤ 8 := by rw [hcx, complL_length]; exact (permB_true hpr).1
      have HT : Hid (((sumL q).take (k + 1)).map complL = ((sumL q).take k).map complL ++ [cx]) := Lib.hid (by rw [HT.out, hcx])
      have HC : Hid (Calls Tryz.prog 89 #[.slice rA rx.length rc] wr (Ret (Value.int .i64) 3 wr cx)) := Lib.hid (by rw [hcx]; exact HC.out)
      clear hpr hin hcx
      go_wp2_with fail
      (with_reducible refine HC.out.mono ?_)
      rintro e w4 ⟨D, dc, rfl, _, _, ownD, hb4⟩
      have hO6 := (hO.below hb4).add (r := ⟨D, dc, cx⟩) ownD hb4.size hsz
      have hOs6 := hOs.below hb4
      have hown2 := hO6.outN (n := ks.length) (by simp)
      have hol := hO6.olim (n := ks.length) (by simp)
      have hbw := hb.trans (hb4.mono hsz)
      have hwz : w.heap.size ≤ w4.heap.size := hbw.size
      have h34 : w3.heap.size ≤ w4.heap.size := Nat.le_trans h3r hb4.size
      clear HC ownD hb4 hO hOs
      go_wp2_with (at_builtin; refine wpList_append_own_at _ rfl _ _ 26 rfl (w.heap.size) 24 j0 (.slice none 0 0) 1 24 Tryz.underlying26 hj hy0 hy1 hy2 rfl (by decide) _ _ _ rfl (World.ownsRow.alloc hown2 _) ⟨w4.heap.size, 0, none⟩ 1 1 [Value.slice D cx.length dc] rfl rfl (cell_one_at _ _ (by simp)) (by intro u hu; simp at hu; subst hu; rfl) (by unfold maxLen; omega) (by omega) (by simp; omega) ?_; intro v9 w9 hown9 hgrow9 _ hat9)
      have hOs7 := (hOs6.below ((Below.refl w4.heap.size w4).alloc (Nat.le_refl _) (Obj.cells #[Value.slice D cx.length dc] 24))).by_ hgrow9 HBL.out
      obtain ⟨A5, c5, rfl, hO7, hg3⟩ := hO6.grow (Nat.le_refl _) (by simp) hown9 hgrow9
      have hs9 := hg3.size
      have hb3 := hbw.grown hg3 hwz fun g hg => (hol g hg).1
      have HBL5 := Lib.hid (show ∀ g, (Value.slice A5 (ks ++ [(⟨D, dc, cx⟩ : Row)]).length c5).ownBlock = some g → g < w2.heap.size ∨ w3.heap.size ≤ g from fun g hg => by
        rw [ownBlock_len A5 _ (ks.length + 1) c5 c5] at hg
        rcases hat9 with h | h
        · rw [h] at hg; exact HBL.out g hg
        · rw [h] at hg; injection hg with hg; simp at hg; omega)
      have HK5 := Lib.hid (show (ks ++ [(⟨D, dc, cx⟩ : Row)]).map Row.xs = ((sumL q).take (k + 1)).map complL by rw [List.map_append, HK.out, HT.out]; rfl)
      have K := Lib.hid (And.intro hO7 (And.intro hOs7 hb3))
      have h39 := Nat.le_trans h34 hs9
      clear hown9 hgrow9 hg3 hO6 hown2 hbw hol hO7 hb3 hOs6 hOs7 hat9 hs9 cc
      go_wp2_with fail
      go_roundw
      case rel => exact ⟨k + 1, A5, c5, ks ++ [⟨D, dc, cx⟩], by omega, by go_num, by rw [List.length_append]; rfl, by rw [List.length_append]; simp; omega, HK5, by rw [List.map_append]; exact K.out.1, K.out.2.1, HBL5, h39, K.out.2.2⟩
      case measure => simp [intOf]; omega
    · obtain rfl : k = ss.length := by omega
      go_wp2_with fail
      go_ret
      rw [HG.out]
      exact ⟨A2, c2, ks, rfl, by rw [HK.out, skewL, ← HQ.out, List.take_of_length_le (by rw [← HX.out, List.length_map]; exact Nat.le_refl _)], hO, hb⟩
end Go.Proofs.YtldknpjeegdbmaaGreat
