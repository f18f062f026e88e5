/- The order of lists: a strict total order; ordered lists without repeats; plain maths. -/
import Derived.Test.YthipikllgpnlhaaK1
namespace Go.Proofs.Ythipikllgpnlhaa
set_option maxRecDepth 100000
open Go Go.RowKit

theorem cmpL_refl (x : List Int) : cmpL x x = 0 := by
  induction x with
  | nil => rfl
  | cons a t ih => simp only [cmpL, Int.lt_irrefl, if_false]; exact ih
theorem cmpL_eq {x y : List Int} (h : cmpL x y = 0) : x = y := by
  induction x generalizing y with
  | nil => cases y with
    | nil => rfl
    | cons b s => simp [cmpL] at h
  | cons a t ih => cases y with
    | nil => simp [cmpL] at h
    | cons b s =>
      simp only [cmpL] at h
      split at h
      · omega
      · split at h
        · omega
        · rw [ih h, show a = b by omega]
theorem cmpL_neg (x y : List Int) : cmpL y x = - cmpL x y := by
  induction x generalizing y with
  | nil => cases y <;> simp [cmpL]
  | cons a t ih => cases y with
    | nil => simp [cmpL]
    | cons b s =>
      simp only [cmpL]
      by_cases h1 : a < b
      · rw [if_neg (show ¬ b < a by omega), if_pos h1, if_pos h1]; rfl
      · by_cases h2 : b < a
        · rw [if_pos h2, if_neg h1, if_pos h2]
        · rw [if_neg h1, if_neg h2, if_neg h2, if_neg h1]; exact ih s
theorem cmpL_lt_trans {x y z : List Int} (h1 : cmpL x y < 0) (h2 : cmpL y z < 0) : cmpL x z < 0 := by
  induction x generalizing y z with
  | nil => cases z with
    | nil => cases y <;> simp [cmpL] at h1 h2
    | cons c u => simp [cmpL]
  | cons a t ih => cases y with
    | nil => simp [cmpL] at h1
    | cons b s => cases z with
      | nil => simp [cmpL] at h2
      | cons c u =>
        simp only [cmpL] at h1 h2 ⊢
        by_cases hab : a < b
        · by_cases hbc : b < c
          · rw [if_pos (show a < c by omega)]; decide
          · by_cases hcb : c < b
            · rw [if_neg hbc, if_pos hcb] at h2; exact absurd h2 (by decide)
            · rw [if_pos (show a < c by omega)]; decide
        · by_cases hba : b < a
          · rw [if_neg hab, if_pos hba] at h1; exact absurd h1 (by decide)
          · obtain rfl : a = b := by omega
            rw [if_neg hab, if_neg hba] at h1
            by_cases hbc : a < c
            · rw [if_pos hbc]; decide
            · by_cases hcb : c < a
              · rw [if_neg hbc, if_pos hcb] at h2; exact absurd h2 (by decide)
              · rw [if_neg hbc, if_neg hcb] at h2 ⊢
                exact ih h1 h2

theorem before_irrefl (x : List Int) : before x x = false := by unfold before; rw [if_pos rfl, cmpL_refl]; rfl
theorem before_trans {x y z : List Int} (h1 : before x y = true) (h2 : before y z = true) : before x z = true := by
  unfold before at *
  by_cases e1 : x.length = y.length
  · rw [if_pos e1] at h1
    by_cases e2 : y.length = z.length
    · rw [if_pos e2] at h2
      rw [if_pos (e1.trans e2)]
      exact decide_eq_true (cmpL_lt_trans (of_decide_eq_true h1) (of_decide_eq_true h2))
    · rw [if_neg e2] at h2
      have := of_decide_eq_true h2
      rw [if_neg (by omega)]
      exact decide_eq_true (by omega)
  · rw [if_neg e1] at h1
    have h1 := of_decide_eq_true h1
    by_cases e2 : y.length = z.length
    · rw [if_neg (by omega)]
      exact decide_eq_true (by omega)
    · rw [if_neg e2] at h2
      have := of_decide_eq_true h2
      rw [if_neg (by omega)]
      exact decide_eq_true (by omega)
theorem before_total {x y : List Int} (h1 : before x y = false) (h2 : before y x = false) : x = y := by
  unfold before at *
  by_cases e1 : x.length = y.length
  · rw [if_pos e1] at h1
    rw [if_pos e1.symm, cmpL_neg x y] at h2
    have h1 := of_decide_eq_false h1
    have h2 := of_decide_eq_false h2
    exact cmpL_eq (by omega)
  · rw [if_neg e1] at h1
    rw [if_neg (fun h => e1 h.symm)] at h2
    have h1 := of_decide_eq_false h1
    have h2 := of_decide_eq_false h2
    omega
theorem before_asymm {x y : List Int} (h : before x y = true) : before y x = false := by
  cases h2 : before y x with
  | false => rfl
  | true => have := before_trans h h2; rw [before_irrefl] at this; cases this
/-- An ordered list without repeats. -/
def Srt (X : List (List Int)) : Prop := X.Pairwise fun x y => before x y = true
theorem srt_ext {X Y : List (List Int)} (hX : Srt X) (hY : Srt Y) (h : ∀ x, x ∈ X ↔ x ∈ Y) : X = Y := by
  induction X generalizing Y with
  | nil => cases Y with
    | nil => rfl
    | cons b t => exact absurd ((h b).2 (by simp)) (by simp)
  | cons a s ih => cases Y with
    | nil => exact absurd ((h a).1 (by simp)) (by simp)
    | cons b t =>
      unfold Srt at hX hY
      rw [List.pairwise_cons] at hX hY
      have hab : a = b := by
        rcases List.mem_cons.1 ((h a).1 (by simp)) with e | ha
        · exact e
        · rcases List.mem_cons.1 ((h b).2 (by simp)) with e | hb
          · exact e.symm
          · have h1 := hX.1 b hb
            have h2 := hY.1 a ha
            rw [before_asymm h1] at h2; cases h2
      subst hab
      rw [ih hX.2 hY.2 (fun x => ?_)]
      have hx := h x
      rw [List.mem_cons, List.mem_cons] at hx
      constructor
      · intro hs
        rcases hx.1 (.inr hs) with rfl | h'
        · have := hX.1 _ hs; rw [before_irrefl] at this; cases this
        · exact h'
      · intro ht
        rcases hx.2 (.inr ht) with rfl | h'
        · have := hY.1 _ ht; rw [before_irrefl] at this; cases this
        · exact h'

/-- The place at which l3Put puts a list. -/
def putAt (X : List (List Int)) (p : List Int) : Nat → Nat
  | 0 => 0
  | k + 1 => if before p (X[k]?.getD []) = true then putAt X p k else k + 1
def putL (X : List (List Int)) (p : List Int) : List (List Int) :=
  if 0 < putAt X p X.length ∧ X[putAt X p X.length - 1]?.getD [] = p then X else X.take (putAt X p X.length) ++ p :: X.drop (putAt X p X.length)
theorem putAt_le (X : List (List Int)) (p : List Int) (k : Nat) : putAt X p k ≤ k := by
  induction k with
  | zero => exact Nat.le_refl _
  | succ k ih => unfold putAt; split <;> omega
theorem putAt_above (X : List (List Int)) (p : List Int) (k j : Nat) (h1 : putAt X p k ≤ j) (h2 : j < k) : before p (X[j]?.getD []) = true := by
  induction k with
  | zero => omega
  | succ k ih =>
    unfold putAt at h1
    by_cases h : before p (X[k]?.getD []) = true
    · rw [if_pos h] at h1
      by_cases e : j = k
      · subst e; exact h
      · exact ih h1 (by omega)
    · rw [if_neg h] at h1; omega
theorem putAt_below (X : List (List Int)) (p : List Int) (k : Nat) (h : 0 < putAt X p k) : before p (X[putAt X p k - 1]?.getD []) = false := by
  induction k with
  | zero => exact absurd h (by simp [putAt])
  | succ k ih =>
    by_cases hb : before p (X[k]?.getD []) = true
    · have e : putAt X p (k + 1) = putAt X p k := by rw [putAt, if_pos hb]
      rw [e] at h ⊢; exact ih h
    · have e : putAt X p (k + 1) = k + 1 := by rw [putAt, if_neg hb]
      rw [e, Nat.add_sub_cancel]; simpa using hb
theorem getX_lt {X : List (List Int)} {j : Nat} (h : j < X.length) : X[j]?.getD [] = X[j] := by rw [List.getElem?_eq_getElem h]; rfl
theorem putL_mem (X : List (List Int)) (p q : List Int) : q ∈ putL X p ↔ q = p ∨ q ∈ X := by
  unfold putL
  have hle := putAt_le X p X.length
  split
  · rename_i h
    constructor
    · exact .inr
    · rintro (rfl | h')
      · have := h.2
        rw [getX_lt (by omega)] at this
        rw [← this]; exact List.getElem_mem _
      · exact h'
  · rw [List.mem_append, List.mem_cons]
    have : q ∈ X ↔ q ∈ X.take (putAt X p X.length) ∨ q ∈ X.drop (putAt X p X.length) := by rw [← List.mem_append, List.take_append_drop]
    rw [this]
    constructor
    · rintro (h | h | h)
      · exact .inr (.inl h)
      · exact .inl h
      · exact .inr (.inr h)
    · rintro (h | h | h)
      · exact .inr (.inl h)
      · exact .inl h
      · exact .inr (.inr h)
theorem putL_srt {X : List (List Int)} (hX : Srt X) (p : List Int) : Srt (putL X p) := by
  unfold putL
  have hle := putAt_le X p X.length
  split
  · exact hX
  · rename_i h
    have hp : ∀ i (hi : i < putAt X p X.length), before (X[i]'(by omega)) p = true := by
      intro i hi
      have h0 : 0 < putAt X p X.length := by omega
      have h1 := putAt_below X p X.length h0
      rw [getX_lt (by omega)] at h1
      have h2 : X[putAt X p X.length - 1] ≠ p := fun e => h ⟨h0, by rw [getX_lt (by omega)]; exact e⟩
      have h3 : before (X[putAt X p X.length - 1]'(by omega)) p = true := by
        cases hb : before (X[putAt X p X.length - 1]'(by omega)) p with
        | true => rfl
        | false => exact absurd (before_total hb h1) h2
      by_cases e : i = putAt X p X.length - 1
      · subst e; exact h3
      · exact before_trans (List.pairwise_iff_getElem.1 hX i (putAt X p X.length - 1) (by omega) (by omega) (by omega)) h3
    have hd : ∀ y ∈ X.drop (putAt X p X.length), before p y = true := by
      intro y hy
      obtain ⟨j, hj, rfl⟩ := List.mem_iff_getElem.1 hy
      rw [List.length_drop] at hj
      rw [List.getElem_drop]
      have := putAt_above X p X.length (putAt X p X.length + j) (by omega) (by omega)
      rwa [getX_lt (by omega)] at this
    have ht : ∀ y ∈ X.take (putAt X p X.length), before y p = true := by
      intro y hy
      obtain ⟨j, hj, rfl⟩ := List.mem_iff_getElem.1 hy
      rw [List.length_take] at hj
      rw [List.getElem_take]
      exact hp j (by omega)
    have hX' := hX
    unfold Srt at hX' ⊢
    rw [← List.take_append_drop (putAt X p X.length) X, List.pairwise_append] at hX'
    rw [List.pairwise_append]
    refine ⟨hX'.1, List.pairwise_cons.2 ⟨hd, hX'.2.1⟩, fun a ha b hb => ?_⟩
    rcases List.mem_cons.1 hb with rfl | hb
    · exact ht a ha
    · exact hX'.2.2 a ha b hb
theorem putL_old {X : List (List Int)} (hX : Srt X) {p : List Int} (hp : p ∈ X) : putL X p = X :=
  srt_ext (putL_srt hX p) hX fun x => by
    rw [putL_mem]
    constructor
    · rintro (rfl | h)
      · exact hp
      · exact h
    · exact .inr
theorem putL_new {X : List (List Int)} {p : List Int} (hp : p ∉ X) : putL X p = X.take (putAt X p X.length) ++ p :: X.drop (putAt X p X.length) := by
  unfold putL
  rw [if_neg]
  rintro ⟨h0, he⟩
  have hle := putAt_le X p X.length
  rw [getX_lt (by omega)] at he
  exact hp (by rw [← he]; exact List.getElem_mem _)
theorem putL_len (X : List (List Int)) (p : List Int) : (putL X p).length ≤ X.length + 1 := by
  unfold putL
  split
  · omega
  · simp; have := putAt_le X p X.length; omega
theorem putL_len_new {X : List (List Int)} {p : List Int} (hp : p ∉ X) : (putL X p).length = X.length + 1 := by
  rw [putL_new hp]
  have := putAt_le X p X.length
  simp; omega
/-- Lists put in order, each once. -/
def ordL (X : List (List Int)) : List (List Int) := X.foldl putL []
theorem foldl_putL (X Y : List (List Int)) (hY : Srt Y) : Srt (X.foldl putL Y) ∧ ∀ q, q ∈ X.foldl putL Y ↔ q ∈ Y ∨ q ∈ X := by
  induction X generalizing Y with
  | nil => exact ⟨hY, fun q => by simp⟩
  | cons a t ih =>
    obtain ⟨h1, h2⟩ := ih (putL Y a) (putL_srt hY a)
    refine ⟨h1, fun q => ?_⟩
    rw [List.foldl_cons, h2, putL_mem, List.mem_cons]
    constructor
    · rintro ((h | h) | h)
      · exact .inr (.inl h)
      · exact .inl h
      · exact .inr (.inr h)
    · rintro (h | h | h)
      · exact .inl (.inr h)
      · exact .inl (.inl h)
      · exact .inr h
theorem ordL_srt (X : List (List Int)) : Srt (ordL X) := (foldl_putL X [] List.Pairwise.nil).1
theorem ordL_mem (X : List (List Int)) (q : List Int) : q ∈ ordL X ↔ q ∈ X := by
  have := (foldl_putL X [] List.Pairwise.nil).2 q
  rw [List.mem_nil_iff, false_or] at this
  exact this
theorem ordL_take (X : List (List Int)) (k : Nat) (h : k < X.length) : ordL (X.take (k + 1)) = putL (ordL (X.take k)) X[k] := by
  unfold ordL; rw [List.take_succ_eq_append_getElem h, List.foldl_append]; rfl
theorem ordL_len (X : List (List Int)) : (ordL X).length ≤ X.length := by
  have : ∀ (X Y : List (List Int)), (X.foldl putL Y).length ≤ Y.length + X.length := by
    intro X
    induction X with
    | nil => intro Y; simp
    | cons a t ih => intro Y; have h1 := ih (putL Y a); have h2 := putL_len Y a; rw [List.foldl_cons, List.length_cons]; omega
  have := this X []
  simpa [ordL] using this

/-- Of equal neighbors the first one is kept. -/
def compL : List (List Int) → List (List Int)
  | [] => []
  | [x] => [x]
  | x :: y :: t => if x = y then compL (y :: t) else x :: compL (y :: t)
theorem compL_mem (X : List (List Int)) (q : List Int) : q ∈ compL X ↔ q ∈ X := by
  match X with
  | [] => simp [compL]
  | [x] => simp [compL]
  | x :: y :: t =>
    have ih := compL_mem (y :: t) q
    unfold compL
    split
    · rename_i h; subst h; rw [ih]; simp
    · rw [List.mem_cons, ih, List.mem_cons (b := x)]
theorem compL_srt (X : List (List Int)) (h : X.Pairwise fun x y => before y x = false) : Srt (compL X) := by
  match X with
  | [] => exact List.Pairwise.nil
  | [x] => exact List.pairwise_singleton _ _
  | x :: y :: t =>
    rw [List.pairwise_cons] at h
    have ih := compL_srt (y :: t) h.2
    unfold compL
    split
    · exact ih
    · rename_i hne
      refine List.pairwise_cons.2 ⟨fun z hz => ?_, ih⟩
      rw [compL_mem] at hz
      have hxy : before x y = true := by
        cases hb : before x y with
        | true => rfl
        | false => exact absurd (before_total hb (h.1 y (by simp))) hne
      rcases List.mem_cons.1 hz with rfl | hz
      · exact hxy
      · have h2 := (List.pairwise_cons.1 h.2).1 z hz
        cases hb : before y z with
        | true => exact before_trans hxy hb
        | false => rw [← before_total hb h2]; exact hxy
/-- Sorting and taking of equals one is what putting one after the other gives. -/
theorem comp_ord {S X : List (List Int)} (hs : S.Pairwise fun x y => before y x = false) (hm : ∀ q, q ∈ S ↔ q ∈ X) : compL S = ordL X :=
  srt_ext (compL_srt S hs) (ordL_srt X) fun q => by rw [compL_mem, ordL_mem, hm]
theorem ordL_self {X : List (List Int)} (h : Srt X) : ordL X = X := srt_ext (ordL_srt X) h fun q => ordL_mem X q
theorem ordL_congr {X Y : List (List Int)} (h : ∀ q, q ∈ X ↔ q ∈ Y) : ordL X = ordL Y := srt_ext (ordL_srt X) (ordL_srt Y) fun q => by rw [ordL_mem, ordL_mem, h]
end Go.Proofs.Ythipikllgpnlhaa
