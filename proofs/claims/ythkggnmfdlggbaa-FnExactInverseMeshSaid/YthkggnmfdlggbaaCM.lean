/- Meshes: plain facts (as in B1 and CS, for seats without CountMesh and CanShade). -/
import Derived.Test.YthkggnmfdlggbaaK2
import Derived.Test.YthkggnmfdlggbaaZ1
namespace Go.Proofs.Ythkggnmfdlggbaa
set_option maxRecDepth 100000
open Go Go.RowKit

theorem mesh_perm {xs : List Int} {X : List (List Int)} (h : meshB xs X = true) : permB xs = true ∧ xs.length ≤ 4 := by
  unfold meshB at h
  simp only [Bool.and_eq_true, decide_eq_true_eq] at h
  exact h.1
theorem mesh_two {xs : List Int} {X : List (List Int)} (h : meshB xs X = true) : ∀ s ∈ X, s.length = 2 := fun s hs => by
  unfold meshB at h
  rw [Bool.and_eq_true] at h
  obtain ⟨i, hi, rfl⟩ := List.mem_iff_getElem.1 hs
  have := List.all_eq_true.1 h.2 i (List.mem_range.2 hi)
  unfold meshAt at this
  rw [List.getElem?_eq_getElem hi, Bool.and_eq_true] at this
  exact boxOk_two this.1

theorem mesh_ib (A B : Option Addr) (c k : Nat) (xs : List Int) (rs : List Row) (w : World) (b : Bool) (h : InM w A c xs B k rs) (hb : meshB xs (rs.map Row.xs) = b) : Calls Try.prog 52 #[.agg #[.slice A xs.length c, .slice B rs.length k]] w (Rb w (.bool b)) := by
  subst hb; exact mesh_impl A B c k xs rs w h
theorem mesh_sb (A B : Option Addr) (c k : Nat) (xs : List Int) (rs : List Row) (w : World) (b : Bool) (h : InM w A c xs B k rs) (hb : meshB xs (rs.map Row.xs) = b) : Calls Try.prog 49 #[.agg #[.slice A xs.length c, .slice B rs.length k]] w (Rb w (.bool b)) := by
  subst hb; exact mesh_spec A B c k xs rs w h
theorem rows_two {rs : List Row} {xs : List Int} (h : meshB xs (rs.map Row.xs) = true) : ∀ r ∈ rs, r.xs.length = 2 := fun r hr => mesh_two h _ (List.mem_map.2 ⟨r, hr, rfl⟩)

theorem mesh_at {xs : List Int} {X : List (List Int)} (h : meshB xs X = true) (i : Nat) (hi : i < X.length) : boxOk xs.length X[i] = true ∧ (i = 0 ∨ cmpL (X[i - 1]?.getD []) X[i] < 0) := by
  unfold meshB at h
  rw [Bool.and_eq_true] at h
  have := List.all_eq_true.1 h.2 i (List.mem_range.2 hi)
  unfold meshAt at this
  rw [List.getElem?_eq_getElem hi, Bool.and_eq_true, Bool.or_eq_true, decide_eq_true_eq, decide_eq_true_eq] at this
  exact this
theorem pairwise_step {X : List (List Int)} (h : ∀ i (hi : i + 1 < X.length), before (X[i]'(by omega)) X[i + 1] = true) : Srt X := by
  unfold Srt
  rw [List.pairwise_iff_getElem]
  intro i j hi hj hij
  induction j with
  | zero => omega
  | succ j ih =>
    by_cases e : i = j
    · subst e; exact h i hj
    · exact before_trans (ih (by omega) (by omega)) (h j hj)
theorem mesh_srt {xs : List Int} {X : List (List Int)} (h : meshB xs X = true) : Srt X := by
  apply pairwise_step
  intro i hi
  have h2 := mesh_two h
  have e1 : X[i].length = X[i + 1].length := by rw [h2 _ (List.getElem_mem _), h2 _ (List.getElem_mem _)]
  unfold before
  rw [if_pos e1]
  have := (mesh_at h (i + 1) hi).2
  rw [Nat.add_sub_cancel, List.getElem?_eq_getElem (by omega)] at this
  rcases this with h0 | h0
  · omega
  · exact decide_eq_true h0
/-- The number of a box. -/
def boxN (s : List Int) : Int := 5 * (s[0]?.getD 0) + s[1]?.getD 0
theorem mesh_len {xs : List Int} {X : List (List Int)} (h : meshB xs X = true) : X.length ≤ 25 := by
  have h4 := (mesh_perm h).2
  have hb : ∀ i (hi : i < X.length), ∃ a b, X[i] = [a, b] ∧ 0 ≤ a ∧ a ≤ 4 ∧ 0 ≤ b ∧ b ≤ 4 := by
    intro i hi
    have h1 := (mesh_at h i hi).1
    have h2 := mesh_two h X[i] (List.getElem_mem hi)
    match hx : X[i], h2 with
    | [a, b], _ =>
      rw [hx] at h1
      simp only [boxOk, decide_eq_true_eq] at h1
      exact ⟨a, b, rfl, by omega, by omega, by omega, by omega⟩
  have hge : ∀ i (hi : i < X.length), (i : Int) ≤ boxN X[i] := by
    intro i
    induction i with
    | zero =>
      intro hi
      obtain ⟨a, b, e, _⟩ := hb 0 hi
      rw [e]; simp [boxN]; omega
    | succ i ih =>
      intro hi
      have h1 := ih (by omega)
      obtain ⟨a, b, e, ha⟩ := hb i (by omega)
      obtain ⟨a', b', e', ha'⟩ := hb (i + 1) hi
      have hs := List.pairwise_iff_getElem.1 (mesh_srt h) i (i + 1) (by omega) hi (by omega)
      rw [e] at h1 hs
      rw [e'] at hs ⊢
      simp only [boxN, List.getElem?_cons_zero, List.getElem?_cons_succ, Option.getD_some] at h1 ⊢
      have hs' : cmpL [a, b] [a', b'] < 0 := of_decide_eq_true (by simpa [before] using hs)
      simp only [cmpL] at hs'
      split at hs'
      · omega
      · split at hs'
        · omega
        · split at hs'
          · omega
          · split at hs' <;> omega
  rcases Nat.eq_zero_or_pos X.length with h0 | h0
  · omega
  · have h1 := hge (X.length - 1) (by omega)
    obtain ⟨a, b, e, ha⟩ := hb (X.length - 1) (by omega)
    rw [e] at h1
    simp only [boxN, List.getElem?_cons_zero, List.getElem?_cons_succ, Option.getD_some] at h1
    omega

end Go.Proofs.Ythkggnmfdlggbaa
