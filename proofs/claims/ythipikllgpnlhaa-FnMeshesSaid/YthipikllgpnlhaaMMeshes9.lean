/- Several texts in one, each with its own head: OC2, K2, CM, B1. No program of ours. -/
import Derived.Test.YthipikllgpnlhaaMMeshes8
/- Plain maths of occurrences: the inverse and the complement. -/
namespace Go.Proofs.Ythipikllgpnlhaa
set_option maxRecDepth 100000

theorem invTo_get {p : List Int} (hp : permB p = true) : ∀ (k : Nat), k ≤ p.length → ∀ i : Int, 1 ≤ i → i ≤ k → at1 (invTo p k) (at1 p i) = i := by
  intro k
  induction k with
  | zero => intro _ i h1 h2; omega
  | succ k ih =>
    intro hk i h1 h2
    have hr := perm_rng hp h1 (by omega)
    have hk1 := perm_rng hp (x := (k : Int) + 1) (by omega) (by omega)
    have e1 : p[k]?.getD 0 = at1 p ((k : Int) + 1) := by rw [at1_get (by omega), List.getElem?_eq_getElem (by omega)]; rfl
    have hl := invTo_length p k
    rw [invTo, e1]
    unfold at1
    by_cases hik : i = (k : Int) + 1
    · subst hik
      rw [show (p[((k : Int) + 1 - 1).toNat]?.getD 0) = at1 p ((k : Int) + 1) from rfl]
      rw [List.getElem?_set_self (by omega)]; rfl
    · have hne : at1 p i ≠ at1 p ((k : Int) + 1) := fun e => hik (perm_inj hp ⟨h1, by omega⟩ ⟨by omega, by omega⟩ e)
      rw [show (p[(i - 1).toNat]?.getD 0) = at1 p i from rfl]
      rw [show (p[((k : Int) + 1 - 1).toNat]?.getD 0) = at1 p ((k : Int) + 1) from rfl]
      rw [List.getElem?_set_ne (by omega)]
      exact ih (by omega) i h1 (by omega)
theorem inv_at {p : List Int} (hp : permB p = true) {i : Int} (h1 : 1 ≤ i) (h2 : i ≤ p.length) : at1 (invL p) (at1 p i) = i := invTo_get hp p.length (Nat.le_refl _) i h1 h2
theorem invL_length (p : List Int) : (invL p).length = p.length := invTo_length p p.length
theorem at_inv {p : List Int} (hp : permB p = true) {v : Int} (h1 : 1 ≤ v) (h2 : v ≤ p.length) : at1 p (at1 (invL p) v) = v ∧ 1 ≤ at1 (invL p) v ∧ at1 (invL p) v ≤ p.length := by
  obtain ⟨x, hx1, hx2, rfl⟩ := perm_onto hp h1 h2
  rw [inv_at hp hx1 hx2]
  exact ⟨rfl, hx1, hx2⟩
theorem perm_inv {p : List Int} (hp : permB p = true) : permB (invL p) = true := by
  have h8 := (permB_true hp).1
  have hl := invL_length p
  refine perm_of (by omega) (fun x h1 h2 => ?_) (fun x y hx hy e => ?_)
  · have := (at_inv hp h1 (by omega)).2
    omega
  · have h1 := (at_inv hp hx.1 (by omega)).1
    have h2 := (at_inv hp hy.1 (by omega)).1
    rw [e, h2] at h1
    exact h1.symm
theorem inv_inv {p : List Int} (hp : permB p = true) : invL (invL p) = p := by
  have hl := invL_length p
  have hl2 := invL_length (invL p)
  refine at1_ext (by omega) fun x h1 h2 => ?_
  have hr := perm_rng hp h1 (by omega)
  have h3 := inv_at (perm_inv hp) (i := at1 p x) hr.1 (by omega)
  rw [inv_at hp h1 (by omega)] at h3
  exact h3
/-- The numbers at the places, in their order: the places of the inverse. -/
def invPl (p q l : List Int) : List Int := ofF q.length fun j => at1 p (at1 l (at1 (invL q) j))
theorem occ_inverse {p q l : List Int} (hp : permB p = true) (hq : permB q = true) (h : Occ p q l) : Occ (invL p) (invL q) (invPl p q l) := by
  have hl := h.len
  have hip := invL_length p
  have hiq := invL_length q
  have hb : ∀ j : Int, 1 ≤ j ∧ j ≤ q.length → 1 ≤ at1 (invL q) j ∧ at1 (invL q) j ≤ q.length := fun j hj => (at_inv hq hj.1 hj.2).2
  have hr : ∀ j : Int, 1 ≤ j ∧ j ≤ q.length → 1 ≤ at1 l (at1 (invL q) j) ∧ at1 l (at1 (invL q) j) ≤ p.length := fun j hj => h.rng _ (hb j hj).1 (by have := (hb j hj).2; omega)
  refine ⟨by rw [invPl, ofF_length, hiq], fun i j h1 h2 h3 => ?_, fun i h1 h2 => ?_, fun i j hi hj => ?_⟩
  · rw [invPl, ofF_length] at h3
    unfold invPl
    rw [at1_ofF h1 (by omega), at1_ofF (by omega) h3]
    rw [← h.ord _ _ (hb i ⟨h1, by omega⟩) (hb j ⟨by omega, h3⟩), (at_inv hq h1 (by omega)).1, (at_inv hq (by omega) h3).1]
    exact h2
  · rw [invPl, ofF_length] at h2
    unfold invPl
    rw [at1_ofF h1 h2, hip]
    have a := hr i ⟨h1, h2⟩
    exact perm_rng hp a.1 a.2
  · rw [hiq] at hi hj
    unfold invPl
    rw [at1_ofF hi.1 hi.2, at1_ofF hj.1 hj.2]
    have a := hr i hi
    have b := hr j hj
    rw [inv_at hp a.1 a.2, inv_at hp b.1 b.2, h.inc.lt (by have := hb i hi; omega) (by have := hb j hj; omega)]
theorem invPl_at {p q l : List Int} (hq : permB q = true) {i : Int} (h1 : 1 ≤ i) (h2 : i ≤ q.length) : at1 (invPl p q l) (at1 q i) = at1 p (at1 l i) := by
  have hr := perm_rng hq h1 h2
  unfold invPl
  rw [at1_ofF hr.1 hr.2, inv_at hq h1 h2]
theorem invPl_inj {p q l k : List Int} (hp : permB p = true) (hq : permB q = true) (hl : Occ p q l) (hk : Occ p q k) (e : invPl p q l = invPl p q k) : l = k := by
  have h1 := hl.len
  have h2 := hk.len
  refine at1_ext (by omega) fun x hx1 hx2 => ?_
  have : at1 (invPl p q l) (at1 q x) = at1 (invPl p q k) (at1 q x) := by rw [e]
  rw [invPl_at hq hx1 (by omega), invPl_at hq hx1 (by omega)] at this
  exact perm_inj hp (hl.rng x hx1 hx2) (hk.rng x hx1 (by omega)) this
theorem occ_count_inverse {p q : List Int} (hp : permB p = true) (hq : permB q = true) : (occI (invL p) (invL q)).length = (occI p q).length := by
  have hp' := perm_inv hp
  have hq' := perm_inv hq
  refine len_of_inj (occI_nodup _ _) (occI_nodup _ _) (invPl (invL p) (invL q)) (invPl p q) (fun l hl => ?_) (fun l hl k hk e => ?_) (fun l hl => ?_) (fun l hl k hk e => ?_)
  · have h := occ_inverse hp' hq' ((occ_iff hp' hq').1 hl)
    rw [inv_inv hp, inv_inv hq] at h
    exact (occ_iff hp hq).2 h
  · exact invPl_inj hp' hq' ((occ_iff hp' hq').1 hl) ((occ_iff hp' hq').1 hk) e
  · exact (occ_iff hp' hq').2 (occ_inverse hp hq ((occ_iff hp hq).1 hl))
  · exact invPl_inj hp hq ((occ_iff hp hq).1 hl) ((occ_iff hp hq).1 hk) e

/-! The complement. -/
theorem complL_length (p : List Int) : (complL p).length = p.length := by simp [complL]
theorem at1_compl {p : List Int} {x : Int} (h1 : 1 ≤ x) (h2 : x ≤ p.length) : at1 (complL p) x = (p.length : Int) + 1 - at1 p x := by
  obtain ⟨i, h, e1, e2⟩ := at1_nat (p := p) h1 h2
  have h' : i < (complL p).length := by rw [complL_length]; exact h
  rw [e2, e1, at1_get h']
  simp [complL]
theorem perm_compl {p : List Int} (hp : permB p = true) : permB (complL p) = true := by
  have h8 := (permB_true hp).1
  have hl := complL_length p
  refine perm_of (by omega) (fun x h1 h2 => ?_) (fun x y hx hy e => ?_)
  · rw [at1_compl h1 (by omega)]
    have := perm_rng hp h1 (by omega)
    omega
  · rw [at1_compl hx.1 (by omega), at1_compl hy.1 (by omega)] at e
    exact perm_inj hp ⟨hx.1, by omega⟩ ⟨hy.1, by omega⟩ (by omega)
theorem occ_compl {p q l : List Int} (h : Occ p q l) : Occ (complL p) (complL q) l := by
  have hl := h.len
  refine ⟨by rw [complL_length]; exact hl, h.inc, by rw [complL_length]; exact h.rng, fun i j hi hj => ?_⟩
  rw [complL_length] at hi hj
  have a := h.rng i hi.1 (by omega)
  have b := h.rng j hj.1 (by omega)
  rw [at1_compl hi.1 hi.2, at1_compl hj.1 hj.2, at1_compl a.1 a.2, at1_compl b.1 b.2]
  have := h.ord j i hj hi
  omega
theorem compl_compl {p : List Int} : complL (complL p) = p := by
  refine at1_ext (by rw [complL_length, complL_length]) fun x h1 h2 => ?_
  rw [complL_length, complL_length] at h2
  rw [at1_compl h1 (by rw [complL_length]; exact h2), at1_compl h1 h2, complL_length]
  omega

/-! All symmetries. -/
theorem perm_sym {p : List Int} (hp : permB p = true) (k : Nat) : permB (symL p k) = true := by
  unfold symL
  split
  all_goals first | exact hp | exact perm_inv hp | exact perm_reverse hp | exact perm_reverse (perm_inv hp) | exact perm_compl hp | exact perm_compl (perm_inv hp) | exact perm_compl (perm_reverse hp) | exact perm_compl (perm_reverse (perm_inv hp))
theorem has_reverse {p q : List Int} (hp : permB p = true) (hq : permB q = true) : hasB p.reverse q.reverse = hasB p q := by
  rw [Bool.eq_iff_iff, has_iff hp hq, has_iff (perm_reverse hp) (perm_reverse hq)]
  constructor
  · rintro ⟨l, h⟩
    have := occ_reverse h
    rw [List.reverse_reverse, List.reverse_reverse] at this
    exact ⟨_, this⟩
  · rintro ⟨l, h⟩; exact ⟨_, occ_reverse h⟩
theorem has_inverse {p q : List Int} (hp : permB p = true) (hq : permB q = true) : hasB (invL p) (invL q) = hasB p q := by
  rw [Bool.eq_iff_iff, has_iff hp hq, has_iff (perm_inv hp) (perm_inv hq)]
  constructor
  · rintro ⟨l, h⟩
    have := occ_inverse (perm_inv hp) (perm_inv hq) h
    rw [inv_inv hp, inv_inv hq] at this
    exact ⟨_, this⟩
  · rintro ⟨l, h⟩; exact ⟨_, occ_inverse hp hq h⟩
theorem has_compl {p q : List Int} (hp : permB p = true) (hq : permB q = true) : hasB (complL p) (complL q) = hasB p q := by
  rw [Bool.eq_iff_iff, has_iff hp hq, has_iff (perm_compl hp) (perm_compl hq)]
  constructor
  · rintro ⟨l, h⟩
    have := occ_compl h
    rw [compl_compl, compl_compl] at this
    exact ⟨_, this⟩
  · rintro ⟨l, h⟩; exact ⟨_, occ_compl h⟩
theorem has_sym {p q : List Int} (hp : permB p = true) (hq : permB q = true) (k : Nat) : hasB (symL p k) (symL q k) = hasB p q := by
  match k with
  | 0 => rfl
  | 1 => exact has_inverse hp hq
  | 2 => exact has_reverse hp hq
  | 3 => exact (has_reverse (perm_inv hp) (perm_inv hq)).trans (has_inverse hp hq)
  | 4 => exact has_compl hp hq
  | 5 => exact (has_compl (perm_inv hp) (perm_inv hq)).trans (has_inverse hp hq)
  | 6 => exact (has_compl (perm_reverse hp) (perm_reverse hq)).trans (has_reverse hp hq)
  | _ + 7 => exact (has_compl (perm_reverse (perm_inv hp)) (perm_reverse (perm_inv hq))).trans ((has_reverse (perm_inv hp) (perm_inv hq)).trans (has_inverse hp hq))
end Go.Proofs.Ythipikllgpnlhaa

/- IsMesh, program and reference. -/
namespace Go.Proofs.Ythipikllgpnlhaa
set_option maxRecDepth 100000
open Go Go.RowKit

/-- A box over a permutation of length n. -/
def boxOk (n : Nat) (s : List Int) : Bool := match s with
  | [a, b] => decide (0 ≤ a ∧ a ≤ n ∧ 0 ≤ b ∧ b ≤ n)
  | _ => false
/-- The box at k is right, and behind the one ahead of it. -/
def meshAt (n : Nat) (X : List (List Int)) (k : Nat) : Bool := boxOk n (X[k]?.getD []) && (decide (k = 0) || decide (cmpL (X[k - 1]?.getD []) (X[k]?.getD []) < 0))
def meshTo (n : Nat) (X : List (List Int)) (k : Nat) : Bool := (List.range k).all (meshAt n X)
theorem boxOk_two {n : Nat} {s : List Int} (h : boxOk n s = true) : s.length = 2 := by
  match s with
  | [a, b] => rfl
  | [] => simp [boxOk] at h
  | [_] => simp [boxOk] at h
  | _ :: _ :: _ :: _ => simp [boxOk] at h
theorem meshTo_succ (n : Nat) (X : List (List Int)) (k : Nat) : meshTo n X (k + 1) = (meshTo n X k && meshAt n X k) := by simp [meshTo, List.range_succ]
theorem meshTo_false {n : Nat} {X : List (List Int)} {k m : Nat} (h : k < m) (ht : meshAt n X k = false) : meshTo n X m = false := by
  unfold meshTo
  rw [List.all_eq_false]
  exact ⟨k, List.mem_range.2 h, by simp [ht]⟩
def meshB (xs : List Int) (X : List (List Int)) : Bool := permB xs && decide (xs.length ≤ 4) && meshTo xs.length X X.length

set_option maxHeartbeats 2000000 in
theorem mesh_impl (A B : Option Addr) (c k : Nat) (xs : List Int) (rs : List Row) (w : World) (h : InM w A c xs B k rs) :
    Calls Try.prog 17 #[.agg #[.slice A xs.length c, .slice B rs.length k]] w (Rb w (.bool (meshB xs (rs.map Row.xs)))) := by
  have hlx := h.1.len
  have hly := h.2.len
  by_cases hp : permB xs = true
  · have HP := Lib.hid hp
    go_enter Try.func17, Try.ntmps17
    have hb0 : Below w.heap.size w (w.alloc (Obj.cells #[Value.slice A xs.length c, Value.slice B rs.length k] 27)) := (Below.refl _ _).alloc (Nat.le_refl _) _
    have ob := obj_new w (Obj.cells #[Value.slice A xs.length c, Value.slice B rs.length k] 27)
    go_wp2_with fail
    generalize (w.alloc (Obj.cells #[Value.slice A xs.length c, Value.slice B rs.length k] 27)) = w0 at hb0 ob ⊢
    (with_reducible refine (isPerm_impl A c xs _ (h.1.next hb0)).mono ?_)
    rintro e w1 ⟨rfl, hb1⟩
    rw [hp]
    clear hp
    have hb := hb0.trans (hb1.mono hb0.size)
    have ob := obj_below ob hb1 (obj_lt ob)
    have f0 : w1.cell? ⟨w.heap.size, 0, none⟩ = some (Value.slice A xs.length c) := (obj_cell ob).trans rfl
    have f1 : w1.cell? ⟨w.heap.size, 1, none⟩ = some (Value.slice B rs.length k) := (obj_cell ob).trans rfl
    by_cases h4 : xs.length ≤ 4
    · have H4 := Lib.hid (show decide (xs.length ≤ 4) = true from decide_eq_true h4)
      go_wp2
      go_loopw [18] (fun i wr => ∃ j : Nat, j ≤ rs.length ∧ i = .int .i64 j ∧ meshTo xs.length (rs.map Row.xs) j = true ∧ Dr w1 wr) (fun i _ => rs.length - (intOf i).toNat)
      case atStart => exact ⟨0, Nat.zero_le _, rfl, rfl, Dr.refl _⟩
      case round =>
        obtain ⟨j, hj, rfl, hall, hd⟩ := hrel
        have HA := Lib.hid hall
        clear hall
        have g0 : wr.cell? ⟨w.heap.size, 0, none⟩ = some (Value.slice A xs.length c) := (hd.cell _).trans f0
        have g1 : wr.cell? ⟨w.heap.size, 1, none⟩ = some (Value.slice B rs.length k) := (hd.cell _).trans f1
        by_cases hlt : j < rs.length
        · have hL := (h.2.next hb).dr hd
          obtain ⟨b, off, rfl, _, hc⟩ := hL.read.at (by omega)
          have c1 := hc j hlt
          have hX : (rs.map Row.xs)[j]?.getD [] = rs[j].xs := by simp [hlt]
          by_cases h2 : rs[j].xs.length = 2
          · obtain ⟨a, bb, hab⟩ : ∃ a bb, rs[j].xs = [a, bb] := by
              match hq : rs[j].xs, h2 with
              | [a, bb], _ => exact ⟨a, bb, rfl⟩
            have hrow := (hL.row (List.getElem_mem hlt)).rd
            rw [hab] at hrow
            obtain ⟨rb, ro, hA', _, hcc⟩ := hrow (by simp)
            have e0 : wr.cell? ⟨rb, ro, none⟩ = some (.int .i64 a) := hcc 0 (by simp)
            have e1 : wr.cell? ⟨rb, ro + 1, none⟩ = some (.int .i64 bb) := hcc 1 (by simp)
            rw [hA', h2] at c1
            have hB : boxOk xs.length rs[j].xs = decide (0 ≤ a ∧ a ≤ (xs.length : Int) ∧ 0 ≤ bb ∧ bb ≤ (xs.length : Int)) := by rw [hab]; rfl
            by_cases hm : (if bb < a then bb else a) < 0
            · have dm : decide ((if bb < a then bb else a) < 0) = true := decide_eq_true hm
              have HT := Lib.hid (show meshAt xs.length (rs.map Row.xs) j = false by unfold meshAt; rw [hX, Bool.and_eq_false_iff, hB]; exact .inl (decide_eq_false (by split at hm <;> omega)))
              clear hc h2 hX hB hm hab hcc
              go_wp2
              go_quiet (fail)
              all_goals go_wp2
              all_goals (go_ret; exact ⟨ret_bool (by rw [meshB, meshTo_false (by simpa using hlt) HT.out, Bool.and_false]), below_dr hb (by first | with_reducible assumption | with_reducible exact hd | with_reducible exact Dr.drewN hd _ | with_reducible exact Dr.drewN (Dr.drewN hd _) _ | with_reducible exact Dr.drew hd)⟩)
            · have dm : decide ((if bb < a then bb else a) < 0) = false := decide_eq_false hm
              by_cases hM : (xs.length : Int) < (if a < bb then bb else a)
              · have dM : decide ((xs.length : Int) < (if a < bb then bb else a)) = true := decide_eq_true hM
                have HT := Lib.hid (show meshAt xs.length (rs.map Row.xs) j = false by unfold meshAt; rw [hX, Bool.and_eq_false_iff, hB]; exact .inl (decide_eq_false (by split at hM <;> omega)))
                clear hc h2 hX hB hm hM hab hcc
                go_wp2
                go_quiet (fail)
                all_goals go_wp2
                all_goals (go_ret; exact ⟨ret_bool (by rw [meshB, meshTo_false (by simpa using hlt) HT.out, Bool.and_false]), below_dr hb (by first | with_reducible assumption | with_reducible exact hd | with_reducible exact Dr.drewN hd _ | with_reducible exact Dr.drewN (Dr.drewN hd _) _ | with_reducible exact Dr.drew hd)⟩)
              · have dM : decide ((xs.length : Int) < (if a < bb then bb else a)) = false := decide_eq_false hM
                have hOK : boxOk xs.length rs[j].xs = true := by rw [hB]; exact decide_eq_true (by split at hm <;> split at hM <;> omega)
                clear hm hM hB
                rcases Nat.eq_zero_or_pos j with h0 | h0
                · subst h0
                  have HT := Lib.hid (show meshTo xs.length (rs.map Row.xs) (0 + 1) = true by rw [meshTo_succ, HA.out]; unfold meshAt; rw [hX, hOK]; rfl)
                  have c1' : wr.cell? ⟨b, off, none⟩ = some (Value.slice (some ⟨rb, ro, none⟩) 2 rs[0].c) := c1
                  clear hc h2 hX hab hcc hOK
                  go_wp2
                  go_quiet (fail)
                  all_goals go_wp2
                  all_goals go_roundw
                  all_goals first | exact ⟨1, by omega, rfl, HT.out, (by first | with_reducible assumption | with_reducible exact hd | with_reducible exact Dr.drewN hd _ | with_reducible exact Dr.drewN (Dr.drewN hd _) _ | with_reducible exact Dr.drew hd)⟩ | (simp [intOf]; omega)
                · have c2 := hc (j - 1) (by omega)
                  have hX1 : (rs.map Row.xs)[j - 1]?.getD [] = (rs[j - 1]'(by omega)).xs := by simp [show j - 1 < rs.length by omega]
                  have rp := (hL.row (List.getElem_mem (show j - 1 < rs.length by omega))).rd
                  have q0 := (hL.row (List.getElem_mem (show j - 1 < rs.length by omega))).len
                  have q1 : (rs[j - 1]'(by omega)).xs.length ≤ 4611686018427387904 := by omega
                  have rq := (hL.row (List.getElem_mem hlt)).rd
                  rw [hA'] at rq
                  have E1 : IntKind.i64.wrap ((j : Int) - 1) = (j : Int) - 1 := IntWalk.i64_in _ (by omega)
                  have E2 : ((j : Int) - 1).toNat = j - 1 := by omega
                  have E3 : 0 ≤ (j : Int) - 1 := by omega
                  have E4 : (j : Int) - 1 < (rs.length : Int) := by omega
                  have E5 : 1 ≤ (j : Int) := by omega
                  have E6 : (j : Int) ≤ (rs.length : Int) := by omega
                  have d0 : decide ((j : Int) > 0) = true := decide_eq_true (by omega)
                  have d0' : decide (0 < (j : Int)) = true := decide_eq_true (by omega)
                  have H2 := Lib.hid h2
                  have q2 : (2 : Nat) ≤ 4611686018427387904 := by omega
                  by_cases hC : cmpL (rs[j - 1]'(by omega)).xs rs[j].xs < 0
                  · have dC : decide (cmpL (rs[j - 1]'(by omega)).xs rs[j].xs ≥ 0) = false := decide_eq_false (by omega)
                    have dC' : decide (0 ≤ cmpL (rs[j - 1]'(by omega)).xs rs[j].xs) = false := decide_eq_false (by omega)
                    have HT := Lib.hid (show meshTo xs.length (rs.map Row.xs) (j + 1) = true by rw [meshTo_succ, HA.out]; unfold meshAt; rw [hX, hX1, hOK, decide_eq_true hC, Bool.or_true]; rfl)
                    clear hc h2 hX hX1 hab hcc hOK hC q0 E5 E6
                    go_wp2
                    go_quiet ((go_at_call 82; exact quiet_rq (compareS_q _ _ _ _ _ _ (rs[j - 1]'(by omega)).xs rs[j].xs _ rfl H2.out q1 q2 (rp.drewN _) (rq.drewN _))))
                    all_goals go_wp2
                    all_goals go_roundw
                    all_goals first | exact ⟨j + 1, by omega, by go_num, HT.out, (by first | with_reducible assumption | with_reducible exact hd | with_reducible exact Dr.drewN hd _ | with_reducible exact Dr.drewN (Dr.drewN hd _) _ | with_reducible exact Dr.drew hd)⟩ | (simp [intOf]; omega)
                  · have dC : decide (cmpL (rs[j - 1]'(by omega)).xs rs[j].xs ≥ 0) = true := decide_eq_true (by omega)
                    have dC' : decide (0 ≤ cmpL (rs[j - 1]'(by omega)).xs rs[j].xs) = true := decide_eq_true (by omega)
                    have HT := Lib.hid (show meshAt xs.length (rs.map Row.xs) j = false by unfold meshAt; rw [hX, hX1, decide_eq_false hC, decide_eq_false (show ¬ j = 0 by omega)]; simp)
                    clear hc h2 hX hX1 hab hcc hOK hC q0 E5 E6
                    go_wp2
                    go_quiet ((go_at_call 82; exact quiet_rq (compareS_q _ _ _ _ _ _ (rs[j - 1]'(by omega)).xs rs[j].xs _ rfl H2.out q1 q2 (rp.drewN _) (rq.drewN _))))
                    all_goals go_wp2
                    all_goals (go_ret; exact ⟨ret_bool (by rw [meshB, meshTo_false (by simpa using hlt) HT.out, Bool.and_false]), below_dr hb (by first | with_reducible assumption | with_reducible exact hd | with_reducible exact Dr.drewN hd _ | with_reducible exact Dr.drewN (Dr.drewN hd _) _ | with_reducible exact Dr.drew hd)⟩)
          · have d2 : ((rs[j].xs.length : Int) != 2) = true := by simp; omega
            have HT := Lib.hid (show meshAt xs.length (rs.map Row.xs) j = false by unfold meshAt; rw [hX, Bool.and_eq_false_iff]; exact .inl (by rcases hq : boxOk xs.length rs[j].xs with _ | _ <;> first | rfl | exact absurd (boxOk_two hq) h2))
            clear hc h2 hX
            go_wp2
            go_quiet (fail)
            go_wp2
            go_ret
            exact ⟨ret_bool (by rw [meshB, meshTo_false (by simpa using hlt) HT.out, Bool.and_false]), below_dr hb (by first | with_reducible assumption | with_reducible exact hd | with_reducible exact Dr.drewN hd _ | with_reducible exact Dr.drewN (Dr.drewN hd _) _ | with_reducible exact Dr.drew hd)⟩
        · have HE := Lib.hid (show meshTo xs.length (rs.map Row.xs) (rs.map Row.xs).length = true by rw [List.length_map, show rs.length = j by omega]; exact HA.out)
          go_wp2
          go_ret
          exact ⟨ret_bool (by rw [meshB, HP.out, H4.out, HE.out]; rfl), below_dr hb (by first | with_reducible assumption | with_reducible exact hd | with_reducible exact Dr.drewN hd _ | with_reducible exact Dr.drewN (Dr.drewN hd _) _ | with_reducible exact Dr.drew hd)⟩
    · have H4 := Lib.hid (show decide (xs.length ≤ 4) = false from decide_eq_false h4)
      go_wp2
      go_ret
      exact ⟨ret_bool (by rw [meshB, H4.out, Bool.and_false, Bool.false_and]), hb⟩
  · have hpf : permB xs = false := by simpa using hp
    have HG := Lib.hid (show meshB xs (rs.map Row.xs) = false by rw [meshB, hpf, Bool.false_and, Bool.false_and])
    go_enter Try.func17, Try.ntmps17
    have hb0 : Below w.heap.size w (w.alloc (Obj.cells #[Value.slice A xs.length c, Value.slice B rs.length k] 27)) := (Below.refl _ _).alloc (Nat.le_refl _) _
    go_wp2_with fail
    (with_reducible refine (isPerm_impl A c xs _ (h.1.next hb0)).mono ?_)
    rintro e w1 ⟨rfl, hb1⟩
    rw [hpf]
    go_wp2
    go_ret
    exact ⟨ret_bool HG.out.symm, hb0.trans (hb1.mono hb0.size)⟩

set_option maxHeartbeats 2000000 in
theorem mesh_spec (A B : Option Addr) (c k : Nat) (xs : List Int) (rs : List Row) (w : World) (h : InM w A c xs B k rs) :
    Calls Try.prog 18 #[.agg #[.slice A xs.length c, .slice B rs.length k]] w (Rb w (.bool (meshB xs (rs.map Row.xs)))) := by
  have hlx := h.1.len
  have hly := h.2.len
  go_enter Try.func18, Try.ntmps18
  have hb : Below w.heap.size w (w.alloc (Obj.cells #[Value.slice A xs.length c, Value.slice B rs.length k] 27)) := (Below.refl _ _).alloc (Nat.le_refl _) _
  have ob := obj_new w (Obj.cells #[Value.slice A xs.length c, Value.slice B rs.length k] 27)
  go_wp2_with fail
  generalize (w.alloc (Obj.cells #[Value.slice A xs.length c, Value.slice B rs.length k] 27)) = w1 at hb ob ⊢
  have f0 : w1.cell? ⟨w.heap.size, 0, none⟩ = some (Value.slice A xs.length c) := (obj_cell ob).trans rfl
  have f1 : w1.cell? ⟨w.heap.size, 1, none⟩ = some (Value.slice B rs.length k) := (obj_cell ob).trans rfl
  go_loopw [3] (fun i wr => ∃ j : Nat, j ≤ rs.length ∧ i = .int .i64 j ∧ meshTo xs.length (rs.map Row.xs) j = true ∧ Dr w1 wr) (fun i _ => rs.length - (intOf i).toNat)
  case atStart => exact ⟨0, Nat.zero_le _, rfl, rfl, Dr.refl _⟩
  case round =>
    obtain ⟨j, hj, rfl, hall, hd⟩ := hrel
    have HA := Lib.hid hall
    have g0 : wr.cell? ⟨w.heap.size, 0, none⟩ = some (Value.slice A xs.length c) := (hd.cell _).trans f0
    have g1 : wr.cell? ⟨w.heap.size, 1, none⟩ = some (Value.slice B rs.length k) := (hd.cell _).trans f1
    by_cases hlt : j < rs.length
    · have hL := (h.2.next hb).dr hd
      obtain ⟨b, off, rfl, _, hc⟩ := hL.read.at (by omega)
      have c1 := hc j hlt
      have hX : (rs.map Row.xs)[j]?.getD [] = rs[j].xs := by simp [hlt]
      by_cases h2 : rs[j].xs.length = 2
      · obtain ⟨a, bb, hab⟩ : ∃ a bb, rs[j].xs = [a, bb] := by
          match hq : rs[j].xs, h2 with
          | [a, bb], _ => exact ⟨a, bb, rfl⟩
        have hrow := (hL.row (List.getElem_mem hlt)).rd
        rw [hab] at hrow
        obtain ⟨rb, ro, hA', _, hcc⟩ := hrow (by simp)
        have e0 : wr.cell? ⟨rb, ro, none⟩ = some (.int .i64 a) := hcc 0 (by simp)
        have e1 : wr.cell? ⟨rb, ro + 1, none⟩ = some (.int .i64 bb) := hcc 1 (by simp)
        rw [hA', h2] at c1
        have hB : boxOk xs.length rs[j].xs = decide (0 ≤ a ∧ a ≤ (xs.length : Int) ∧ 0 ≤ bb ∧ bb ≤ (xs.length : Int)) := by rw [hab]; rfl
        by_cases ha : 0 ≤ a ∧ a ≤ (xs.length : Int)
        · have da : decide (0 ≤ a ∧ a ≤ (xs.length : Int)) = true := decide_eq_true ha
          by_cases hbx : 0 ≤ bb ∧ bb ≤ (xs.length : Int)
          · have db : decide (0 ≤ bb ∧ bb ≤ (xs.length : Int)) = true := decide_eq_true hbx
            have hOK : boxOk xs.length rs[j].xs = true := by rw [hB]; exact decide_eq_true (by omega)
            have Ha := Lib.hid da
            have Hb := Lib.hid db
            rcases Nat.eq_zero_or_pos j with h0 | h0
            · subst h0
              have HT := Lib.hid (show meshTo xs.length (rs.map Row.xs) (0 + 1) = true by rw [meshTo_succ, HA.out]; unfold meshAt; rw [hX, hOK]; rfl)
              have c1' : wr.cell? ⟨b, off, none⟩ = some (Value.slice (some ⟨rb, ro, none⟩) 2 rs[0].c) := c1
              clear hc h2 hX hB hab hcc hOK ha hbx da db hall
              go_wp2
              go_quiet ((first | (go_at_call 87; with_reducible show Calls _ _ #[Value.int IntKind.i64 a, _, _] _ _; exact quiet_eq (l1In_b a 0 (xs.length : Int) _ true Ha.out)) | (go_at_call 87; exact quiet_eq (l1In_b bb 0 (xs.length : Int) _ true Hb.out))))
              go_wp2
              go_roundw
              case rel => exact ⟨1, by omega, rfl, HT.out, (by first | with_reducible assumption | with_reducible exact hd | with_reducible exact Dr.drewN hd _ | with_reducible exact Dr.drewN (Dr.drewN hd _) _ | with_reducible exact Dr.drew hd)⟩
              case measure => simp [intOf]; omega
            · have c2 := hc (j - 1) (by omega)
              have hX1 : (rs.map Row.xs)[j - 1]?.getD [] = (rs[j - 1]'(by omega)).xs := by simp [show j - 1 < rs.length by omega]
              have hp2 : (rs[j - 1]'(by omega)).xs.length = 2 := by
                rw [show j = j - 1 + 1 by omega, meshTo_succ, Bool.and_eq_true] at hall
                have := hall.2
                unfold meshAt at this
                rw [hX1, Bool.and_eq_true] at this
                exact boxOk_two this.1
              have hbf : before (rs[j - 1]'(by omega)).xs rs[j].xs = decide (cmpL (rs[j - 1]'(by omega)).xs rs[j].xs < 0) := by unfold before; rw [if_pos (hp2.trans h2.symm)]
              have rp := (hL.row (List.getElem_mem (show j - 1 < rs.length by omega))).rd
              have q1 : (rs[j - 1]'(by omega)).xs.length ≤ 4611686018427387904 := by omega
              have rq := (hL.row (List.getElem_mem hlt)).rd
              rw [hA'] at rq
              have E1 : IntKind.i64.wrap ((j : Int) - 1) = (j : Int) - 1 := IntWalk.i64_in _ (by omega)
              have E2 : ((j : Int) - 1).toNat = j - 1 := by omega
              have E3 : 0 ≤ (j : Int) - 1 := by omega
              have E4 : (j : Int) - 1 < (rs.length : Int) := by omega
              have d0 : decide ((j : Int) > 0) = true := decide_eq_true (by omega)
              have d0' : decide (0 < (j : Int)) = true := decide_eq_true (by omega)
              have H2 := Lib.hid h2
              have q2 : (2 : Nat) ≤ 4611686018427387904 := by omega
              by_cases hC : cmpL (rs[j - 1]'(by omega)).xs rs[j].xs < 0
              · have dC : before (rs[j - 1]'(by omega)).xs rs[j].xs = true := by rw [hbf]; exact decide_eq_true hC
                have HT := Lib.hid (show meshTo xs.length (rs.map Row.xs) (j + 1) = true by rw [meshTo_succ, HA.out]; unfold meshAt; rw [hX, hX1, hOK, decide_eq_true hC, Bool.or_true]; rfl)
                clear hc h2 hX hX1 hB hab hcc hOK ha hbx da db hall hC hbf hp2
                go_wp2
                go_quiet ((first | (go_at_call 87; with_reducible show Calls _ _ #[Value.int IntKind.i64 a, _, _] _ _; exact quiet_eq (l1In_b a 0 (xs.length : Int) _ true Ha.out)) | (go_at_call 87; exact quiet_eq (l1In_b bb 0 (xs.length : Int) _ true Hb.out)) | (go_at_call 88; exact quiet_rq (l2Before_any _ _ _ _ _ _ (rs[j - 1]'(by omega)).xs rs[j].xs _ rfl H2.out q1 q2 (rp.drewN _) (rq.drewN _)))))
                go_wp2
                go_roundw
                case rel => exact ⟨j + 1, by omega, by go_num, HT.out, (by first | with_reducible assumption | with_reducible exact hd | with_reducible exact Dr.drewN hd _ | with_reducible exact Dr.drewN (Dr.drewN hd _) _ | with_reducible exact Dr.drew hd)⟩
                case measure => simp [intOf]; omega
              · have dC : before (rs[j - 1]'(by omega)).xs rs[j].xs = false := by rw [hbf]; exact decide_eq_false hC
                have HT := Lib.hid (show meshAt xs.length (rs.map Row.xs) j = false by unfold meshAt; rw [hX, hX1, decide_eq_false hC, decide_eq_false (show ¬ j = 0 by omega)]; simp)
                clear hc h2 hX hX1 hB hab hcc hOK ha hbx da db hall hC hbf hp2
                go_wp2
                go_quiet ((first | (go_at_call 87; with_reducible show Calls _ _ #[Value.int IntKind.i64 a, _, _] _ _; exact quiet_eq (l1In_b a 0 (xs.length : Int) _ true Ha.out)) | (go_at_call 87; exact quiet_eq (l1In_b bb 0 (xs.length : Int) _ true Hb.out)) | (go_at_call 88; exact quiet_rq (l2Before_any _ _ _ _ _ _ (rs[j - 1]'(by omega)).xs rs[j].xs _ rfl H2.out q1 q2 (rp.drewN _) (rq.drewN _)))))
                go_wp2
                go_ret
                exact ⟨ret_bool (by rw [meshB, meshTo_false (by simpa using hlt) HT.out, Bool.and_false]), below_dr hb (by first | with_reducible assumption | with_reducible exact hd | with_reducible exact Dr.drewN hd _ | with_reducible exact Dr.drewN (Dr.drewN hd _) _ | with_reducible exact Dr.drew hd)⟩
          · have db : decide (0 ≤ bb ∧ bb ≤ (xs.length : Int)) = false := decide_eq_false hbx
            have Ha := Lib.hid da
            have Hb := Lib.hid db
            have HT := Lib.hid (show meshAt xs.length (rs.map Row.xs) j = false by unfold meshAt; rw [hX, Bool.and_eq_false_iff, hB]; exact .inl (decide_eq_false (by omega)))
            clear hc h2 hX hB hab hcc ha hbx da db hall
            go_wp2
            go_quiet ((first | (go_at_call 87; with_reducible show Calls _ _ #[Value.int IntKind.i64 a, _, _] _ _; exact quiet_eq (l1In_b a 0 (xs.length : Int) _ true Ha.out)) | (go_at_call 87; exact quiet_eq (l1In_b bb 0 (xs.length : Int) _ false Hb.out))))
            go_wp2
            go_ret
            exact ⟨ret_bool (by rw [meshB, meshTo_false (by simpa using hlt) HT.out, Bool.and_false]), below_dr hb (by first | with_reducible assumption | with_reducible exact hd | with_reducible exact Dr.drewN hd _ | with_reducible exact Dr.drewN (Dr.drewN hd _) _ | with_reducible exact Dr.drew hd)⟩
        · have da : decide (0 ≤ a ∧ a ≤ (xs.length : Int)) = false := decide_eq_false ha
          have Ha := Lib.hid da
          have HT := Lib.hid (show meshAt xs.length (rs.map Row.xs) j = false by unfold meshAt; rw [hX, Bool.and_eq_false_iff, hB]; exact .inl (decide_eq_false (by omega)))
          clear hc h2 hX hB hab hcc ha da hall
          go_wp2
          go_quiet ((go_at_call 87; with_reducible show Calls _ _ #[Value.int IntKind.i64 a, _, _] _ _; exact quiet_eq (l1In_b a 0 (xs.length : Int) _ false Ha.out)))
          go_wp2
          go_ret
          exact ⟨ret_bool (by rw [meshB, meshTo_false (by simpa using hlt) HT.out, Bool.and_false]), below_dr hb (by first | with_reducible assumption | with_reducible exact hd | with_reducible exact Dr.drewN hd _ | with_reducible exact Dr.drewN (Dr.drewN hd _) _ | with_reducible exact Dr.drew hd)⟩
      · have d2 : ((rs[j].xs.length : Int) != 2) = true := by simp; omega
        have HT := Lib.hid (show meshAt xs.length (rs.map Row.xs) j = false by unfold meshAt; rw [hX, Bool.and_eq_false_iff]; exact .inl (by rcases hq : boxOk xs.length rs[j].xs with _ | _ <;> first | rfl | exact absurd (boxOk_two hq) h2))
        clear hc h2 hX hall
        go_wp2
        go_quiet (fail)
        go_wp2
        go_ret
        exact ⟨ret_bool (by rw [meshB, meshTo_false (by simpa using hlt) HT.out, Bool.and_false]), below_dr hb (by first | with_reducible assumption | with_reducible exact hd | with_reducible exact Dr.drewN hd _ | with_reducible exact Dr.drewN (Dr.drewN hd _) _ | with_reducible exact Dr.drew hd)⟩
    · have HE := Lib.hid (show meshTo xs.length (rs.map Row.xs) (rs.map Row.xs).length = true by rw [List.length_map, show rs.length = j by omega]; exact HA.out)
      have hbr := below_dr hb hd
      clear hall
      go_wp2_with fail
      (with_reducible refine (isPerm_spec A c xs _ (h.1.next hbr)).mono ?_)
      rintro e w2 ⟨rfl, hd2⟩
      have gq : w2.cell? ⟨w.heap.size, 0, none⟩ = some (Value.slice A xs.length c) := (hd2.cell _).trans g0
      by_cases hp : permB xs = true
      · have HP := Lib.hid hp
        rw [hp]
        clear hp
        have hD : decide ((xs.length : Int) ≤ 4) = decide (xs.length ≤ 4) := by rw [Bool.eq_iff_iff]; simp; omega
        have HD := Lib.hid hD
        clear hD
        go_wp2
        go_ret
        exact ⟨ret_bool (by rw [meshB, HP.out, HE.out, Bool.true_and, Bool.and_true]; first | exact HD.out | (simp; done) | (simp; omega)), below_dr hbr hd2⟩
      · have hpf : permB xs = false := by simpa using hp
        have HP := Lib.hid hpf
        rw [hpf]
        clear hp hpf
        go_wp2
        go_ret
        exact ⟨ret_bool (by rw [meshB, HP.out, Bool.false_and, Bool.false_and]), below_dr hbr hd2⟩
end Go.Proofs.Ythipikllgpnlhaa

/- Meshes: plain facts (as in B1 and CS, for seats without CountMesh and CanShade). -/
namespace Go.Proofs.Ythipikllgpnlhaa
set_option maxRecDepth 100000
open Go Go.RowKit

theorem mesh_perm {xs : List Int} {X : List (List Int)} (h : meshB xs X = true) : permB xs = true ∧ xs.length ≤ 4 := by
  unfold meshB at h
  simp only [Bool.and_eq_true, decide_eq_true_eq] at h
  exact h.1
theorem mesh_two {xs : List Int} {X : List (List Int)} (h : meshB xs X = true) : ∀ s ∈ X, s.length = 2 := fun s hs => by
  unfold meshB at h
  rw [Bool.and_eq_true] at h
  obtain ⟨i, hi, rfl⟩ := List.mem_iff_getElem.1 hs
  have := List.all_eq_true.1 h.2 i (List.mem_range.2 hi)
  unfold meshAt at this
  rw [List.getElem?_eq_getElem hi, Bool.and_eq_true] at this
  exact boxOk_two this.1

theorem mesh_ib (A B : Option Addr) (c k : Nat) (xs : List Int) (rs : List Row) (w : World) (b : Bool) (h : InM w A c xs B k rs) (hb : meshB xs (rs.map Row.xs) = b) : Calls Try.prog 17 #[.agg #[.slice A xs.length c, .slice B rs.length k]] w (Rb w (.bool b)) := by
  subst hb; exact mesh_impl A B c k xs rs w h
theorem mesh_sb (A B : Option Addr) (c k : Nat) (xs : List Int) (rs : List Row) (w : World) (b : Bool) (h : InM w A c xs B k rs) (hb : meshB xs (rs.map Row.xs) = b) : Calls Try.prog 18 #[.agg #[.slice A xs.length c, .slice B rs.length k]] w (Rb w (.bool b)) := by
  subst hb; exact mesh_spec A B c k xs rs w h
theorem rows_two {rs : List Row} {xs : List Int} (h : meshB xs (rs.map Row.xs) = true) : ∀ r ∈ rs, r.xs.length = 2 := fun r hr => mesh_two h _ (List.mem_map.2 ⟨r, hr, rfl⟩)

theorem mesh_at {xs : List Int} {X : List (List Int)} (h : meshB xs X = true) (i : Nat) (hi : i < X.length) : boxOk xs.length X[i] = true ∧ (i = 0 ∨ cmpL (X[i - 1]?.getD []) X[i] < 0) := by
  unfold meshB at h
  rw [Bool.and_eq_true] at h
  have := List.all_eq_true.1 h.2 i (List.mem_range.2 hi)
  unfold meshAt at this
  rw [List.getElem?_eq_getElem hi, Bool.and_eq_true, Bool.or_eq_true, decide_eq_true_eq, decide_eq_true_eq] at this
  exact this
theorem pairwise_step {X : List (List Int)} (h : ∀ i (hi : i + 1 < X.length), before (X[i]'(by omega)) X[i + 1] = true) : Srt X := by
  unfold Srt
  rw [List.pairwise_iff_getElem]
  intro i j hi hj hij
  induction j with
  | zero => omega
  | succ j ih =>
    by_cases e : i = j
    · subst e; exact h i hj
    · exact before_trans (ih (by omega) (by omega)) (h j hj)
theorem mesh_srt {xs : List Int} {X : List (List Int)} (h : meshB xs X = true) : Srt X := by
  apply pairwise_step
  intro i hi
  have h2 := mesh_two h
  have e1 : X[i].length = X[i + 1].length := by rw [h2 _ (List.getElem_mem _), h2 _ (List.getElem_mem _)]
  unfold before
  rw [if_pos e1]
  have := (mesh_at h (i + 1) hi).2
  rw [Nat.add_sub_cancel, List.getElem?_eq_getElem (by omega)] at this
  rcases this with h0 | h0
  · omega
  · exact decide_eq_true h0
/-- The number of a box. -/
def boxN (s : List Int) : Int := 5 * (s[0]?.getD 0) + s[1]?.getD 0
theorem mesh_len {xs : List Int} {X : List (List Int)} (h : meshB xs X = true) : X.length ≤ 25 := by
  have h4 := (mesh_perm h).2
  have hb : ∀ i (hi : i < X.length), ∃ a b, X[i] = [a, b] ∧ 0 ≤ a ∧ a ≤ 4 ∧ 0 ≤ b ∧ b ≤ 4 := by
    intro i hi
    have h1 := (mesh_at h i hi).1
    have h2 := mesh_two h X[i] (List.getElem_mem hi)
    match hx : X[i], h2 with
    | [a, b], _ =>
      rw [hx] at h1
      simp only [boxOk, decide_eq_true_eq] at h1
      exact ⟨a, b, rfl, by omega, by omega, by omega, by omega⟩
  have hge : ∀ i (hi : i < X.length), (i : Int) ≤ boxN X[i] := by
    intro i
    induction i with
    | zero =>
      intro hi
      obtain ⟨a, b, e, _⟩ := hb 0 hi
      rw [e]; simp [boxN]; omega
    | succ i ih =>
      intro hi
      have h1 := ih (by omega)
      obtain ⟨a, b, e, ha⟩ := hb i (by omega)
      obtain ⟨a', b', e', ha'⟩ := hb (i + 1) hi
      have hs := List.pairwise_iff_getElem.1 (mesh_srt h) i (i + 1) (by omega) hi (by omega)
      rw [e] at h1 hs
      rw [e'] at hs ⊢
      simp only [boxN, List.getElem?_cons_zero, List.getElem?_cons_succ, Option.getD_some] at h1 ⊢
      have hs' : cmpL [a, b] [a', b'] < 0 := of_decide_eq_true (by simpa [before] using hs)
      simp only [cmpL] at hs'
      split at hs'
      · omega
      · split at hs'
        · omega
        · split at hs'
          · omega
          · split at hs' <;> omega
  rcases Nat.eq_zero_or_pos X.length with h0 | h0
  · omega
  · have h1 := hge (X.length - 1) (by omega)
    obtain ⟨a, b, e, ha⟩ := hb (X.length - 1) (by omega)
    rw [e] at h1
    simp only [boxN, List.getElem?_cons_zero, List.getElem?_cons_succ, Option.getD_some] at h1
    omega

end Go.Proofs.Ythipikllgpnlhaa

/- Counting the occurrences of a mesh: isShaded, isFree, count; l9Box, l9Fits, l9Count; CountMesh. -/
namespace Go.Proofs.Ythipikllgpnlhaa
set_option maxRecDepth 100000
open Go Go.RowKit

def shB (X : List (List Int)) (x y : Int) : Bool := X.any fun s => decide (s = [x, y])

theorem call_sh (args : Array Value) (w : World) : (callFunc 131 args).run Try.prog w = .ok (.enter 131 args) w := by kernel_rfl
set_option maxHeartbeats 1000000 in
theorem sh_cl (A : Option Addr) (c g g2 : Nat) (s : List Int) (x y : Int) (w : World) (hs : In w A c s) (h2 : s.length = 2) (hg : w.cell? ⟨g, 0, none⟩ = some (.int .i64 x)) (hg2 : w.cell? ⟨g2, 0, none⟩ = some (.int .i64 y)) :
    Calls Try.prog 131 #[.slice A s.length c, .pointer (some ⟨g, 0, none⟩), .pointer (some ⟨g2, 0, none⟩)] w (Rb w (.bool (decide (s = [x, y])))) := by
  obtain ⟨a, b, rfl⟩ : ∃ a b, s = [a, b] := by
    match s, h2 with
    | [a, b], _ => exact ⟨a, b, rfl⟩
  obtain ⟨bl, off, rfl, _, hc⟩ := hs.rd (by simp)
  have c0 : w.cell? ⟨bl, off, none⟩ = some (.int .i64 a) := hc 0 (by simp)
  have c1 : w.cell? ⟨bl, off + 1, none⟩ = some (.int .i64 b) := hc 1 (by simp)
  have c00 : w.cell? ⟨bl, off + 0, none⟩ = some (.int .i64 a) := hc 0 (by simp)
  clear hc h2
  by_cases hax : a = x
  · have HD := Lib.hid (show decide ([a, b] = [x, y]) = (b == y) by rw [Bool.eq_iff_iff]; simp [hax])
    have dx : (a == x) = true := by simp [hax]
    clear hax
    go_enter Try.func131, Try.ntmps131
    go_wp2_with fail
    go_quiet (fail)
    go_wp2_with fail
    go_ret
    exact ⟨ret_bool HD.out.symm, below_dr (Below.refl _ _) (by first | with_reducible exact Dr.of _ _ | with_reducible exact Dr.of2 _ _ _ | with_reducible exact Dr.refl _ | with_reducible exact Dr.of3 _ _ _)⟩
  · have HD := Lib.hid (show decide ([a, b] = [x, y]) = false by simp [hax])
    have dx : (a == x) = false := by simp [hax]
    clear hax
    go_enter Try.func131, Try.ntmps131
    go_wp2_with fail
    go_quiet (fail)
    go_wp2_with fail
    go_ret
    exact ⟨ret_bool HD.out.symm, below_dr (Below.refl _ _) (by first | with_reducible exact Dr.of _ _ | with_reducible exact Dr.of2 _ _ _ | with_reducible exact Dr.refl _ | with_reducible exact Dr.of3 _ _ _)⟩
set_option maxHeartbeats 2000000 in
theorem isShaded_b (A B : Option Addr) (c k : Nat) (xs : List Int) (rs : List Row) (x y : Int) (w : World) (b : Bool) (h : InM w A c xs B k rs) (h2 : ∀ r ∈ rs, r.xs.length = 2) (hb : shB (rs.map Row.xs) x y = b) :
    Calls Try.prog 116 #[.agg #[.slice A xs.length c, .slice B rs.length k], .int .i64 x, .int .i64 y] w (Rb w (.bool b)) := by
  have hmf : ∀ (fn : Fn) (first cap : Array Value) (w : World), (Instr.makeFunc fn first cap).run Try.prog w = .ok (.func fn first cap) w := fun _ _ _ _ => rfl
  have HB := Lib.hid (show (rs.any fun r : Row => decide (r.xs = [x, y])) = b by rw [any_rows rs (fun s => decide (s = [x, y])), ← hb]; rfl)
  have hlen := h.2.len
  clear hb
  go_enter Try.func116, Try.ntmps116
  have hb0 : Below w.heap.size w (((w.alloc (Obj.cells #[Value.slice A xs.length c, Value.slice B rs.length k] 27)).alloc (Obj.cells #[.int .i64 x] 3)).alloc (Obj.cells #[.int .i64 y] 3)) :=
    (((Below.refl _ _).alloc (Nat.le_refl _) _).alloc (by simp) _).alloc (by simp; omega) _
  have o0 := obj_alloc (obj_alloc (obj_new w (Obj.cells #[Value.slice A xs.length c, Value.slice B rs.length k] 27)) (Obj.cells #[.int .i64 x] 3)) (Obj.cells #[.int .i64 y] 3)
  have o1 := obj_alloc (obj_new (w.alloc (Obj.cells #[Value.slice A xs.length c, Value.slice B rs.length k] 27)) (Obj.cells #[.int .i64 x] 3)) (Obj.cells #[.int .i64 y] 3)
  have o2 := obj_new ((w.alloc (Obj.cells #[Value.slice A xs.length c, Value.slice B rs.length k] 27)).alloc (Obj.cells #[.int .i64 x] 3)) (Obj.cells #[.int .i64 y] 3)
  simp only [World.size_alloc] at o1 o2
  have hz : (((w.alloc (Obj.cells #[Value.slice A xs.length c, Value.slice B rs.length k] 27)).alloc (Obj.cells #[.int .i64 x] 3)).alloc (Obj.cells #[.int .i64 y] 3)).heap.size = w.heap.size + 1 + 1 + 1 := by simp
  go_wp2_with fail
  generalize (((w.alloc (Obj.cells #[Value.slice A xs.length c, Value.slice B rs.length k] 27)).alloc (Obj.cells #[.int .i64 x] 3)).alloc (Obj.cells #[.int .i64 y] 3)) = w0 at hb0 o0 o1 o2 hz ⊢
  have hL := h.2.next hb0
  refine (containsFuncL2 B k rs 131 (w.heap.size + 1) (w.heap.size + 1 + 1) (fun s => decide (s = [x, y])) w0 (by omega) hL.read (fun args w' => call_sh args w') (fun w' j hj hb => ?_) b HB.out).mono ?_
  · exact sh_cl rs[j].A rs[j].c _ _ rs[j].xs x y w' ((hL.next hb).row (List.getElem_mem hj)) (h2 _ (List.getElem_mem hj)) ((obj_cell (obj_below o1 hb (by omega))).trans rfl) ((obj_cell (obj_below o2 hb (by omega))).trans rfl)
  · rintro e w1 ⟨rfl, hb1⟩
    go_wp2_with fail
    go_ret
    exact ⟨rfl, hb0.trans (hb1.mono hb0.size)⟩
/-- The column and the row of a place (counted from 1) for an occurrence. -/
def colN (l : List Int) (a : Int) : Nat := (l.filter fun k => decide (k < a)).length
def rowN (p l : List Int) (v : Int) : Nat := (l.filter fun k => decide (nth p (k - 1) < v)).length
def freeAt (p l : List Int) (X : List (List Int)) (i : Nat) : Bool := decide (((i : Int) + 1) ∈ l) || !shB X (colN l ((i : Int) + 1)) (rowN p l (nth p i))
def freeTo (p l : List Int) (X : List (List Int)) (k : Nat) : Bool := (List.range k).all (freeAt p l X)
theorem freeTo_succ (p l : List Int) (X : List (List Int)) (k : Nat) : freeTo p l X (k + 1) = (freeTo p l X k && freeAt p l X k) := by simp [freeTo, List.range_succ]
theorem freeTo_false {p l : List Int} {X : List (List Int)} {k m : Nat} (h : k < m) (h1 : freeAt p l X k = false) : freeTo p l X m = false := by
  unfold freeTo
  rw [List.all_eq_false]
  exact ⟨k, List.mem_range.2 h, by simp [h1]⟩
def freeB (p l : List Int) (X : List (List Int)) : Bool := freeTo p l X p.length
theorem colN_cnt (l : List Int) (a : Int) : cntTo (fun k => decide (k < a)) l l.length = colN l a := cntTo_all _ _
theorem rowN_cnt (p l : List Int) (v : Int) : cntTo (fun k => decide (nth p (k - 1) < v)) l l.length = rowN p l v := cntTo_all _ _
theorem cntTo_yes {α : Type} {H : α → Bool} {l : List α} {k : Nat} (h : k < l.length) (hh : H l[k] = true) : cntTo H l (k + 1) = cntTo H l k + 1 := by rw [cntTo_succ H l k h, if_pos hh]
theorem cntTo_no {α : Type} {H : α → Bool} {l : List α} {k : Nat} (h : k < l.length) (hh : H l[k] = false) : cntTo H l (k + 1) = cntTo H l k := by rw [cntTo_succ H l k h, if_neg (by simp [hh]), Nat.add_zero]

set_option maxHeartbeats 8000000 in
theorem isFree_b (A B : Option Addr) (c k : Nat) (xs : List Int) (rs : List Row) (C D : Option Addr) (e f : Nat) (p l : List Int) (w : World) (b : Bool) (h : InM w A c xs B k rs) (h2 : ∀ r ∈ rs, r.xs.length = 2) (hp : In w C e p) (hl : In w D f l) (hp8 : p.length ≤ 8) (hl8 : l.length ≤ 8)
    (hm : ∀ x ∈ l, 1 ≤ x ∧ x ≤ p.length) (hb : freeB p l (rs.map Row.xs) = b) :
    Calls Try.prog 123 #[.agg #[.slice A xs.length c, .slice B rs.length k], .slice C p.length e, .slice D l.length f] w (Rb w (.bool b)) := by
  have HB := Lib.hid hb
  clear hb
  go_enter Try.func123, Try.ntmps123
  have hb0 : Below w.heap.size w (w.alloc (Obj.cells #[Value.slice A xs.length c, Value.slice B rs.length k] 27)) := (Below.refl _ _).alloc (Nat.le_refl _) _
  have ob := obj_new w (Obj.cells #[Value.slice A xs.length c, Value.slice B rs.length k] 27)
  go_wp2_with fail
  generalize (w.alloc (Obj.cells #[Value.slice A xs.length c, Value.slice B rs.length k] 27)) = w0 at hb0 ob ⊢
  go_loopw [15] (fun i wr => ∃ j : Nat, j ≤ p.length ∧ i = .int .i64 j ∧ Hid (freeTo p l (rs.map Row.xs) j = true) ∧ wr.heap[w.heap.size]? = some (Obj.cells #[Value.slice A xs.length c, Value.slice B rs.length k] 27) ∧ Below w.heap.size w wr) (fun i _ => p.length - (intOf i).toNat)
  case atStart => exact ⟨0, Nat.zero_le _, rfl, Lib.hid rfl, ob, hb0⟩
  case round =>
    clear hb0 ob
    obtain ⟨j, hj, rfl, HF, ob, hb⟩ := hrel
    rcases Nat.lt_or_ge j p.length with hlt | hge
    · obtain ⟨bp, op, rfl, _, hcp⟩ := (hp.next hb).rd (by omega)
      have cp := hcp j hlt
      have hl1 := (hl.next hb).rd
      have HS := Lib.hid (freeTo_succ p l (rs.map Row.xs) j)
      have hnj : nth p (j : Int) = p[j] := by unfold nth; rw [Int.toNat_natCast, List.getElem?_eq_getElem hlt]; rfl
      have HNJ := Lib.hid hnj
      clear hnj
      go_wp2_with fail
      by_cases hmem : ((j : Int) + 1) ∈ l
      · have HT := Lib.hid (show freeTo p l (rs.map Row.xs) (j + 1) = true by rw [HS.out, HF.out]; unfold freeAt; rw [decide_eq_true hmem]; rfl)
        (with_reducible refine (contains_b D f l.length l ((j : Int) + 1) wr true rfl (by omega) hl1 (decide_eq_true hmem)).mono ?_)
        rintro e w' ⟨rfl, rfl⟩
        clear hmem
        go_wp2_with fail
        go_roundw
        case rel => exact ⟨j + 1, by omega, by go_num, HT, ob, hb⟩
        case measure => simp [intOf]; omega
      · have HFA := Lib.hid (show freeAt p l (rs.map Row.xs) j = !shB (rs.map Row.xs) (colN l ((j : Int) + 1)) (rowN p l p[j]) by unfold freeAt; rw [decide_eq_false hmem, HNJ.out]; rfl)
        (with_reducible refine (contains_b D f l.length l ((j : Int) + 1) wr false rfl (by omega) hl1 (decide_eq_false hmem)).mono ?_)
        rintro e w' ⟨rfl, rfl⟩
        clear hmem
        obtain ⟨wo, rfl⟩ : ∃ wo : World, wo = wr := ⟨_, rfl⟩
        go_wp2_with fail
        go_loopw [9, 10, 26] (fun x y i wr => ∃ u : Nat, u ≤ l.length ∧ i = .int .i64 u ∧ x = .int .i64 (cntTo (fun k => decide (k < (j : Int) + 1)) l u : Nat) ∧ y = .int .i64 (cntTo (fun k => decide (nth p (k - 1) < p[j])) l u : Nat) ∧ wr = wo) (fun _ _ i _ => l.length - (intOf i).toNat)
        case atStart => exact ⟨0, Nat.zero_le _, rfl, rfl, rfl, rfl⟩
        case round =>
          obtain ⟨u, hu, rfl, rfl, rfl, rfl⟩ := hrel
          have hx1 := cntTo_le (fun k => decide (k < (j : Int) + 1)) l u
          have hy1 := cntTo_le (fun k => decide (nth p (k - 1) < p[j])) l u
          rcases Nat.lt_or_ge u l.length with hul | hug
          · obtain ⟨bl, ol, rfl, _, hcl⟩ := hl1 (by omega)
            have hxl := hm l[u] (List.getElem_mem hul)
            obtain ⟨cu, hcu⟩ : ∃ cu : Nat, (cu : Int) + 1 = l[u] := ⟨(l[u] - 1).toNat, by omega⟩
            have hcup : cu < p.length := by omega
            have g1 := hcl u hul
            have g2 := hcp cu hcup
            rw [← hcu] at g1
            have HX := Lib.hid (show decide (l[u] < (j : Int) + 1) = decide ((cu : Int) + 1 < (j : Int) + 1) by rw [hcu])
            have HY := Lib.hid (show decide (nth p (l[u] - 1) < p[j]) = decide (p[cu] < p[j]) by
              rw [← hcu]; unfold nth; rw [Int.add_sub_cancel, Int.toNat_natCast, List.getElem?_eq_getElem hcup]; rfl)
            have e1 : IntKind.i64.wrap ((cu : Int) + 1 - 1) = (cu : Int) := by rw [Int.add_sub_cancel]; exact IntWalk.i64_in _ (by omega)
            clear hcl hxl hcu
            by_cases hx : (cu : Int) + 1 < (j : Int) + 1
            · have KX := Lib.hid (cntTo_yes (H := fun k => decide (k < (j : Int) + 1)) hul (by show decide (l[u] < (j : Int) + 1) = true; rw [HX.out]; exact decide_eq_true hx))
              by_cases hy : p[cu] < p[j]
              · have KY := Lib.hid (cntTo_yes (H := fun k => decide (nth p (k - 1) < p[j])) hul (by show decide (nth p (l[u] - 1) < p[j]) = true; rw [HY.out]; exact decide_eq_true hy))
                go_wp2_with fail
                go_roundw
                case rel => exact ⟨u + 1, by omega, by go_num, by rw [KX.out]; all_goals go_num, by rw [KY.out]; all_goals go_num, trivial⟩
                case measure => simp [intOf]; omega
              · have KY := Lib.hid (cntTo_no (H := fun k => decide (nth p (k - 1) < p[j])) hul (by show decide (nth p (l[u] - 1) < p[j]) = false; rw [HY.out]; exact decide_eq_false hy))
                go_wp2_with fail
                go_roundw
                case rel => exact ⟨u + 1, by omega, by go_num, by rw [KX.out]; all_goals go_num, by rw [KY.out], trivial⟩
                case measure => simp [intOf]; omega
            · have KX := Lib.hid (cntTo_no (H := fun k => decide (k < (j : Int) + 1)) hul (by show decide (l[u] < (j : Int) + 1) = false; rw [HX.out]; exact decide_eq_false hx))
              by_cases hy : p[cu] < p[j]
              · have KY := Lib.hid (cntTo_yes (H := fun k => decide (nth p (k - 1) < p[j])) hul (by show decide (nth p (l[u] - 1) < p[j]) = true; rw [HY.out]; exact decide_eq_true hy))
                go_wp2_with fail
                go_roundw
                case rel => exact ⟨u + 1, by omega, by go_num, by rw [KX.out], by rw [KY.out]; all_goals go_num, trivial⟩
                case measure => simp [intOf]; omega
              · have KY := Lib.hid (cntTo_no (H := fun k => decide (nth p (k - 1) < p[j])) hul (by show decide (nth p (l[u] - 1) < p[j]) = false; rw [HY.out]; exact decide_eq_false hy))
                go_wp2_with fail
                go_roundw
                case rel => exact ⟨u + 1, by omega, by go_num, by rw [KX.out], by rw [KY.out], trivial⟩
                case measure => simp [intOf]; omega
          · obtain rfl : u = l.length := by omega
            have KX := Lib.hid (colN_cnt l ((j : Int) + 1))
            have KY := Lib.hid (rowN_cnt p l p[j])
            rw [KX.out, KY.out]
            have f0 : wr.cell? ⟨w.heap.size, 0, none⟩ = some (Value.slice A xs.length c) := (obj_cell ob).trans rfl
            have f1 : wr.cell? ⟨w.heap.size, 1, none⟩ = some (Value.slice B rs.length k) := (obj_cell ob).trans rfl
            have hM : InM wr A c xs B k rs := h.next hb
            go_wp2_with fail
            by_cases hs : shB (rs.map Row.xs) (colN l ((j : Int) + 1)) (rowN p l p[j]) = true
            · have HE := Lib.hid (show freeB p l (rs.map Row.xs) = false from freeTo_false hlt (by rw [HFA.out, hs]; rfl))
              (with_reducible refine (isShaded_b A B c k xs rs _ _ wr true hM h2 hs).mono ?_)
              rintro e w1 ⟨rfl, hb1⟩
              clear hs
              go_wp2_with fail
              go_ret
              exact ⟨ret_bool (by rw [← HB.out, HE.out]), hb.trans (hb1.mono hb.size)⟩
            · have hsf : shB (rs.map Row.xs) (colN l ((j : Int) + 1)) (rowN p l p[j]) = false := by simpa using hs
              have HT := Lib.hid (show freeTo p l (rs.map Row.xs) (j + 1) = true by rw [HS.out, HF.out, HFA.out, hsf]; rfl)
              (with_reducible refine (isShaded_b A B c k xs rs _ _ wr false hM h2 hsf).mono ?_)
              rintro e w1 ⟨rfl, hb1⟩
              have ob1 := obj_below ob hb1 (obj_lt ob)
              clear hs hsf
              go_wp2_with fail
              go_roundw
              case rel => exact ⟨j + 1, by omega, by go_num, HT, ob1, hb.trans (hb1.mono hb.size)⟩
              case measure => simp [intOf]; omega
    · obtain rfl : j = p.length := by omega
      go_wp2_with fail
      go_ret
      exact ⟨ret_bool (by rw [← HB.out]; exact HF.out.symm), hb⟩
def cntM (p q : List Int) (X : List (List Int)) : Nat := ((occI p q).filter fun l => freeB p l X).length
def cmG (p xs : List Int) (X : List (List Int)) : Int := if permB p = true ∧ meshB xs X = true then (cntM p xs X : Int) else -1
theorem cntM_le {p q : List Int} {X : List (List Int)} (hp8 : p.length ≤ 8) (hq8 : q.length ≤ 8) : cntM p q X ≤ 16777216 := by
  unfold cntM
  have h1 := List.length_filter_le (fun l => freeB p l X) (occI p q)
  have h2 : (occI p q).length ≤ 16777216 := by
    unfold occI
    have h1 := List.length_filter_le (fun l => decide (patL (atL p l) = q)) (ascI p.length q.length)
    have h2 := ascI_le p.length q.length
    have h3 := pow_eight hp8 hq8
    omega
  omega

set_option maxHeartbeats 4000000 in
theorem count_impl (A B : Option Addr) (c k : Nat) (xs : List Int) (rs : List Row) (C : Option Addr) (e : Nat) (p : List Int) (w : World) (h : InM w A c xs B k rs) (h2 : ∀ r ∈ rs, r.xs.length = 2) (hp : In w C e p) (hp8 : p.length ≤ 8) (hx8 : xs.length ≤ 8) :
    Calls Try.prog 75 #[.agg #[.slice A xs.length c, .slice B rs.length k], .slice C p.length e] w (Rb w (.int .i64 (cntM p xs (rs.map Row.xs) : Nat))) := by
  go_enter Try.func75, Try.ntmps75
  have hb0 : Below w.heap.size w (w.alloc (Obj.cells #[Value.slice A xs.length c, Value.slice B rs.length k] 27)) := (Below.refl _ _).alloc (Nat.le_refl _) _
  have ob := obj_new w (Obj.cells #[Value.slice A xs.length c, Value.slice B rs.length k] 27)
  go_wp2_with fail
  generalize (w.alloc (Obj.cells #[Value.slice A xs.length c, Value.slice B rs.length k] 27)) = w0 at hb0 ob ⊢
  (with_reducible refine (occurrences_impl C A e c p xs w0 (hp.next hb0) (h.1.next hb0) hp8 hx8).mono ?_)
  rintro e w1 ⟨A3, c3, ls, rfl, hX, hO, hb1⟩
  have ob := obj_below ob hb1 (obj_lt ob)
  have hb := hb0.trans (hb1.mono hb0.size)
  have hRd := hO.read
  have hlen : ls.length ≤ 16777216 := by
    have h1 := List.length_filter_le (fun l => decide (patL (atL p l) = xs)) (ascI p.length xs.length)
    have h2 := ascI_le p.length xs.length
    have h3 := pow_eight hp8 hx8
    have h4 := congrArg List.length hX
    rw [List.length_map] at h4
    unfold occI at h4
    omega
  have HX := Lib.hid hX
  clear hX hO hb1 hb0
  go_wp2_with fail
  go_loopw [5, 13] (fun s i wr => ∃ j : Nat, j ≤ ls.length ∧ i = .int .i64 j ∧ s = .int .i64 (cntTo (fun r : Row => freeB p r.xs (rs.map Row.xs)) ls j : Nat) ∧ wr.heap[w.heap.size]? = some (Obj.cells #[Value.slice A xs.length c, Value.slice B rs.length k] 27) ∧ Below w1.heap.size w1 wr) (fun _ i _ => ls.length - (intOf i).toNat)
  case atStart => exact ⟨0, Nat.zero_le _, rfl, rfl, ob, Below.refl _ _⟩
  case round =>
    clear ob
    obtain ⟨j, hj, rfl, rfl, ob, hb4⟩ := hrel
    have hle := cntTo_le (fun r : Row => freeB p r.xs (rs.map Row.xs)) ls j
    have hsz4 := hb4.size
    rcases Nat.lt_or_ge j ls.length with hlt | hge
    · have hRd2 := hRd.below hb4
      obtain ⟨b, off, rfl, _, hc⟩ := hRd2.at (by omega)
      have cc := hc j hlt
      have hmem := ascI_mem (List.mem_filter.1 (map_memX HX.out (List.getElem_mem hlt))).1
      have hml : ls[j].xs.length = xs.length := hmem.1
      have hlim : ∀ x ∈ ls[j].xs, 1 ≤ x ∧ x ≤ p.length := fun x hx => by have := hmem.2.1 x hx; omega
      have hl8 : ls[j].xs.length ≤ 8 := by omega
      have hin := row_in hRd2 (List.getElem_mem hlt) (by omega) hsz4
      have hb5 := hb.trans (hb4.mono hb.size)
      have f0 : wr.cell? ⟨w.heap.size, 0, none⟩ = some (Value.slice A xs.length c) := (obj_cell ob).trans rfl
      have f1 : wr.cell? ⟨w.heap.size, 1, none⟩ = some (Value.slice B rs.length k) := (obj_cell ob).trans rfl
      have hM : InM wr A c xs B k rs := h.next hb5
      have hp2 := hp.next hb5
      clear hc hmem hml hRd2
      go_wp2_with fail
      by_cases hH : freeB p ls[j].xs (rs.map Row.xs) = true
      · have HT := Lib.hid (cntTo_yes (H := fun r : Row => freeB p r.xs (rs.map Row.xs)) hlt hH)
        (with_reducible refine (isFree_b A B c k xs rs C ls[j].A e ls[j].c p ls[j].xs wr true hM h2 hp2 hin hp8 hl8 hlim hH).mono ?_)
        rintro e w2 ⟨rfl, hb6⟩
        have ob1 := obj_below ob hb6 (obj_lt ob)
        clear hH
        go_wp2_with fail
        go_roundw
        case rel => exact ⟨j + 1, by omega, by go_num, by rw [HT.out]; all_goals go_num, ob1, hb4.trans (hb6.mono hsz4)⟩
        case measure => simp [intOf]; omega
      · have hHf : freeB p ls[j].xs (rs.map Row.xs) = false := by simpa using hH
        have HT := Lib.hid (cntTo_no (H := fun r : Row => freeB p r.xs (rs.map Row.xs)) hlt hHf)
        (with_reducible refine (isFree_b A B c k xs rs C ls[j].A e ls[j].c p ls[j].xs wr false hM h2 hp2 hin hp8 hl8 hlim hHf).mono ?_)
        rintro e w2 ⟨rfl, hb6⟩
        have ob1 := obj_below ob hb6 (obj_lt ob)
        clear hH hHf
        go_wp2_with fail
        go_roundw
        case rel => exact ⟨j + 1, by omega, by go_num, by rw [HT.out], ob1, hb4.trans (hb6.mono hsz4)⟩
        case measure => simp [intOf]; omega
    · obtain rfl : j = ls.length := by omega
      have HE := Lib.hid (show cntTo (fun r : Row => freeB p r.xs (rs.map Row.xs)) ls ls.length = cntM p xs (rs.map Row.xs) by
        rw [cntTo_all]; unfold cntM; rw [← HX.out, List.filter_map, List.length_map]; rfl)
      go_wp2_with fail
      go_ret
      exact ⟨ret_int (by rw [HE.out]), hb.trans (hb4.mono hb.size)⟩
set_option maxHeartbeats 2000000 in
theorem countMesh_impl (C : Option Addr) (e : Nat) (p : List Int) (A B : Option Addr) (c k : Nat) (xs : List Int) (rs : List Row) (w : World) (hp : In w C e p) (h : InM w A c xs B k rs) :
    Calls Try.prog 9 #[.slice C p.length e, .agg #[.slice A xs.length c, .slice B rs.length k]] w (Rb w (.int .i64 (cmG p xs (rs.map Row.xs)))) := by
  go_enter Try.func9, Try.ntmps9
  have hb0 : Below w.heap.size w (w.alloc (Obj.cells #[Value.slice A xs.length c, Value.slice B rs.length k] 27)) := (Below.refl _ _).alloc (Nat.le_refl _) _
  have ob := obj_new w (Obj.cells #[Value.slice A xs.length c, Value.slice B rs.length k] 27)
  go_wp2_with fail
  generalize (w.alloc (Obj.cells #[Value.slice A xs.length c, Value.slice B rs.length k] 27)) = w0 at hb0 ob ⊢
  by_cases hP : permB p = true
  · have H1 := Lib.hid hP
    have hp8 := (permB_true hP).1
    (with_reducible refine (isPerm_ib C e p w0 true (hp.next hb0) hP).mono ?_)
    rintro e w1 ⟨rfl, hb1⟩
    have ob := obj_below ob hb1 (obj_lt ob)
    have hb := hb0.trans (hb1.mono hb0.size)
    have f0 : w1.cell? ⟨w.heap.size, 0, none⟩ = some (Value.slice A xs.length c) := (obj_cell ob).trans rfl
    have f1 : w1.cell? ⟨w.heap.size, 1, none⟩ = some (Value.slice B rs.length k) := (obj_cell ob).trans rfl
    clear hP
    go_wp2_with fail
    by_cases hM : meshB xs (rs.map Row.xs) = true
    · have HG := Lib.hid (show cmG p xs (rs.map Row.xs) = (cntM p xs (rs.map Row.xs) : Int) by unfold cmG; rw [if_pos ⟨H1.out, hM⟩])
      have hx4 := (mesh_perm hM).2
      have h2 := rows_two hM
      (with_reducible refine (mesh_ib A B c k xs rs w1 true (h.next hb) hM).mono ?_)
      rintro e w2 ⟨rfl, hb2⟩
      have ob := obj_below ob hb2 (obj_lt ob)
      have hb := hb.trans (hb2.mono hb.size)
      have f0 : w2.cell? ⟨w.heap.size, 0, none⟩ = some (Value.slice A xs.length c) := (obj_cell ob).trans rfl
      have f1 : w2.cell? ⟨w.heap.size, 1, none⟩ = some (Value.slice B rs.length k) := (obj_cell ob).trans rfl
      clear hM
      go_wp2_with fail
      (with_reducible refine (count_impl A B c k xs rs C _ p w2 (h.next hb) h2 (hp.next hb) hp8 (by omega)).mono ?_)
      rintro e w3 ⟨rfl, hb3⟩
      go_wp2_with fail
      go_ret
      exact ⟨ret_int (by rw [HG.out]), hb.trans (hb3.mono hb.size)⟩
    · have hMf : meshB xs (rs.map Row.xs) = false := by simpa using hM
      have HG := Lib.hid (show cmG p xs (rs.map Row.xs) = -1 by unfold cmG; rw [if_neg]; exact fun h => hM h.2)
      (with_reducible refine (mesh_ib A B c k xs rs w1 false (h.next hb) hMf).mono ?_)
      rintro e w2 ⟨rfl, hb2⟩
      clear hM hMf
      go_wp2_with fail
      go_ret
      exact ⟨ret_int (by rw [HG.out]), hb.trans (hb2.mono hb.size)⟩
  · have hPf : permB p = false := by simpa using hP
    have HG := Lib.hid (show cmG p xs (rs.map Row.xs) = -1 by unfold cmG; rw [if_neg]; exact fun h => hP h.1)
    (with_reducible refine (isPerm_ib C e p w0 false (hp.next hb0) hPf).mono ?_)
    rintro e w1 ⟨rfl, hb1⟩
    clear hP hPf
    go_wp2_with fail
    go_ret
    exact ⟨ret_int (by rw [HG.out]), hb0.trans (hb1.mono hb0.size)⟩
end Go.Proofs.Ythipikllgpnlhaa
