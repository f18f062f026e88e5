/- IsMesh, program and reference. -/
import Derived.Test.YthkggnmfdlggbaaK1
import Derived.Test.YthkggnmfdlggbaaL2
import Derived.Test.YthkggnmfdlggbaaN1
namespace Go.Proofs.Ythkggnmfdlggbaa
set_option maxRecDepth 100000
open Go Go.RowKit

/-- A box over a permutation of length n. -/
def boxOk (n : Nat) (s : List Int) : Bool := match s with
  | [a, b] => decide (0 ≤ a ∧ a ≤ n ∧ 0 ≤ b ∧ b ≤ n)
  | _ => false
/-- The box at k is right, and behind the one ahead of it. -/
def meshAt (n : Nat) (X : List (List Int)) (k : Nat) : Bool := boxOk n (X[k]?.getD []) && (decide (k = 0) || decide (cmpL (X[k - 1]?.getD []) (X[k]?.getD []) < 0))
def meshTo (n : Nat) (X : List (List Int)) (k : Nat) : Bool := (List.range k).all (meshAt n X)
theorem boxOk_two {n : Nat} {s : List Int} (h : boxOk n s = true) : s.length = 2 := by
  match s with
  | [a, b] => rfl
  | [] => simp [boxOk] at h
  | [_] => simp [boxOk] at h
  | _ :: _ :: _ :: _ => simp [boxOk] at h
theorem meshTo_succ (n : Nat) (X : List (List Int)) (k : Nat) : meshTo n X (k + 1) = (meshTo n X k && meshAt n X k) := by simp [meshTo, List.range_succ]
theorem meshTo_false {n : Nat} {X : List (List Int)} {k m : Nat} (h : k < m) (ht : meshAt n X k = false) : meshTo n X m = false := by
  unfold meshTo
  rw [List.all_eq_false]
  exact ⟨k, List.mem_range.2 h, by simp [ht]⟩
def meshB (xs : List Int) (X : List (List Int)) : Bool := permB xs && decide (xs.length ≤ 4) && meshTo xs.length X X.length

set_option maxHeartbeats 2000000 in
theorem mesh_impl (A B : Option Addr) (c k : Nat) (xs : List Int) (rs : List Row) (w : World) (h : InM w A c xs B k rs) :
    Calls Try.prog 52 #[.agg #[.slice A xs.length c, .slice B rs.length k]] w (Rb w (.bool (meshB xs (rs.map Row.xs)))) := by
  have hlx := h.1.len
  have hly := h.2.len
  by_cases hp : permB xs = true
  · have HP := Lib.hid hp
    go_enter Try.func52, Try.ntmps52
    have hb0 : Below w.heap.size w (w.alloc (Obj.cells #[Value.slice A xs.length c, Value.slice B rs.length k] 37)) := (Below.refl _ _).alloc (Nat.le_refl _) _
    have ob := obj_new w (Obj.cells #[Value.slice A xs.length c, Value.slice B rs.length k] 37)
    go_wp2_with fail
    generalize (w.alloc (Obj.cells #[Value.slice A xs.length c, Value.slice B rs.length k] 37)) = w0 at hb0 ob ⊢
    (with_reducible refine (isPerm_impl A c xs _ (h.1.next hb0)).mono ?_)
    rintro e w1 ⟨rfl, hb1⟩
    rw [hp]
    clear hp
    have hb := hb0.trans (hb1.mono hb0.size)
    have ob := obj_below ob hb1 (obj_lt ob)
    have f0 : w1.cell? ⟨w.heap.size, 0, none⟩ = some (Value.slice A xs.length c) := (obj_cell ob).trans rfl
    have f1 : w1.cell? ⟨w.heap.size, 1, none⟩ = some (Value.slice B rs.length k) := (obj_cell ob).trans rfl
    by_cases h4 : xs.length ≤ 4
    · have H4 := Lib.hid (show decide (xs.length ≤ 4) = true from decide_eq_true h4)
      go_wp2
      go_loopw [18] (fun i wr => ∃ j : Nat, j ≤ rs.length ∧ i = .int .i64 j ∧ meshTo xs.length (rs.map Row.xs) j = true ∧ Dr w1 wr) (fun i _ => rs.length - (intOf i).toNat)
      case atStart => exact ⟨0, Nat.zero_le _, rfl, rfl, Dr.refl _⟩
      case round =>
        obtain ⟨j, hj, rfl, hall, hd⟩ := hrel
        have HA := Lib.hid hall
        clear hall
        have g0 : wr.cell? ⟨w.heap.size, 0, none⟩ = some (Value.slice A xs.length c) := (hd.cell _).trans f0
        have g1 : wr.cell? ⟨w.heap.size, 1, none⟩ = some (Value.slice B rs.length k) := (hd.cell _).trans f1
        by_cases hlt : j < rs.length
        · have hL := (h.2.next hb).dr hd
          obtain ⟨b, off, rfl, _, hc⟩ := hL.read.at (by omega)
          have c1 := hc j hlt
          have hX : (rs.map Row.xs)[j]?.getD [] = rs[j].xs := by simp [hlt]
          by_cases h2 : rs[j].xs.length = 2
          · obtain ⟨a, bb, hab⟩ : ∃ a bb, rs[j].xs = [a, bb] := by
              match hq : rs[j].xs, h2 with
              | [a, bb], _ => exact ⟨a, bb, rfl⟩
            have hrow := (hL.row (List.getElem_mem hlt)).rd
            rw [hab] at hrow
            obtain ⟨rb, ro, hA', _, hcc⟩ := hrow (by simp)
            have e0 : wr.cell? ⟨rb, ro, none⟩ = some (.int .i64 a) := hcc 0 (by simp)
            have e1 : wr.cell? ⟨rb, ro + 1, none⟩ = some (.int .i64 bb) := hcc 1 (by simp)
            rw [hA', h2] at c1
            have hB : boxOk xs.length rs[j].xs = decide (0 ≤ a ∧ a ≤ (xs.length : Int) ∧ 0 ≤ bb ∧ bb ≤ (xs.length : Int)) := by rw [hab]; rfl
            by_cases hm : (if bb < a then bb else a) < 0
            · have dm : decide ((if bb < a then bb else a) < 0) = true := decide_eq_true hm
              have HT := Lib.hid (show meshAt xs.length (rs.map Row.xs) j = false by unfold meshAt; rw [hX, Bool.and_eq_false_iff, hB]; exact .inl (decide_eq_false (by split at hm <;> omega)))
              clear hc h2 hX hB hm hab hcc
              go_wp2
              go_quiet (fail)
              all_goals go_wp2
              all_goals (go_ret; exact ⟨ret_bool (by rw [meshB, meshTo_false (by simpa using hlt) HT.out, Bool.and_false]), below_dr hb (by first | with_reducible assumption | with_reducible exact hd | with_reducible exact Dr.drewN hd _ | with_reducible exact Dr.drewN (Dr.drewN hd _) _ | with_reducible exact Dr.drew hd)⟩)
            · have dm : decide ((if bb < a then bb else a) < 0) = false := decide_eq_false hm
              by_cases hM : (xs.length : Int) < (if a < bb then bb else a)
              · have dM : decide ((xs.length : Int) < (if a < bb then bb else a)) = true := decide_eq_true hM
                have HT := Lib.hid (show meshAt xs.length (rs.map Row.xs) j = false by unfold meshAt; rw [hX, Bool.and_eq_false_iff, hB]; exact .inl (decide_eq_false (by split at hM <;> omega)))
                clear hc h2 hX hB hm hM hab hcc
                go_wp2
                go_quiet (fail)
                all_goals go_wp2
                all_goals (go_ret; exact ⟨ret_bool (by rw [meshB, meshTo_false (by simpa using hlt) HT.out, Bool.and_false]), below_dr hb (by first | with_reducible assumption | with_reducible exact hd | with_reducible exact Dr.drewN hd _ | with_reducible exact Dr.drewN (Dr.drewN hd _) _ | with_reducible exact Dr.drew hd)⟩)
              · have dM : decide ((xs.length : Int) < (if a < bb then bb else a)) = false := decide_eq_false hM
                have hOK : boxOk xs.length rs[j].xs = true := by rw [hB]; exact decide_eq_true (by split at hm <;> split at hM <;> omega)
                clear hm hM hB
                rcases Nat.eq_zero_or_pos j with h0 | h0
                · subst h0
                  have HT := Lib.hid (show meshTo xs.length (rs.map Row.xs) (0 + 1) = true by rw [meshTo_succ, HA.out]; unfold meshAt; rw [hX, hOK]; rfl)
                  have c1' : wr.cell? ⟨b, off, none⟩ = some (Value.slice (some ⟨rb, ro, none⟩) 2 rs[0].c) := c1
                  clear hc h2 hX hab hcc hOK
                  go_wp2
                  go_quiet (fail)
                  all_goals go_wp2
                  all_goals go_roundw
                  all_goals first | exact ⟨1, by omega, rfl, HT.out, (by first | with_reducible assumption | with_reducible exact hd | with_reducible exact Dr.drewN hd _ | with_reducible exact Dr.drewN (Dr.drewN hd _) _ | with_reducible exact Dr.drew hd)⟩ | (simp [intOf]; omega)
                · have c2 := hc (j - 1) (by omega)
                  have hX1 : (rs.map Row.xs)[j - 1]?.getD [] = (rs[j - 1]'(by omega)).xs := by simp [show j - 1 < rs.length by omega]
                  have rp := (hL.row (List.getElem_mem (show j - 1 < rs.length by omega))).rd
                  have q0 := (hL.row (List.getElem_mem (show j - 1 < rs.length by omega))).len
                  have q1 : (rs[j - 1]'(by omega)).xs.length ≤ 4611686018427387904 := by omega
                  have rq := (hL.row (List.getElem_mem hlt)).rd
                  rw [hA'] at rq
                  have E1 : IntKind.i64.wrap ((j : Int) - 1) = (j : Int) - 1 := IntWalk.i64_in _ (by omega)
                  have E2 : ((j : Int) - 1).toNat = j - 1 := by omega
                  have E3 : 0 ≤ (j : Int) - 1 := by omega
                  have E4 : (j : Int) - 1 < (rs.length : Int) := by omega
                  have E5 : 1 ≤ (j : Int) := by omega
                  have E6 : (j : Int) ≤ (rs.length : Int) := by omega
                  have d0 : decide ((j : Int) > 0) = true := decide_eq_true (by omega)
                  have d0' : decide (0 < (j : Int)) = true := decide_eq_true (by omega)
                  have H2 := Lib.hid h2
                  have q2 : (2 : Nat) ≤ 4611686018427387904 := by omega
                  by_cases hC : cmpL (rs[j - 1]'(by omega)).xs rs[j].xs < 0
                  · have dC : decide (cmpL (rs[j - 1]'(by omega)).xs rs[j].xs ≥ 0) = false := decide_eq_false (by omega)
                    have dC' : decide (0 ≤ cmpL (rs[j - 1]'(by omega)).xs rs[j].xs) = false := decide_eq_false (by omega)
                    have HT := Lib.hid (show meshTo xs.length (rs.map Row.xs) (j + 1) = true by rw [meshTo_succ, HA.out]; unfold meshAt; rw [hX, hX1, hOK, decide_eq_true hC, Bool.or_true]; rfl)
                    clear hc h2 hX hX1 hab hcc hOK hC q0 E5 E6
                    go_wp2
                    go_quiet ((go_at_call 55; exact quiet_rq (compareS_q _ _ _ _ _ _ (rs[j - 1]'(by omega)).xs rs[j].xs _ rfl H2.out q1 q2 (rp.drewN _) (rq.drewN _))))
                    all_goals go_wp2
                    all_goals go_roundw
                    all_goals first | exact ⟨j + 1, by omega, by go_num, HT.out, (by first | with_reducible assumption | with_reducible exact hd | with_reducible exact Dr.drewN hd _ | with_reducible exact Dr.drewN (Dr.drewN hd _) _ | with_reducible exact Dr.drew hd)⟩ | (simp [intOf]; omega)
                  · have dC : decide (cmpL (rs[j - 1]'(by omega)).xs rs[j].xs ≥ 0) = true := decide_eq_true (by omega)
                    have dC' : decide (0 ≤ cmpL (rs[j - 1]'(by omega)).xs rs[j].xs) = true := decide_eq_true (by omega)
                    have HT := Lib.hid (show meshAt xs.length (rs.map Row.xs) j = false by unfold meshAt; rw [hX, hX1, decide_eq_false hC, decide_eq_false (show ¬ j = 0 by omega)]; simp)
                    clear hc h2 hX hX1 hab hcc hOK hC q0 E5 E6
                    go_wp2
                    go_quiet ((go_at_call 55; exact quiet_rq (compareS_q _ _ _ _ _ _ (rs[j - 1]'(by omega)).xs rs[j].xs _ rfl H2.out q1 q2 (rp.drewN _) (rq.drewN _))))
                    all_goals go_wp2
                    all_goals (go_ret; exact ⟨ret_bool (by rw [meshB, meshTo_false (by simpa using hlt) HT.out, Bool.and_false]), below_dr hb (by first | with_reducible assumption | with_reducible exact hd | with_reducible exact Dr.drewN hd _ | with_reducible exact Dr.drewN (Dr.drewN hd _) _ | with_reducible exact Dr.drew hd)⟩)
          · have d2 : ((rs[j].xs.length : Int) != 2) = true := by simp; omega
            have HT := Lib.hid (show meshAt xs.length (rs.map Row.xs) j = false by unfold meshAt; rw [hX, Bool.and_eq_false_iff]; exact .inl (by rcases hq : boxOk xs.length rs[j].xs with _ | _ <;> first | rfl | exact absurd (boxOk_two hq) h2))
            clear hc h2 hX
            go_wp2
            go_quiet (fail)
            go_wp2
            go_ret
            exact ⟨ret_bool (by rw [meshB, meshTo_false (by simpa using hlt) HT.out, Bool.and_false]), below_dr hb (by first | with_reducible assumption | with_reducible exact hd | with_reducible exact Dr.drewN hd _ | with_reducible exact Dr.drewN (Dr.drewN hd _) _ | with_reducible exact Dr.drew hd)⟩
        · have HE := Lib.hid (show meshTo xs.length (rs.map Row.xs) (rs.map Row.xs).length = true by rw [List.length_map, show rs.length = j by omega]; exact HA.out)
          go_wp2
          go_ret
          exact ⟨ret_bool (by rw [meshB, HP.out, H4.out, HE.out]; rfl), below_dr hb (by first | with_reducible assumption | with_reducible exact hd | with_reducible exact Dr.drewN hd _ | with_reducible exact Dr.drewN (Dr.drewN hd _) _ | with_reducible exact Dr.drew hd)⟩
    · have H4 := Lib.hid (show decide (xs.length ≤ 4) = false from decide_eq_false h4)
      go_wp2
      go_ret
      exact ⟨ret_bool (by rw [meshB, H4.out, Bool.and_false, Bool.false_and]), hb⟩
  · have hpf : permB xs = false := by simpa using hp
    have HG := Lib.hid (show meshB xs (rs.map Row.xs) = false by rw [meshB, hpf, Bool.false_and, Bool.false_and])
    go_enter Try.func52, Try.ntmps52
    have hb0 : Below w.heap.size w (w.alloc (Obj.cells #[Value.slice A xs.length c, Value.slice B rs.length k] 37)) := (Below.refl _ _).alloc (Nat.le_refl _) _
    go_wp2_with fail
    (with_reducible refine (isPerm_impl A c xs _ (h.1.next hb0)).mono ?_)
    rintro e w1 ⟨rfl, hb1⟩
    rw [hpf]
    go_wp2
    go_ret
    exact ⟨ret_bool HG.out.symm, hb0.trans (hb1.mono hb0.size)⟩

set_option maxHeartbeats 2000000 in
theorem mesh_spec (A B : Option Addr) (c k : Nat) (xs : List Int) (rs : List Row) (w : World) (h : InM w A c xs B k rs) :
    Calls Try.prog 49 #[.agg #[.slice A xs.length c, .slice B rs.length k]] w (Rb w (.bool (meshB xs (rs.map Row.xs)))) := by
  have hlx := h.1.len
  have hly := h.2.len
  go_enter Try.func49, Try.ntmps49
  have hb : Below w.heap.size w (w.alloc (Obj.cells #[Value.slice A xs.length c, Value.slice B rs.length k] 37)) := (Below.refl _ _).alloc (Nat.le_refl _) _
  have ob := obj_new w (Obj.cells #[Value.slice A xs.length c, Value.slice B rs.length k] 37)
  go_wp2_with fail
  generalize (w.alloc (Obj.cells #[Value.slice A xs.length c, Value.slice B rs.length k] 37)) = w1 at hb ob ⊢
  have f0 : w1.cell? ⟨w.heap.size, 0, none⟩ = some (Value.slice A xs.length c) := (obj_cell ob).trans rfl
  have f1 : w1.cell? ⟨w.heap.size, 1, none⟩ = some (Value.slice B rs.length k) := (obj_cell ob).trans rfl
  go_loopw [3] (fun i wr => ∃ j : Nat, j ≤ rs.length ∧ i = .int .i64 j ∧ meshTo xs.length (rs.map Row.xs) j = true ∧ Dr w1 wr) (fun i _ => rs.length - (intOf i).toNat)
  case atStart => exact ⟨0, Nat.zero_le _, rfl, rfl, Dr.refl _⟩
  case round =>
    obtain ⟨j, hj, rfl, hall, hd⟩ := hrel
    have HA := Lib.hid hall
    have g0 : wr.cell? ⟨w.heap.size, 0, none⟩ = some (Value.slice A xs.length c) := (hd.cell _).trans f0
    have g1 : wr.cell? ⟨w.heap.size, 1, none⟩ = some (Value.slice B rs.length k) := (hd.cell _).trans f1
    by_cases hlt : j < rs.length
    · have hL := (h.2.next hb).dr hd
      obtain ⟨b, off, rfl, _, hc⟩ := hL.read.at (by omega)
      have c1 := hc j hlt
      have hX : (rs.map Row.xs)[j]?.getD [] = rs[j].xs := by simp [hlt]
      by_cases h2 : rs[j].xs.length = 2
      · obtain ⟨a, bb, hab⟩ : ∃ a bb, rs[j].xs = [a, bb] := by
          match hq : rs[j].xs, h2 with
          | [a, bb], _ => exact ⟨a, bb, rfl⟩
        have hrow := (hL.row (List.getElem_mem hlt)).rd
        rw [hab] at hrow
        obtain ⟨rb, ro, hA', _, hcc⟩ := hrow (by simp)
        have e0 : wr.cell? ⟨rb, ro, none⟩ = some (.int .i64 a) := hcc 0 (by simp)
        have e1 : wr.cell? ⟨rb, ro + 1, none⟩ = some (.int .i64 bb) := hcc 1 (by simp)
        rw [hA', h2] at c1
        have hB : boxOk xs.length rs[j].xs = decide (0 ≤ a ∧ a ≤ (xs.length : Int) ∧ 0 ≤ bb ∧ bb ≤ (xs.length : Int)) := by rw [hab]; rfl
        by_cases ha : 0 ≤ a ∧ a ≤ (xs.length : Int)
        · have da : decide (0 ≤ a ∧ a ≤ (xs.length : Int)) = true := decide_eq_true ha
          by_cases hbx : 0 ≤ bb ∧ bb ≤ (xs.length : Int)
          · have db : decide (0 ≤ bb ∧ bb ≤ (xs.length : Int)) = true := decide_eq_true hbx
            have hOK : boxOk xs.length rs[j].xs = true := by rw [hB]; exact decide_eq_true (by omega)
            have Ha := Lib.hid da
            have Hb := Lib.hid db
            rcases Nat.eq_zero_or_pos j with h0 | h0
            · subst h0
              have HT := Lib.hid (show meshTo xs.length (rs.map Row.xs) (0 + 1) = true by rw [meshTo_succ, HA.out]; unfold meshAt; rw [hX, hOK]; rfl)
              have c1' : wr.cell? ⟨b, off, none⟩ = some (Value.slice (some ⟨rb, ro, none⟩) 2 rs[0].c) := c1
              clear hc h2 hX hB hab hcc hOK ha hbx da db hall
              go_wp2
              go_quiet ((first | (go_at_call 66; with_reducible show Calls _ _ #[Value.int IntKind.i64 a, _, _] _ _; exact quiet_eq (l1In_b a 0 (xs.length : Int) _ true Ha.out)) | (go_at_call 66; exact quiet_eq (l1In_b bb 0 (xs.length : Int) _ true Hb.out))))
              go_wp2
              go_roundw
              case rel => exact ⟨1, by omega, rfl, HT.out, (by first | with_reducible assumption | with_reducible exact hd | with_reducible exact Dr.drewN hd _ | with_reducible exact Dr.drewN (Dr.drewN hd _) _ | with_reducible exact Dr.drew hd)⟩
              case measure => simp [intOf]; omega
            · have c2 := hc (j - 1) (by omega)
              have hX1 : (rs.map Row.xs)[j - 1]?.getD [] = (rs[j - 1]'(by omega)).xs := by simp [show j - 1 < rs.length by omega]
              have hp2 : (rs[j - 1]'(by omega)).xs.length = 2 := by
                rw [show j = j - 1 + 1 by omega, meshTo_succ, Bool.and_eq_true] at hall
                have := hall.2
                unfold meshAt at this
                rw [hX1, Bool.and_eq_true] at this
                exact boxOk_two this.1
              have hbf : before (rs[j - 1]'(by omega)).xs rs[j].xs = decide (cmpL (rs[j - 1]'(by omega)).xs rs[j].xs < 0) := by unfold before; rw [if_pos (hp2.trans h2.symm)]
              have rp := (hL.row (List.getElem_mem (show j - 1 < rs.length by omega))).rd
              have q1 : (rs[j - 1]'(by omega)).xs.length ≤ 4611686018427387904 := by omega
              have rq := (hL.row (List.getElem_mem hlt)).rd
              rw [hA'] at rq
              have E1 : IntKind.i64.wrap ((j : Int) - 1) = (j : Int) - 1 := IntWalk.i64_in _ (by omega)
              have E2 : ((j : Int) - 1).toNat = j - 1 := by omega
              have E3 : 0 ≤ (j : Int) - 1 := by omega
              have E4 : (j : Int) - 1 < (rs.length : Int) := by omega
              have d0 : decide ((j : Int) > 0) = true := decide_eq_true (by omega)
              have d0' : decide (0 < (j : Int)) = true := decide_eq_true (by omega)
              have H2 := Lib.hid h2
              have q2 : (2 : Nat) ≤ 4611686018427387904 := by omega
              by_cases hC : cmpL (rs[j - 1]'(by omega)).xs rs[j].xs < 0
              · have dC : before (rs[j - 1]'(by omega)).xs rs[j].xs = true := by rw [hbf]; exact decide_eq_true hC
                have HT := Lib.hid (show meshTo xs.length (rs.map Row.xs) (j + 1) = true by rw [meshTo_succ, HA.out]; unfold meshAt; rw [hX, hX1, hOK, decide_eq_true hC, Bool.or_true]; rfl)
                clear hc h2 hX hX1 hB hab hcc hOK ha hbx da db hall hC hbf hp2
                go_wp2
                go_quiet ((first | (go_at_call 66; with_reducible show Calls _ _ #[Value.int IntKind.i64 a, _, _] _ _; exact quiet_eq (l1In_b a 0 (xs.length : Int) _ true Ha.out)) | (go_at_call 66; exact quiet_eq (l1In_b bb 0 (xs.length : Int) _ true Hb.out)) | (go_at_call 85; exact quiet_rq (l2Before_any _ _ _ _ _ _ (rs[j - 1]'(by omega)).xs rs[j].xs _ rfl H2.out q1 q2 (rp.drewN _) (rq.drewN _)))))
                go_wp2
                go_roundw
                case rel => exact ⟨j + 1, by omega, by go_num, HT.out, (by first | with_reducible assumption | with_reducible exact hd | with_reducible exact Dr.drewN hd _ | with_reducible exact Dr.drewN (Dr.drewN hd _) _ | with_reducible exact Dr.drew hd)⟩
                case measure => simp [intOf]; omega
              · have dC : before (rs[j - 1]'(by omega)).xs rs[j].xs = false := by rw [hbf]; exact decide_eq_false hC
                have HT := Lib.hid (show meshAt xs.length (rs.map Row.xs) j = false by unfold meshAt; rw [hX, hX1, decide_eq_false hC, decide_eq_false (show ¬ j = 0 by omega)]; simp)
                clear hc h2 hX hX1 hB hab hcc hOK ha hbx da db hall hC hbf hp2
                go_wp2
                go_quiet ((first | (go_at_call 66; with_reducible show Calls _ _ #[Value.int IntKind.i64 a, _, _] _ _; exact quiet_eq (l1In_b a 0 (xs.length : Int) _ true Ha.out)) | (go_at_call 66; exact quiet_eq (l1In_b bb 0 (xs.length : Int) _ true Hb.out)) | (go_at_call 85; exact quiet_rq (l2Before_any _ _ _ _ _ _ (rs[j - 1]'(by omega)).xs rs[j].xs _ rfl H2.out q1 q2 (rp.drewN _) (rq.drewN _)))))
                go_wp2
                go_ret
                exact ⟨ret_bool (by rw [meshB, meshTo_false (by simpa using hlt) HT.out, Bool.and_false]), below_dr hb (by first | with_reducible assumption | with_reducible exact hd | with_reducible exact Dr.drewN hd _ | with_reducible exact Dr.drewN (Dr.drewN hd _) _ | with_reducible exact Dr.drew hd)⟩
          · have db : decide (0 ≤ bb ∧ bb ≤ (xs.length : Int)) = false := decide_eq_false hbx
            have Ha := Lib.hid da
            have Hb := Lib.hid db
            have HT := Lib.hid (show meshAt xs.length (rs.map Row.xs) j = false by unfold meshAt; rw [hX, Bool.and_eq_false_iff, hB]; exact .inl (decide_eq_false (by omega)))
            clear hc h2 hX hB hab hcc ha hbx da db hall
            go_wp2
            go_quiet ((first | (go_at_call 66; with_reducible show Calls _ _ #[Value.int IntKind.i64 a, _, _] _ _; exact quiet_eq (l1In_b a 0 (xs.length : Int) _ true Ha.out)) | (go_at_call 66; exact quiet_eq (l1In_b bb 0 (xs.length : Int) _ false Hb.out))))
            go_wp2
            go_ret
            exact ⟨ret_bool (by rw [meshB, meshTo_false (by simpa using hlt) HT.out, Bool.and_false]), below_dr hb (by first | with_reducible assumption | with_reducible exact hd | with_reducible exact Dr.drewN hd _ | with_reducible exact Dr.drewN (Dr.drewN hd _) _ | with_reducible exact Dr.drew hd)⟩
        · have da : decide (0 ≤ a ∧ a ≤ (xs.length : Int)) = false := decide_eq_false ha
          have Ha := Lib.hid da
          have HT := Lib.hid (show meshAt xs.length (rs.map Row.xs) j = false by unfold meshAt; rw [hX, Bool.and_eq_false_iff, hB]; exact .inl (decide_eq_false (by omega)))
          clear hc h2 hX hB hab hcc ha da hall
          go_wp2
          go_quiet ((go_at_call 66; with_reducible show Calls _ _ #[Value.int IntKind.i64 a, _, _] _ _; exact quiet_eq (l1In_b a 0 (xs.length : Int) _ false Ha.out)))
          go_wp2
          go_ret
          exact ⟨ret_bool (by rw [meshB, meshTo_false (by simpa using hlt) HT.out, Bool.and_false]), below_dr hb (by first | with_reducible assumption | with_reducible exact hd | with_reducible exact Dr.drewN hd _ | with_reducible exact Dr.drewN (Dr.drewN hd _) _ | with_reducible exact Dr.drew hd)⟩
      · have d2 : ((rs[j].xs.length : Int) != 2) = true := by simp; omega
        have HT := Lib.hid (show meshAt xs.length (rs.map Row.xs) j = false by unfold meshAt; rw [hX, Bool.and_eq_false_iff]; exact .inl (by rcases hq : boxOk xs.length rs[j].xs with _ | _ <;> first | rfl | exact absurd (boxOk_two hq) h2))
        clear hc h2 hX hall
        go_wp2
        go_quiet (fail)
        go_wp2
        go_ret
        exact ⟨ret_bool (by rw [meshB, meshTo_false (by simpa using hlt) HT.out, Bool.and_false]), below_dr hb (by first | with_reducible assumption | with_reducible exact hd | with_reducible exact Dr.drewN hd _ | with_reducible exact Dr.drewN (Dr.drewN hd _) _ | with_reducible exact Dr.drew hd)⟩
    · have HE := Lib.hid (show meshTo xs.length (rs.map Row.xs) (rs.map Row.xs).length = true by rw [List.length_map, show rs.length = j by omega]; exact HA.out)
      have hbr := below_dr hb hd
      clear hall
      go_wp2_with fail
      (with_reducible refine (isPerm_spec A c xs _ (h.1.next hbr)).mono ?_)
      rintro e w2 ⟨rfl, hd2⟩
      have gq : w2.cell? ⟨w.heap.size, 0, none⟩ = some (Value.slice A xs.length c) := (hd2.cell _).trans g0
      by_cases hp : permB xs = true
      · have HP := Lib.hid hp
        rw [hp]
        clear hp
        have hD : decide ((xs.length : Int) ≤ 4) = decide (xs.length ≤ 4) := by rw [Bool.eq_iff_iff]; simp; omega
        have HD := Lib.hid hD
        clear hD
        go_wp2
        go_ret
        exact ⟨ret_bool (by rw [meshB, HP.out, HE.out, Bool.true_and, Bool.and_true]; first | exact HD.out | (simp; done) | (simp; omega)), below_dr hbr hd2⟩
      · have hpf : permB xs = false := by simpa using hp
        have HP := Lib.hid hpf
        rw [hpf]
        clear hp hpf
        go_wp2
        go_ret
        exact ⟨ret_bool (by rw [meshB, HP.out, Bool.false_and, Bool.false_and]), below_dr hbr hd2⟩
end Go.Proofs.Ythkggnmfdlggbaa
