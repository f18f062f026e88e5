/- The reference's permutations, depth first. -/
import Derived.Test.YthipikllgpnlhaaR3
namespace Go.Proofs.Ythipikllgpnlhaa
set_option maxRecDepth 100000
open Go Go.RowKit

/-- What a call that fills a list leaves: the rows that came, behind those that were there; the rows F beside them are kept. -/
def Filled (w : World) (lo : Nat) (F rs : List Row) (L : List (List Int)) (e : Ending) (w' : World) : Prop :=
  ∃ A' c' rs', e = .returned (.slice A' (rs.length + rs'.length) c') ∧ rs'.map Row.xs = L ∧ Own w' lo w'.heap.size (F ++ (rs ++ rs')) [⟨A', c', (rs ++ rs').map Row.v⟩] ∧ Below lo w w'
theorem own_row {w : World} {lo hi : Nat} {rs : List Row} {os : List Outer} (h : Own w lo hi rs os) {r : Row} (hr : r ∈ rs) (hh : hi ≤ w.heap.size) : r.xs.length ≤ r.c ∧ Rd (Value.int .i64) w w.heap.size r.A r.xs :=
  ⟨h.read.cap r hr, (h.read.rd r hr).more hh⟩

def fillTo (n k : Nat) (p : List Int) (u : Nat) : List (List Int) := ((nums u).filter fun v => !decide (v ∈ p)).flatMap fun v => fillF n k (p ++ [v])
theorem fillTo_succ (n k : Nat) (p : List Int) (u : Nat) : fillTo n k p (u + 1) = if ((u : Int) + 1) ∈ p then fillTo n k p u else fillTo n k p u ++ fillF n k (p ++ [(u : Int) + 1]) := by
  unfold fillTo
  rw [nums_succ, List.filter_append]
  by_cases h : ((u : Int) + 1) ∈ p <;> simp [h]
theorem fillTo_le (n k : Nat) (p : List Int) (u : Nat) : (fillTo n k p u).length ≤ u * n ^ k := by
  have h := flatMap_le (fun v => fillF n k (p ++ [v])) (n ^ k) ((nums u).filter fun v => !decide (v ∈ p)) (fun v _ => fillF_le n k _)
  have h1 := List.length_filter_le (fun v => !decide (v ∈ p)) (nums u)
  rw [nums_length] at h1
  exact Nat.le_trans h (Nat.mul_le_mul_right _ h1)
theorem fillTo_all (n k : Nat) (p : List Int) : fillTo n k p n = fillF n (k + 1) p := rfl

set_option maxHeartbeats 4000000 in
theorem fill_spec (n : Nat) (hn : n ≤ 6) : ∀ (k : Nat) (F rs : List Row) (r : Row) (A : Option Addr) (c lo : Nat) (w : World), r.xs.length + k = n → lo ≤ w.heap.size → rs.length + n ^ k ≤ 1000000 →
    Own w lo w.heap.size (F ++ rs ++ [r]) [⟨A, c, rs.map Row.v⟩] →
    Calls Try.prog 101 #[.int .i64 n, .slice r.A r.xs.length r.c, .slice A rs.length c] w (Filled w lo F rs (fillF n k r.xs)) := by
  obtain ⟨i0, hi, hz0, hz1, hz2⟩ := info_parts infoI
  obtain ⟨j0, hj, hy0, hy1, hy2⟩ := info_parts infoL
  intro k
  induction k with
  | zero =>
    intro F rs r A c lo w hr hlo hcount hO
    have hcount : rs.length + 1 ≤ 1000000 := by simpa using hcount
    have d1 : ((r.xs.length : Int) == (n : Int)) = true := by simp; omega
    have ho := hO.outN (n := rs.length) (by simp)
    have HR := Lib.hid hr
    clear hr
    go_enter Try.func101, Try.ntmps101
    go_wp2_with (at_builtin; refine wpList_append_own _ rfl _ _ 25 rfl (lo) 24 j0 (.slice none 0 0) 1 24 Try.underlying25 hj hy0 hy1 hy2 rfl (by decide) _ _ _ rfl (World.ownsRow.alloc ho _) ⟨w.heap.size, 0, none⟩ 1 1 [Value.slice r.A r.xs.length r.c] rfl rfl (cell_one_at _ _ (by simp)) (by intro u hu; simp at hu; subst hu; rfl) (by unfold maxLen; omega) (by omega) (by simp; omega) ?_; intro v9 w9 hown9 hgrow9 _)
    obtain ⟨A5, c5, rfl, hO6, hg3⟩ := hO.grow (Nat.le_refl _) (by simp) hown9 hgrow9
    have hbw := (Below.refl lo w).grown hg3 hlo (fun g hg => (hO.olim (by simp) g hg).1)
    have K := Lib.hid (And.intro hO6 hbw)
    clear hO6 hbw hown9 hgrow9 hg3 hO ho
    go_wp2
    go_ret
    exact ⟨A5, c5, [r], rfl, rfl, by simpa [Row.v, List.append_assoc] using K.out.1, K.out.2⟩
  | succ k ih =>
    intro F rs r A c lo w hr hlo hcount hO
    have d1 : ((r.xs.length : Int) == (n : Int)) = false := by simp; omega
    have hrl : r.xs.length ≤ 6 := by omega
    have hpow : ∀ u, u + 1 ≤ n → u * n ^ k + n ^ k ≤ n ^ (k + 1) := fun u hu => by
      have := Nat.mul_le_mul_right (n ^ k) hu
      rw [Nat.add_mul, Nat.one_mul] at this
      rw [Nat.pow_succ, Nat.mul_comm (n ^ k)]
      exact this
    have hpe := hpow
    have HP := Lib.hid hpow
    have HR := Lib.hid hr
    have HC := Lib.hid hcount
    have hO0 : Own w lo w.heap.size (F ++ [r] ++ (rs ++ [])) [⟨A, c, (rs ++ []).map Row.v⟩] := by
      rw [List.append_nil]
      refine hO.perm ?_
      rw [List.append_assoc, List.append_assoc]
      exact List.Perm.append_left F List.perm_append_comm
    clear hr hcount hpow hpe hO
    go_enter Try.func101, Try.ntmps101
    go_wp2_with fail
    go_loopw [2, 7] (fun o i wr => ∃ (u : Nat) (A1 : Option Addr) (c1 : Nat) (rs1 : List Row), u ≤ n ∧ i = .int .i64 ((u : Int) + 1) ∧ o = .slice A1 (rs.length + rs1.length) c1 ∧ Hid (rs1.map Row.xs = fillTo n k r.xs u) ∧
      Own wr lo wr.heap.size (F ++ [r] ++ (rs ++ rs1)) [⟨A1, c1, (rs ++ rs1).map Row.v⟩] ∧ Below lo w wr ∧ lo ≤ wr.heap.size) (fun _ i _ => n + 1 - (intOf i).toNat)
    case atStart => exact ⟨0, A, c, [], Nat.zero_le _, rfl, rfl, Lib.hid rfl, hO0, Below.refl _ _, hlo⟩
    case round =>
      clear hO0
      obtain ⟨u, A1, c1, rs1, hu, rfl, rfl, HX, hO, hb, hlo1⟩ := hrel
      have hrd := own_row hO (r := r) (by simp) (Nat.le_refl _)
      rcases Nat.lt_or_ge u n with hlt | hge
      · by_cases hm : ((u : Int) + 1) ∈ r.xs
        · have HM := Lib.hid (decide_eq_true hm)
          have HT := Lib.hid (show fillTo n k r.xs (u + 1) = fillTo n k r.xs u by rw [fillTo_succ, if_pos hm])
          clear hm
          go_wp2_with fail
          (with_reducible refine (l2Has_b r.A r.c r.xs.length r.xs ((u : Int) + 1) wr true rfl (by omega) hrd.2 HM.out).mono ?_)
          rintro e w' ⟨rfl, rfl⟩
          go_wp2_with fail
          go_roundw
          case rel => exact ⟨u + 1, A1, c1, rs1, by omega, by go_num, rfl, Lib.hid (by rw [HT.out]; exact HX.out), hO, hb, hlo1⟩
          case measure => simp [intOf]; omega
        · have HM := Lib.hid (decide_eq_false hm)
          have HT := Lib.hid (show fillTo n k r.xs (u + 1) = fillTo n k r.xs u ++ fillF n k (r.xs ++ [(u : Int) + 1]) by rw [fillTo_succ, if_neg hm])
          have hcnt : (rs ++ rs1).length + n ^ k ≤ 1000000 := by
            have h1 := congrArg List.length HX.out
            have h2 := fillTo_le n k r.xs u
            have h3 := HP.out u hlt
            have h4 := HC.out
            rw [List.length_map] at h1
            rw [List.length_append]
            omega
          clear hm
          go_wp2_with fail
          (with_reducible refine (l2Has_b r.A r.c r.xs.length r.xs ((u : Int) + 1) wr false rfl (by omega) hrd.2 HM.out).mono ?_)
          rintro e w' ⟨rfl, rfl⟩
          have own0 : (wr.alloc (.cells #[] 3)).ownsRow wr.heap.size 3 1 (.slice (some ⟨wr.heap.size, 0, none⟩) 0 0) 0 [] := World.ownsRow_lit wr #[] 0 (Nat.le_refl _) (by unfold maxLen; omega) rfl
          have hx0 := hrd.2.alloc (Nat.le_refl _) (.cells #[] 3)
          have hbA := (Below.refl wr.heap.size wr).alloc (Nat.le_refl _) (.cells #[] 3)
          go_wp2_with (first | ((at_builtin; refine wpList_append_rd _ rfl _ _ 24 rfl (wr.heap.size) 3 i0 (.int .i64 0) 8 Try.underlying24 hi hz0 hz1 hz2 rfl _ _ _ rfl own0 _ _ _ _ (r.xs) rfl rfl hx0 (fun _ => rfl) (by unfold maxLen; omega) (by omega) (by first | omega | (simp; done) | (simp; omega)) ?_; intro v1 w1 hown1 hgrow1); simp only [Nat.zero_add, List.nil_append] at hown1; obtain ⟨A3, c3, rfl, _, _⟩ := own_shape hown1; have hbB := hbA.grown hgrow1 (by simp) (fun g hg => (own0.lt g hg).1); have hszB := hbB.size) | (at_builtin; refine wpList_append_own _ rfl _ _ 24 rfl (wr.heap.size) 3 i0 (.int .i64 0) 1 8 Try.underlying24 hi hz0 hz1 hz2 rfl (by decide) _ _ _ rfl (World.ownsRow.alloc hown1 _) ⟨w1.heap.size, 0, none⟩ 1 1 [.int .i64 ((u : Int) + 1)] rfl rfl (cell_one_new _ _ _) (by intro u hu; simp at hu; subst hu; rfl) (by unfold maxLen; omega) (by omega) (by simp; omega) ?_; intro v2 w2 hown2 hgrow2 _))
          have hbC := (hbB.alloc hszB (Obj.cells #[Value.int .i64 ((u : Int) + 1)] 3)).grown hgrow2 (by simp; omega) (fun g hg => (hown1.lt g hg).1)
          have hrow : w2.ownsRow wr.heap.size 3 1 v2 (r.xs.length + 1) ((r.xs ++ [(u : Int) + 1]).map (Value.int .i64)) := by simpa using hown2
          obtain ⟨A4, c4, rfl, _, _⟩ := own_shape hrow
          have hszC := hbC.size
          have hO2 := (hO.below hbC).add (r := ⟨A4, c4, r.xs ++ [(u : Int) + 1]⟩) (by simpa [Row.v] using hrow) hszC hlo1
          have HRL := Lib.hid (show (r.xs ++ [(u : Int) + 1]).length + k = n by rw [List.length_append, List.length_singleton]; have := HR.out; omega)
          have hb2 := hb.trans (hbC.mono hlo1)
          clear hown1 hown2 hgrow1 hgrow2 hbA hbB hrow hx0 own0 hO
          have hlo2 : lo ≤ w2.heap.size := by omega
          have IH := ih (F ++ [r]) (rs ++ rs1) ⟨A4, c4, r.xs ++ [(u : Int) + 1]⟩ A1 c1 lo w2 HRL.out hlo2 hcnt hO2
          rw [show (Row.mk A4 c4 (r.xs ++ [(u : Int) + 1])).xs.length = r.xs.length + 1 by simp, List.length_append] at IH
          have IHH := Lib.hid IH
          clear IH hO2
          go_wp2_with fail
          (with_reducible refine IHH.out.mono ?_)
          rintro e w4 ⟨A5, c5, rs2, rfl, hxs, hO4, hb4⟩
          have K := Lib.hid (And.intro hxs (And.intro hO4 (hb2.trans hb4)))
          have hlo4 : lo ≤ w4.heap.size := by have := hb4.size; omega
          clear hxs hO4 hb4 IHH hb2
          go_wp2_with fail
          go_roundw
          case rel => exact ⟨u + 1, A5, c5, rs1 ++ rs2, by omega, by go_num, by rw [List.length_append]; go_num, Lib.hid (by rw [HT.out, List.map_append, HX.out, K.out.1]), by rw [← List.append_assoc rs]; exact K.out.2.1, K.out.2.2, hlo4⟩
          case measure => simp [intOf]; omega
      · obtain rfl : u = n := by omega
        have hO2 : Own wr lo wr.heap.size (F ++ (rs ++ rs1)) [⟨A1, c1, (rs ++ rs1).map Row.v⟩] := hO.sub (by
          rw [List.append_assoc F]
          exact List.Sublist.append_left (List.sublist_append_right _ _) F)
        go_wp2_with fail
        go_ret
        exact ⟨A1, c1, rs1, rfl, HX.out, hO2, hb⟩

def permsG (n : Int) : List (List Int) := if 0 ≤ n ∧ n ≤ 6 then permsL n.toNat else []
set_option maxHeartbeats 1000000 in
theorem permsOf_spec (n : Int) (w : World) : Calls Try.prog 47 #[.int .i64 n] w (RetL w (permsG n)) := by
  by_cases h : 0 ≤ n ∧ n ≤ 6
  · obtain ⟨m, rfl⟩ := Int.eq_ofNat_of_zero_le h.1
    have hm : m ≤ 6 := by omega
    have HG := Lib.hid (show permsG m = permsL m by unfold permsG; rw [if_pos h]; rfl)
    have HD := Lib.hid (decide_eq_true h)
    have own0 : (w.alloc (.cells #[] 3)).ownsRow w.heap.size 3 1 (Row.v ⟨some ⟨w.heap.size, 0, none⟩, 0, []⟩) 0 (([] : List Int).map (Value.int .i64)) := World.ownsRow_lit w #[] 0 (Nat.le_refl _) (by unfold maxLen; omega) rfl
    have hA : Own (w.alloc (.cells #[] 3)) w.heap.size (w.heap.size + 1) [⟨some ⟨w.heap.size, 0, none⟩, 0, []⟩] [] := by
      have := Own.add (os := []) (r := ⟨some ⟨w.heap.size, 0, none⟩, 0, []⟩) (Own.nil_ (w := w.alloc (.cells #[] 3)) (lo := w.heap.size) (hi := w.heap.size)) own0 (by simp) (Nat.le_refl _)
      simpa using this
    have hB : Own ((w.alloc (.cells #[] 3)).alloc (.cells #[] 24)) w.heap.size (w.heap.size + 1 + 1) [⟨some ⟨w.heap.size, 0, none⟩, 0, []⟩] [⟨some ⟨w.heap.size + 1, 0, none⟩, 0, []⟩] := by
      have h1 := hA.below ((Below.refl _ _).alloc (Nat.le_refl _) (.cells #[] 24))
      have h2 := (h1.wider (Nat.le_refl _) (Nat.le_succ _)).with_ (A := some ⟨w.heap.size + 1, 0, none⟩) (c := 0) (vs := []) (by
        have := World.ownsRow_lit (base := w.heap.size) (e := 24) (size := 1) (w.alloc (.cells #[] 3)) #[] 0 (by simp) (by unfold maxLen; omega) rfl
        simpa using this) (by simp)
      exact h2
    have hb0 : Below w.heap.size w ((w.alloc (.cells #[] 3)).alloc (.cells #[] 24)) := ((Below.refl _ _).alloc (Nat.le_refl _) _).alloc (by simp) _
    have hp := pow_six hm hm
    have FSc := Lib.hid (show Calls Try.prog 101 #[.int .i64 m, .slice (some ⟨w.heap.size, 0, none⟩) 0 0, .slice (some ⟨w.heap.size + 1, 0, none⟩) 0 0] ((w.alloc (.cells #[] 3)).alloc (.cells #[] 24)) (Filled _ w.heap.size [] [] (fillF m m [])) from
      fill_spec m hm m [] [] ⟨some ⟨w.heap.size, 0, none⟩, 0, []⟩ (some ⟨w.heap.size + 1, 0, none⟩) 0 w.heap.size ((w.alloc (.cells #[] 3)).alloc (.cells #[] 24)) (by simp) (by simp; omega) (by simp; omega) (by simpa using hB))
    clear h own0 hA
    go_enter Try.func47, Try.ntmps47
    go_wp2_with fail
    (with_reducible refine (l1In_b (m : Int) 0 6 w true HD.out).mono ?_)
    rintro e w' ⟨rfl, rfl⟩
    go_wp2_with fail
    (with_reducible refine FSc.out.mono ?_)
    rintro e w1 ⟨A5, c5, rs2, rfl, hxs, hO4, hb4⟩
    have K := Lib.hid hxs
    clear hxs
    go_wp2_with fail
    go_ret
    rw [HG.out]
    exact ⟨A5, c5, rs2, by simp, by rw [K.out, fill_perms], by simpa using hO4, hb0.trans hb4⟩
  · have HG := Lib.hid (show permsG n = [] by unfold permsG; rw [if_neg h])
    have HD := Lib.hid (decide_eq_false h)
    have hB := Own.lit (lo := w.heap.size) w (Nat.le_refl _)
    have hb0 := (Below.refl w.heap.size w).alloc (Nat.le_refl _) (.cells #[] 24)
    clear h
    go_enter Try.func47, Try.ntmps47
    go_wp2_with fail
    (with_reducible refine (l1In_b n 0 6 w false HD.out).mono ?_)
    rintro e w' ⟨rfl, rfl⟩
    go_wp2_with fail
    go_ret
    rw [HG.out]
    exact ⟨_, _, [], rfl, rfl, hB, hb0⟩
end Go.Proofs.Ythipikllgpnlhaa
