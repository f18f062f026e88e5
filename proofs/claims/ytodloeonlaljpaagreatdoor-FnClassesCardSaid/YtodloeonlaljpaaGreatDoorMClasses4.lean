/- Several texts in one, each with its own head: H2, H1, H3, G1. No program of ours. -/
import Derived.Deep.DeepCutAuto
import Derived.Deep.CutRange
import Derived.Deep.RegionHeld3
import Derived.StillTailTactics
import Derived.Test.YtodloeonlaljpaaGreatDoorMClasses3
/- Does a pattern occur: the reference's search. -/
namespace Go.Proofs.YtodloeonlaljpaaGreatDoor
set_option maxRecDepth 100000
open Go Go.RowKit

def fit1 (p q m : List Int) (k : Nat) : Bool := decide (q[k]?.getD 0 < q[m.length - 1]?.getD 0) == decide ((atL p m)[k]?.getD 0 < (atL p m)[m.length - 1]?.getD 0)
def fit1To (p q m : List Int) (k : Nat) : Bool := (List.range k).all (fit1 p q m)
theorem fit1To_succ (p q m : List Int) (k : Nat) : fit1To p q m (k + 1) = (fit1To p q m k && fit1 p q m k) := by simp [fit1To, List.range_succ]
theorem fit1To_all (p q m : List Int) : fit1To p q m (m.length - 1) = fitsB p q m := rfl
theorem fit1To_false {p q m : List Int} {k n : Nat} (h : k < n) (h1 : fit1 p q m k = false) : fit1To p q m n = false := by
  unfold fit1To
  rw [List.all_eq_false]
  exact ⟨k, List.mem_range.2 h, by simp [h1]⟩

set_option maxHeartbeats 1000000 in
theorem l7Fits_any (A B D : Option Addr) (c d f N : Nat) (p q m : List Int) (w : World) (hn : m.length = N) (hN1 : 1 ≤ N) (hq : N ≤ q.length) (hq8 : q.length ≤ 1000) (hp8 : p.length ≤ 1000) (hm : ∀ x ∈ m, 1 ≤ x ∧ x ≤ p.length)
    (hpr : Rd (Value.int .i64) w w.heap.size A p) (hqr : Rd (Value.int .i64) w w.heap.size B q) (hmr : Rd (Value.int .i64) w w.heap.size D m) :
    Calls Tryz.prog 108 #[.slice A p.length c, .slice B q.length d, .slice D N f] w (Rq w (.bool (fitsB p q m))) := by
  have HG := Lib.hid (show fitsB p q m = fit1To p q m (N - 1) by rw [← fit1To_all, hn])
  have hnm : N - 1 < m.length := by omega
  have hq1 : N - 1 < q.length := by omega
  have hxl := hm m[N - 1] (List.getElem_mem hnm)
  have hn1000 : N ≤ 1000 := by omega
  have HN := Lib.hid hn
  obtain ⟨cx, hcx⟩ : ∃ cx : Nat, (cx : Int) + 1 = m[N - 1] := ⟨(m[N - 1] - 1).toNat, by omega⟩
  have hcxp : cx < p.length := by omega
  obtain ⟨bp, op, rfl, _, hcp⟩ := hpr (by omega)
  obtain ⟨bq, oq, rfl, _, hcq⟩ := hqr (by omega)
  obtain ⟨bm, om, rfl, _, hcm⟩ := hmr (by omega)
  have c1 := hcm (N - 1) hnm
  have c2 := hcp cx hcxp
  have c3 := hcq (N - 1) hq1
  rw [← hcx] at c1
  have HX := Lib.hid (show (atL p m)[m.length - 1]?.getD 0 = p[cx] by
    unfold atL
    rw [List.getElem?_map, hn, List.getElem?_eq_getElem hnm, ← hcx]
    simp only [Option.map_some, Option.getD_some, Int.add_sub_cancel, Int.toNat_natCast]
    rw [List.getElem?_eq_getElem hcxp]; rfl)
  have e1 : IntKind.i64.wrap ((cx : Int) + 1 - 1) = (cx : Int) := by rw [Int.add_sub_cancel]; exact IntWalk.i64_in _ (by omega)
  have e2 : (cx : Int) < (p.length : Int) := by omega
  have e3 : (N : Int) - 1 < (q.length : Int) := by omega
  have e30 : 1 ≤ (N : Int) := by omega
  have e31 : 0 ≤ (N : Int) - 1 := by omega
  have e32 : (N : Int) - 1 < (N : Int) := by omega
  have e33 : ((N : Int) - 1).toNat = N - 1 := by omega
  clear hn hxl hcx hpr hqr hmr
  go_enter Tryz.func108, Tryz.ntmps108
  go_wp2_with fail
  go_loopw [8] (fun i wr => ∃ k : Nat, k ≤ N - 1 ∧ i = .int .i64 k ∧ Hid (fit1To p q m k = true) ∧ Dr w wr) (fun i _ => N - 1 - (intOf i).toNat)
  case atStart => exact ⟨0, Nat.zero_le _, rfl, Lib.hid rfl, Dr.refl _⟩
  case round =>
    obtain ⟨k, hk, rfl, HF, hd⟩ := hrel
    rcases Nat.lt_or_ge k (N - 1) with hlt | hge
    · have hkm : k < m.length := by omega
      have hkl := hm m[k] (List.getElem_mem hkm)
      obtain ⟨ck, hck⟩ : ∃ ck : Nat, (ck : Int) + 1 = m[k] := ⟨(m[k] - 1).toNat, by omega⟩
      have hckp : ck < p.length := by omega
      have hkq : k < q.length := by omega
      have g1 : wr.cell? ⟨bm, om + (N - 1), none⟩ = some (.int .i64 ((cx : Int) + 1)) := (hd.cell _).trans c1
      have g2 : wr.cell? ⟨bp, op + cx, none⟩ = some (.int .i64 p[cx]) := (hd.cell _).trans c2
      have g3 : wr.cell? ⟨bq, oq + (N - 1), none⟩ = some (.int .i64 q[N - 1]) := (hd.cell _).trans c3
      have g4 : wr.cell? ⟨bm, om + k, none⟩ = some (.int .i64 m[k]) := (hd.cell _).trans (hcm k hkm)
      have g5 : wr.cell? ⟨bp, op + ck, none⟩ = some (.int .i64 p[ck]) := (hd.cell _).trans (hcp ck hckp)
      have g6 : wr.cell? ⟨bq, oq + k, none⟩ = some (.int .i64 q[k]) := (hd.cell _).trans (hcq k hkq)
      rw [← hck] at g4
      have HK := Lib.hid (show fit1 p q m k = (decide (q[k] < q[N - 1]) == decide (p[ck] < p[cx])) by
        unfold fit1
        rw [HX.out]
        have : (atL p m)[k]?.getD 0 = p[ck] := by
          unfold atL
          rw [List.getElem?_map, List.getElem?_eq_getElem hkm, ← hck]
          simp only [Option.map_some, Option.getD_some, Int.add_sub_cancel, Int.toNat_natCast]
          rw [List.getElem?_eq_getElem hckp]; rfl
        rw [this, HN.out, List.getElem?_eq_getElem hkq, List.getElem?_eq_getElem hq1]
        rfl)
      have e4 : IntKind.i64.wrap ((ck : Int) + 1 - 1) = (ck : Int) := by rw [Int.add_sub_cancel]; exact IntWalk.i64_in _ (by omega)
      have e5 : (ck : Int) < (p.length : Int) := by omega
      have e6 : (k : Int) < (q.length : Int) := by omega
      have e7 : (k : Int) < (N : Int) := by omega
      have e8 : (k : Int) < (N : Int) - 1 := by omega
      clear hkl hck
      by_cases hf : fit1 p q m k = true
      · have HH := Lib.hid (show fit1To p q m (k + 1) = true by rw [fit1To_succ, HF.out, hf]; rfl)
        have hne : (!(decide (q[k] < q[N - 1]) == decide (p[ck] < p[cx]))) = false := by
          have := HK.out
          rw [hf] at this
          revert this
          cases decide (q[k] < q[N - 1]) <;> cases decide (p[ck] < p[cx]) <;> simp
        clear hf HK
        go_wp2_with fail
        go_quiet (fail)
        go_wp2_with fail
        go_roundw
        case rel => exact ⟨k + 1, by omega, by go_num, HH, (by first | with_reducible assumption | with_reducible exact hd | with_reducible exact Dr.drewN hd _ | with_reducible exact Dr.drewN (Dr.drewN hd _) _ | with_reducible exact Dr.drew hd)⟩
        case measure => simp [intOf]; omega
      · have hff : fit1 p q m k = false := by simpa using hf
        have HH := Lib.hid (show fit1To p q m (N - 1) = false from fit1To_false hlt hff)
        have hne : (!(decide (q[k] < q[N - 1]) == decide (p[ck] < p[cx]))) = true := by
          have := HK.out
          rw [hff] at this
          revert this
          cases decide (q[k] < q[N - 1]) <;> cases decide (p[ck] < p[cx]) <;> simp
        clear hf hff HK
        go_wp2_with fail
        go_quiet (fail)
        go_wp2_with fail
        go_ret
        exact ⟨ret_bool (by rw [HG.out, HH.out]), (by first | with_reducible assumption | with_reducible exact hd | with_reducible exact Dr.drewN hd _ | with_reducible exact Dr.drewN (Dr.drewN hd _) _ | with_reducible exact Dr.drew hd)⟩
    · obtain rfl : k = N - 1 := by omega
      have e8 : ((N - 1 : Nat) : Int) = (N : Int) - 1 := by omega
      go_wp2_with fail
      go_ret
      exact ⟨ret_bool (by rw [HG.out, HF.out]), hd⟩
def findTo (p q : List Int) (k : Nat) (l : List Int) (u : Nat) : List (List Int) := ((marks (fromI l) u).filter fun x => fitsB p q (l ++ [x])).flatMap fun x => occF p q k (l ++ [x])
theorem findTo_succ (p q : List Int) (k : Nat) (l : List Int) (u : Nat) : findTo p q k l (u + 1) = if fitsB p q (l ++ [fromI l + u]) = true then findTo p q k l u ++ occF p q k (l ++ [fromI l + u]) else findTo p q k l u := by
  unfold findTo
  rw [marks_succ, List.filter_append]
  by_cases h : fitsB p q (l ++ [fromI l + u]) = true <;> simp [h]
theorem findTo_le (p q : List Int) (k : Nat) (l : List Int) (u : Nat) (h : 1 ≤ fromI l) : (findTo p q k l u).length ≤ u * p.length ^ k := by
  have hm : ∀ x ∈ (marks (fromI l) u).filter fun x => fitsB p q (l ++ [x]), (occF p q k (l ++ [x])).length ≤ p.length ^ k := fun x hx => by
    obtain ⟨i, _, rfl⟩ := List.mem_map.1 (List.mem_filter.1 hx).1
    exact occF_le p q k _ (by rw [fromI_snoc]; omega)
  have h1 := flatMap_le (fun x => occF p q k (l ++ [x])) (p.length ^ k) _ hm
  have h2 := List.length_filter_le (fun x => fitsB p q (l ++ [x])) (marks (fromI l) u)
  rw [marks_len] at h2
  exact Nat.le_trans h1 (Nat.mul_le_mul_right _ h2)
theorem Asc.le {n : Nat} {l : List Int} (h : Asc n l) : fromI l ≤ n + 1 := by
  rcases hl : l.getLast? with _ | x
  · simp [fromI, hl]; omega
  · have := h.1 x (List.mem_of_getLast? hl)
    simp only [fromI, hl]
    omega

set_option maxHeartbeats 8000000 in
theorem find_rec (p q : List Int) (hp8 : p.length ≤ 8) (hq8 : q.length ≤ 8) : ∀ (k : Nat) (F rs : List Row) (r : Row) (A B D : Option Addr) (c d f lo : Nat) (w : World), r.xs.length + k = q.length → Asc p.length r.xs → lo ≤ w.heap.size → rs.length + p.length ^ k ≤ 100000000 →
    Rd (Value.int .i64) w lo A p → Rd (Value.int .i64) w lo B q → Own w lo w.heap.size (F ++ rs ++ [r]) [⟨D, f, rs.map Row.v⟩] →
    Calls Tryz.prog 94 #[.slice A p.length c, .slice B q.length d, .slice r.A r.xs.length r.c, .slice D rs.length f] w (Filled w lo F rs (occF p q k r.xs)) := by
  obtain ⟨i0, hi, hz0, hz1, hz2⟩ := info_parts infoI
  obtain ⟨j0, hj, hy0, hy1, hy2⟩ := info_parts infoL
  intro k
  induction k with
  | zero =>
    intro F rs r A B D c d f lo w hr has hlo hcount hp hq hO
    have hcount : rs.length + 1 ≤ 100000000 := by simpa using hcount
    have d1 : ((r.xs.length : Int) == (q.length : Int)) = true := by simp; omega
    have ho := hO.outN (n := rs.length) (by simp)
    have HR := Lib.hid hr
    clear hr
    go_enter Tryz.func94, Tryz.ntmps94
    go_wp2_with (at_builtin; refine wpList_append_own _ rfl _ _ 24 rfl (lo) 27 j0 (.slice none 0 0) 1 24 Tryz.underlying24 hj hy0 hy1 hy2 rfl (by decide) _ _ _ rfl (World.ownsRow.alloc ho _) ⟨w.heap.size, 0, none⟩ 1 1 [Value.slice r.A r.xs.length r.c] rfl rfl (cell_one_at _ _ (by simp)) (by intro u hu; simp at hu; subst hu; rfl) (by unfold maxLen; omega) (by omega) (by simp; omega) ?_; intro v9 w9 hown9 hgrow9 _)
    obtain ⟨A5, c5, rfl, hO6, hg3⟩ := hO.grow (Nat.le_refl _) (by simp) hown9 hgrow9
    have hbw := (Below.refl lo w).grown hg3 hlo (fun g hg => (hO.olim (by simp) g hg).1)
    have K := Lib.hid (And.intro hO6 hbw)
    clear hO6 hbw hown9 hgrow9 hg3 hO ho
    go_wp2
    go_ret
    exact ⟨A5, c5, [r], rfl, rfl, by simpa [Row.v, List.append_assoc] using K.out.1, K.out.2⟩
  | succ k ih =>
    intro F rs r A B D c d f lo w hr has hlo hcount hp hq hO
    have d1 : ((r.xs.length : Int) == (q.length : Int)) = false := by simp; omega
    have hrl : r.xs.length < q.length := by omega
    have hfrom := has.from
    have hfromle := has.le
    obtain ⟨fr, hfr⟩ : ∃ fr : Nat, (fr : Int) = fromI r.xs := ⟨(fromI r.xs).toNat, by omega⟩
    have hfr1 : 1 ≤ fr := by omega
    have hfr2 : fr ≤ p.length + 1 := by omega
    obtain ⟨m, hm⟩ : ∃ m : Nat, m = ((p.length : Int) + 1 - fromI r.xs).toNat := ⟨_, rfl⟩
    have hmu : ∀ u : Nat, fr + u ≤ p.length ↔ u < m := fun u => by omega
    have hm8 : m ≤ p.length := by omega
    have HMU := Lib.hid hmu
    have HG := Lib.hid (show occF p q (k + 1) r.xs = findTo p q k r.xs m by rw [hm]; rfl)
    have HFR := Lib.hid hfr
    have hpow : ∀ u, u + 1 ≤ m → u * p.length ^ k + p.length ^ k ≤ p.length ^ (k + 1) := fun u hu => by
      have := Nat.mul_le_mul_right (p.length ^ k) (Nat.le_trans hu hm8)
      rw [Nat.add_mul, Nat.one_mul] at this
      rw [Nat.pow_succ, Nat.mul_comm (p.length ^ k)]
      exact this
    have HP := Lib.hid hpow
    have HR := Lib.hid hr
    have HC := Lib.hid hcount
    have hO0 : Own w lo w.heap.size (F ++ [r] ++ (rs ++ [])) [⟨D, f, (rs ++ []).map Row.v⟩] := by
      rw [List.append_nil]
      refine hO.perm ?_
      rw [List.append_assoc, List.append_assoc]
      exact List.Perm.append_left F List.perm_append_comm
    have hrd0 := own_row hO (r := r) (by simp) (Nat.le_refl _)
    clear hr hcount hpow hO hfr hm hmu
    go_enter Tryz.func94, Tryz.ntmps94
    go_upto_if 23 with (fail)
    go_cut [9] (fun s9 wx => s9 = .int .i64 (fr : Int) ∧ wx = w)
    case first =>
      rcases Nat.eq_zero_or_pos r.xs.length with h0 | h0
      · have h0f : r.xs = [] := List.eq_nil_of_length_eq_zero h0
        have HF := Lib.hid (show fr = 1 by have := HFR.out; rw [h0f, fromI_nil] at this; omega)
        have d2 : decide (0 < r.xs.length) = false := decide_eq_false (by omega)
        have d3 : r.xs.length ≤ 0 := by omega
        clear h0 h0f
        go_wp2_with fail
        go_meet
        exact ⟨by rw [HF.out]; rfl, rfl⟩
      · obtain ⟨b, off, hA, _, hc⟩ := hrd0.2 (by omega)
        have c1 := hc (r.xs.length - 1) (by omega)
        have HF := Lib.hid (show (fr : Int) = r.xs[r.xs.length - 1] + 1 by
          rw [HFR.out]
          have : r.xs.getLast? = some r.xs[r.xs.length - 1] := by rw [List.getLast?_eq_getElem?, List.getElem?_eq_getElem (by omega)]
          simp only [fromI, this])
        have d2 : decide (0 < r.xs.length) = true := decide_eq_true (by omega)
        have hb1 := has.1 r.xs[r.xs.length - 1] (List.getElem_mem (by omega))
        have e0 : 1 ≤ (r.xs.length : Int) := by omega
        have e2 : 0 ≤ (r.xs.length : Int) - 1 := by omega
        have e3 : (r.xs.length : Int) - 1 < r.xs.length := by omega
        have e1 : ((r.xs.length : Int) - 1).toNat = r.xs.length - 1 := by omega
        clear hc
        rw [hA]
        go_wp2_with fail
        rw [← hA]
        go_meet
        exact ⟨by rw [HF.out], rfl⟩
    case rest =>
      obtain ⟨rfl, rfl⟩ := hcut
      clear hrd0
      go_wp2_with fail
      go_loopw [3, 10] (fun o i wr => ∃ (u : Nat) (A1 : Option Addr) (c1 : Nat) (rs1 : List Row), u ≤ m ∧ i = .int .i64 ((fr : Int) + u) ∧ o = .slice A1 (rs.length + rs1.length) c1 ∧ Hid (rs1.map Row.xs = findTo p q k r.xs u) ∧
        Own wr lo wr.heap.size (F ++ [r] ++ (rs ++ rs1)) [⟨A1, c1, (rs ++ rs1).map Row.v⟩] ∧ Below lo wc wr ∧ lo ≤ wr.heap.size) (fun _ i _ => m - ((intOf i).toNat - fr))
      case atStart => exact ⟨0, D, f, [], Nat.zero_le _, by simp, rfl, Lib.hid rfl, hO0, Below.refl _ _, hlo⟩
      case round =>
        clear hO0
        obtain ⟨u, A1, c1, rs1, hu, rfl, rfl, HX, hO, hb, hlo1⟩ := hrel
        have hrd := own_row hO (r := r) (by simp) (Nat.le_refl _)
        rcases Nat.lt_or_ge u m with hlt | hge
        · have hle : fr + u ≤ p.length := (HMU.out u).2 hlt
          have own0 : (wr.alloc (.cells #[] 3)).ownsRow wr.heap.size 3 1 (.slice (some ⟨wr.heap.size, 0, none⟩) 0 0) 0 [] := World.ownsRow_lit wr #[] 0 (Nat.le_refl _) (by unfold maxLen; omega) rfl
          have hx0 := hrd.2.alloc (Nat.le_refl _) (.cells #[] 3)
          have hbA := (Below.refl wr.heap.size wr).alloc (Nat.le_refl _) (.cells #[] 3)
          go_wp2_with (first | ((at_builtin; refine wpList_append_rd _ rfl _ _ 27 rfl (wr.heap.size) 3 i0 (.int .i64 0) 8 Tryz.underlying27 hi hz0 hz1 hz2 rfl _ _ _ rfl own0 _ _ _ _ (r.xs) rfl rfl hx0 (fun _ => rfl) (by unfold maxLen; omega) (by omega) (by first | omega | (simp; done) | (simp; omega)) ?_; intro v1 w1 hown1 hgrow1); simp only [Nat.zero_add, List.nil_append] at hown1; obtain ⟨A3, c3, rfl, _, _⟩ := own_shape hown1; have hbB := hbA.grown hgrow1 (by simp) (fun g hg => (own0.lt g hg).1); have hszB := hbB.size) | (at_builtin; refine wpList_append_own _ rfl _ _ 27 rfl (wr.heap.size) 3 i0 (.int .i64 0) 1 8 Tryz.underlying27 hi hz0 hz1 hz2 rfl (by decide) _ _ _ rfl (World.ownsRow.alloc hown1 _) ⟨w1.heap.size, 0, none⟩ 1 1 [.int .i64 ((fr : Int) + u)] rfl rfl (cell_one_new _ _ _) (by intro u hu; simp at hu; subst hu; rfl) (by unfold maxLen; omega) (by omega) (by simp; omega) ?_; intro v2 w2 hown2 hgrow2 _))
          have hbC := (hbB.alloc hszB (Obj.cells #[Value.int .i64 ((fr : Int) + u)] 3)).grown hgrow2 (by simp; omega) (fun g hg => (hown1.lt g hg).1)
          have hrow : w2.ownsRow wr.heap.size 3 1 v2 (r.xs.length + 1) ((r.xs ++ [(fr : Int) + u]).map (Value.int .i64)) := by simpa using hown2
          obtain ⟨A4, c4, rfl, _, _⟩ := own_shape hrow
          have hszC := hbC.size
          have hO1 := hO.below hbC
          have hO2 := hO1.add (r := ⟨A4, c4, r.xs ++ [(fr : Int) + u]⟩) (by simpa [Row.v] using hrow) hszC hlo1
          have hb2 := hb.trans (hbC.mono hlo1)
          have hlo2 : lo ≤ w2.heap.size := by omega
          have hrow2 := own_row hO2 (r := ⟨A4, c4, r.xs ++ [(fr : Int) + u]⟩) (by simp) (Nat.le_refl _)
          have hp2 := hp.below hb2
          have hq2 := hq.below hb2
          have has2 : Asc p.length (r.xs ++ [(fr : Int) + u]) := has.snoc (ways_mem.2 ⟨by rw [← HFR.out]; omega, by omega⟩)
          have hmem : ∀ x ∈ r.xs ++ [(fr : Int) + u], 1 ≤ x ∧ x ≤ p.length := fun x hx => by have := has2.1 x hx; omega
          have hlen1 : (r.xs ++ [(fr : Int) + u]).length = r.xs.length + 1 := by simp
          have HT := Lib.hid (findTo_succ p q k r.xs u)
          have hcnt : rs.length + rs1.length + p.length ^ k ≤ 100000000 := by
            have h1 := congrArg List.length HX.out
            have h2 := findTo_le p q k r.xs u hfrom
            have h3 := HP.out u hlt
            have h4 := HC.out
            rw [List.length_map] at h1
            omega
          have HL1 := Lib.hid hlen1
          have hOk := hO1.wider (Nat.le_refl _) hszC
          clear hown1 hown2 hgrow1 hgrow2 hbA hbB hrow hx0 own0 hO hO1 hlen1
          go_wp2_with fail
          by_cases hft : fitsB p q (r.xs ++ [(fr : Int) + u]) = true
          · have HE := Lib.hid (show findTo p q k r.xs (u + 1) = findTo p q k r.xs u ++ occF p q k (r.xs ++ [(fr : Int) + u]) by rw [HT.out, ← HFR.out, if_pos hft])
            have HH := Lib.hid hft
            clear hft
            (with_reducible refine (l7Fits_any A B A4 c d c4 (r.xs.length + 1) p q (r.xs ++ [(fr : Int) + u]) w2 HL1.out (by omega) (by omega) (by omega) (by omega) hmem (hp2.more hlo2) (hq2.more hlo2) hrow2.2).mono ?_)
            rintro e w3 ⟨rfl, hd3⟩
            rw [HH.out]
            have hO3 := hO2.dr hd3
            have hsz3 : w3.heap.size = w2.heap.size := by rw [hd3.heap]
            rw [← hsz3] at hO3
            have hb3 := below_dr hb2 hd3
            have hlo3 : lo ≤ w3.heap.size := by omega
            have IH := ih (F ++ [r]) (rs ++ rs1) ⟨A4, c4, r.xs ++ [(fr : Int) + u]⟩ A B A1 c d c1 lo w3 (by have := HR.out; have := HL1.out; show (r.xs ++ [(fr : Int) + u]).length + k = _; omega) has2 hlo3 (by rw [List.length_append]; exact hcnt) (hp2.dr hd3) (hq2.dr hd3) hO3
            rw [show (Row.mk A4 c4 (r.xs ++ [(fr : Int) + u])).xs.length = r.xs.length + 1 by simp, List.length_append] at IH
            have IHH := Lib.hid IH
            clear IH hO2 hO3 hOk hsz3 hrow2
            go_wp2_with fail
            (with_reducible refine IHH.out.mono ?_)
            rintro e w4 ⟨A5, c5, rs2, rfl, hxs, hO4, hb4⟩
            have K := Lib.hid (And.intro hxs (And.intro hO4 (hb3.trans hb4)))
            have hlo4 : lo ≤ w4.heap.size := by have := hb4.size; omega
            clear hxs hO4 hb4 IHH hb2 hb3
            go_wp2_with fail
            go_roundw
            case rel => exact ⟨u + 1, A5, c5, rs1 ++ rs2, by omega, by go_num, by rw [List.length_append]; go_num, Lib.hid (by rw [HE.out, List.map_append, HX.out, K.out.1]), by rw [← List.append_assoc rs]; exact K.out.2.1, K.out.2.2, hlo4⟩
            case measure => simp [intOf]; omega
          · have hff : fitsB p q (r.xs ++ [(fr : Int) + u]) = false := by simpa using hft
            have HE := Lib.hid (show findTo p q k r.xs (u + 1) = findTo p q k r.xs u by rw [HT.out, ← HFR.out, if_neg hft])
            have HH := Lib.hid hff
            clear hft hff
            (with_reducible refine (l7Fits_any A B A4 c d c4 (r.xs.length + 1) p q (r.xs ++ [(fr : Int) + u]) w2 HL1.out (by omega) (by omega) (by omega) (by omega) hmem (hp2.more hlo2) (hq2.more hlo2) hrow2.2).mono ?_)
            rintro e w3 ⟨rfl, hd3⟩
            rw [HH.out]
            have hO3 := hOk.dr hd3
            have hsz3 : w3.heap.size = w2.heap.size := by rw [hd3.heap]
            rw [← hsz3] at hO3
            have hb3 := below_dr hb2 hd3
            have hlo3 : lo ≤ w3.heap.size := by omega
            clear hO2 hOk hsz3 hrow2 hb2
            go_wp2_with fail
            go_roundw
            case rel => exact ⟨u + 1, A1, c1, rs1, by omega, by go_num, rfl, Lib.hid (by rw [HE.out]; exact HX.out), hO3, hb3, hlo3⟩
            case measure => simp [intOf]; omega
        · obtain rfl : u = m := by omega
          have hgt : p.length < fr + u := by have := (HMU.out u); omega
          have hO2 : Own wr lo wr.heap.size (F ++ (rs ++ rs1)) [⟨A1, c1, (rs ++ rs1).map Row.v⟩] := hO.sub (by
            rw [List.append_assoc F]
            exact List.Sublist.append_left (List.sublist_append_right _ _) F)
          go_wp2_with fail
          go_ret
          exact ⟨A1, c1, rs1, rfl, by rw [HG.out]; exact HX.out, hO2, hb⟩
end Go.Proofs.YtodloeonlaljpaaGreatDoor

/- Does a pattern occur: the program's search. -/
namespace Go.Proofs.YtodloeonlaljpaaGreatDoor
set_option maxRecDepth 100000
open Go Go.RowKit

/-- The last of the chosen places fits with all before it (places counted from 0). -/
theorem fits_up {p q l : List Int} {i : Int} : fitsB p q (up (l ++ [i])) = (List.range l.length).all fun k => decide (q[k]?.getD 0 < q[l.length]?.getD 0) == decide (nth p (l[k]?.getD 0) < nth p i) := by
  unfold fitsB up
  simp only [List.map_append, List.map_cons, List.map_nil, List.length_append, List.length_map, List.length_cons, List.length_nil, Nat.zero_add, Nat.add_sub_cancel]
  rw [Bool.eq_iff_iff, List.all_eq_true, List.all_eq_true]
  have hat : ∀ k, k < l.length → (atL p (l.map (· + 1) ++ [i + 1]))[k]?.getD 0 = nth p (l[k]?.getD 0) := fun k hk => by
    unfold atL nth
    rw [List.getElem?_map, List.getElem?_append_left (by simpa using hk), List.getElem?_map, List.getElem?_eq_getElem hk]
    simp only [Option.map_some, Option.getD_some, Int.add_sub_cancel]
  have hlast : (atL p (l.map (· + 1) ++ [i + 1]))[l.length]?.getD 0 = nth p i := by
    unfold atL nth
    rw [List.getElem?_map, List.getElem?_append_right (by simp)]
    simp only [List.length_map, Nat.sub_self, List.getElem?_cons_zero, Option.map_some, Option.getD_some, Int.add_sub_cancel]
  constructor
  · intro h k hk
    have h1 := h k hk
    rw [hat k (List.mem_range.1 hk), hlast] at h1
    exact h1
  · intro h k hk
    rw [hat k (List.mem_range.1 hk), hlast]
    exact h k hk
/-- The fits among the first k of the chosen. -/
def fitTo (p q l : List Int) (i : Int) (k : Nat) : Bool := (List.range k).all fun k => decide (q[k]?.getD 0 < q[l.length]?.getD 0) == decide (nth p (l[k]?.getD 0) < nth p i)
theorem fitTo_succ (p q l : List Int) (i : Int) (k : Nat) : fitTo p q l i (k + 1) = (fitTo p q l i k && (decide (q[k]?.getD 0 < q[l.length]?.getD 0) == decide (nth p (l[k]?.getD 0) < nth p i))) := by
  simp [fitTo, List.range_succ]
theorem fitTo_all (p q l : List Int) (i : Int) : fitTo p q l i l.length = fitsB p q (up (l ++ [i])) := fits_up.symm
/-- What the search has found behind the first u places. -/
def hasTo (p q : List Int) (k : Nat) (l : List Int) (u : Nat) : Bool := (marks (from0 l) u).any fun i => fitsB p q (up (l ++ [i])) && hasF p q k (l ++ [i])
theorem hasTo_succ (p q : List Int) (k : Nat) (l : List Int) (u : Nat) : hasTo p q k l (u + 1) = (hasTo p q k l u || (fitsB p q (up (l ++ [from0 l + u])) && hasF p q k (l ++ [from0 l + u]))) := by
  unfold hasTo
  rw [marks_succ, List.any_append]
  simp
theorem hasTo_mono {p q : List Int} {k : Nat} {l : List Int} {u m : Nat} (h : u < m) (h1 : (fitsB p q (up (l ++ [from0 l + u])) && hasF p q k (l ++ [from0 l + u])) = true) : hasTo p q k l m = true := by
  unfold hasTo
  refine List.any_eq_true.2 ⟨from0 l + u, List.mem_map.2 ⟨u, List.mem_range.2 h, rfl⟩, h1⟩
/-- Chosen places, ascending and within p. -/
def Chos (n : Nat) (l : List Int) : Prop := (∀ x ∈ l, 0 ≤ x ∧ x < n) ∧ 0 ≤ from0 l ∧ from0 l ≤ n
theorem Chos.nil (n : Nat) : Chos n [] := ⟨by simp, by simp [from0], by simp [from0]⟩
theorem Chos.snoc {n : Nat} {l : List Int} (h : Chos n l) {x : Int} (h1 : 0 ≤ x) (h2 : x < n) : Chos n (l ++ [x]) := by
  refine ⟨fun y hy => ?_, by simp [from0]; omega, by simp [from0]; omega⟩
  rcases List.mem_append.1 hy with hy | hy
  · exact h.1 y hy
  · obtain rfl := List.mem_singleton.1 hy
    exact ⟨h1, h2⟩

set_option maxHeartbeats 8000000 in
theorem has_rec (p q : List Int) (hp8 : p.length ≤ 1000) (hq8 : q.length ≤ 1000) : ∀ (k : Nat) (l : List Int) (A B D : Option Addr) (c d f : Nat) (w : World), l.length + k = q.length → Chos p.length l →
    In w A c p → In w B d q → In w D f l →
    Calls Tryz.prog 43 #[.slice A p.length c, .slice B q.length d, .slice D l.length f] w (Rb w (.bool (hasF p q k l))) := by
  obtain ⟨i0, hi, hz0, hz1, hz2⟩ := info_parts infoI
  intro k
  induction k with
  | zero =>
    intro l A B D c d f w hk hch hp hq hl
    have d1 : ((l.length : Int) == (q.length : Int)) = true := by simp; omega
    have HK := Lib.hid hk
    clear hk
    go_enter Tryz.func43, Tryz.ntmps43
    go_wp2_with fail
    go_ret
    exact ⟨rfl, Below.refl _ _⟩
  | succ k ih =>
    intro l A B D c d f w hk hch hp hq hl
    have d1 : ((l.length : Int) == (q.length : Int)) = false := by simp; omega
    have hll : l.length ≤ 1000 := by omega
    have hlq : l.length < q.length := by omega
    obtain ⟨fr, hfr⟩ : ∃ fr : Nat, (fr : Int) = from0 l := ⟨(from0 l).toNat, by have := hch.2.1; omega⟩
    have hfr1 : fr ≤ p.length := by have := hch.2.2; omega
    have HFR := Lib.hid hfr
    obtain ⟨m, hm⟩ : ∃ m : Nat, m = ((p.length : Int) - (k + 1) + 1 - from0 l).toNat := ⟨_, rfl⟩
    have HM := Lib.hid hm
    have hm1 : ∀ u : Nat, (fr : Int) + u ≤ (p.length : Int) - (k + 1) ↔ u < m := fun u => by rw [hm, ← hfr]; omega
    have HM1 := Lib.hid hm1
    have HK := Lib.hid hk
    have HG := Lib.hid (show hasF p q (k + 1) l = hasTo p q k l m by rw [hm]; rfl)
    have hkq : (q.length : Int) - l.length = k + 1 := by omega
    clear hfr hm hm1 hk
    go_enter Tryz.func43, Tryz.ntmps43
    go_upto_if 20 with (fail)
    go_cut [7] (fun s7 wx => s7 = .int .i64 (fr : Int) ∧ wx = w)
    case first =>
      rcases Nat.eq_zero_or_pos l.length with h0 | h0
      · have h0f : l = [] := List.eq_nil_of_length_eq_zero h0
        have HF := Lib.hid (show fr = 0 by have := HFR.out; rw [h0f] at this; simp [from0] at this; omega)
        have d2 : decide (0 < l.length) = false := decide_eq_false (by omega)
        have d3 : l.length ≤ 0 := by omega
        clear h0 h0f
        go_wp2_with fail
        go_meet
        exact ⟨by rw [HF.out]; rfl, rfl⟩
      · obtain ⟨b, off, rfl, _, hc⟩ := hl.rd (by omega)
        have c1 := hc (l.length - 1) (by omega)
        have HF := Lib.hid (show (fr : Int) = l[l.length - 1] + 1 by
          rw [HFR.out]
          have hne : l ≠ [] := by intro e; rw [e] at h0; simp at h0
          have : l.getLast? = some l[l.length - 1] := by rw [List.getLast?_eq_getElem?, List.getElem?_eq_getElem (by omega)]
          simp only [from0, this])
        have d2 : decide (0 < l.length) = true := decide_eq_true (by omega)
        have hb1 := hch.1 l[l.length - 1] (List.getElem_mem (by omega))
        have e0 : 1 ≤ (l.length : Int) := by omega
        have e2 : 0 ≤ (l.length : Int) - 1 := by omega
        have e3 : (l.length : Int) - 1 < l.length := by omega
        have e1 : ((l.length : Int) - 1).toNat = l.length - 1 := by omega
        clear hc
        go_wp2_with fail
        go_meet
        exact ⟨by rw [HF.out], rfl⟩
    case rest =>
      obtain ⟨rfl, rfl⟩ := hcut
      go_wp2_with fail
      go_loopw [9] (fun i wr => ∃ u : Nat, u ≤ m ∧ i = .int .i64 ((fr : Int) + u) ∧ Hid (hasTo p q k l u = false) ∧ Below wc.heap.size wc wr) (fun i _ => m - ((intOf i).toNat - fr))
      case atStart => exact ⟨0, Nat.zero_le _, by simp, Lib.hid rfl, Below.refl _ _⟩
      case round =>
        obtain ⟨u, hu, rfl, HN, hb⟩ := hrel
        have hum := HM1.out u
        rcases Nat.lt_or_ge u m with hlt | hge
        · have hle : (fr : Int) + u ≤ (p.length : Int) - (k + 1) := hum.2 hlt
          have hpi : fr + u < p.length := by omega
          have hpr := (hp.next hb).rd
          have hqr := (hq.next hb).rd
          obtain ⟨bp, op, rfl, _, hcp⟩ := hpr (by omega)
          obtain ⟨bq, oq, rfl, _, hcq⟩ := hqr (by omega)
          have cpi := hcp (fr + u) hpi
          have cqk := hcq l.length hlq
          obtain ⟨wo, rfl⟩ : ∃ wo : World, wo = wr := ⟨_, rfl⟩
          have hni : nth p ((fr : Int) + u) = p[fr + u] := by
            unfold nth
            rw [show ((fr : Int) + u).toNat = fr + u by omega, List.getElem?_eq_getElem hpi]; rfl
          have HNI := Lib.hid hni
          clear hum hpr hqr hni
          go_wp2_with fail
          go_loopw [10, 44] (fun s i wr => ∃ j : Nat, j ≤ l.length ∧ i = .int .i64 j ∧ s = .bool (fitTo p q l ((fr : Int) + u) j) ∧ Dr wo wr) (fun _ i _ => l.length - (intOf i).toNat)
          case atStart => exact ⟨0, Nat.zero_le _, rfl, rfl, Dr.refl _⟩
          case round =>
            obtain ⟨j, hj, rfl, rfl, hd⟩ := hrel
            rcases Nat.lt_or_ge j l.length with hjl | hjg
            · obtain ⟨bl, ol, rfl, _, hcl⟩ := (hl.next hb).rd (by omega)
              have c1 : wr.cell? ⟨bl, ol + j, none⟩ = some (.int .i64 l[j]) := (hd.cell _).trans (hcl j hjl)
              have hlj := hch.1 l[j] (List.getElem_mem hjl)
              obtain ⟨cj, hcj⟩ : ∃ cj : Nat, (cj : Int) = l[j] := ⟨l[j].toNat, by omega⟩
              have hcjp : cj < p.length := by omega
              have hjq : j < q.length := by omega
              have c2 : wr.cell? ⟨bp, op + cj, none⟩ = some (.int .i64 p[cj]) := (hd.cell _).trans (hcp cj hcjp)
              have c3 : wr.cell? ⟨bp, op + (fr + u), none⟩ = some (.int .i64 p[fr + u]) := (hd.cell _).trans cpi
              have c4 : wr.cell? ⟨bq, oq + j, none⟩ = some (.int .i64 q[j]) := (hd.cell _).trans (hcq j hjq)
              have c5 : wr.cell? ⟨bq, oq + l.length, none⟩ = some (.int .i64 q[l.length]) := (hd.cell _).trans cqk
              rw [← hcj] at c1
              have HT := Lib.hid (show fitTo p q l ((fr : Int) + u) (j + 1) = (fitTo p q l ((fr : Int) + u) j && (decide (p[cj] < p[fr + u]) == decide (q[j] < q[l.length]))) by
                rw [fitTo_succ, HNI.out, List.getElem?_eq_getElem hjl, List.getElem?_eq_getElem hjq, List.getElem?_eq_getElem hlq]
                have : nth p l[j] = p[cj] := by unfold nth; rw [← hcj, Int.toNat_natCast, List.getElem?_eq_getElem hcjp]; rfl
                simp only [Option.getD_some, this]
                congr 1
                exact Bool.beq_comm)
              have e1 : IntKind.i64.wrap ((fr : Int) + u) = (fr : Int) + u := IntWalk.i64_in _ (by omega)
              have e2 : ((fr : Int) + u).toNat = fr + u := by omega
              have e3 : 0 ≤ (fr : Int) + u := by omega
              have e4 : (fr : Int) + u < (p.length : Int) := by omega
              have e5 : (cj : Int) < (p.length : Int) := by omega
              have e6 : (j : Int) < (q.length : Int) := by omega
              have e7 : (l.length : Int) < (q.length : Int) := by omega
              clear hcl hcj hlj
              by_cases hf : fitTo p q l ((fr : Int) + u) j = true
              · have HF := Lib.hid hf
                rw [hf]
                clear hf
                go_wp2_with fail
                go_quiet (fail)
                go_wp2_with fail
                go_roundw
                case rel => exact ⟨j + 1, by omega, by go_num, by rw [HT.out, HF.out, Bool.true_and], (by first | with_reducible assumption | with_reducible exact hd | with_reducible exact Dr.drewN hd _ | with_reducible exact Dr.drewN (Dr.drewN hd _) _ | with_reducible exact Dr.drew hd)⟩
                case measure => simp [intOf]; omega
              · have hff : fitTo p q l ((fr : Int) + u) j = false := by simpa using hf
                have HF := Lib.hid hff
                rw [hff]
                clear hf hff
                go_wp2_with fail
                go_quiet (fail)
                go_wp2_with fail
                go_roundw
                case rel => exact ⟨j + 1, by omega, by go_num, by rw [HT.out, HF.out, Bool.false_and], (by first | with_reducible assumption | with_reducible exact hd | with_reducible exact Dr.drewN hd _ | with_reducible exact Dr.drewN (Dr.drewN hd _) _ | with_reducible exact Dr.drew hd)⟩
                case measure => simp [intOf]; omega
            · obtain rfl : j = l.length := by omega
              have hbd := below_dr hb hd
              have hszd := hbd.size
              have hl2 := hl.next hbd
              have HHS := Lib.hid (hasTo_succ p q k l u)
              have HFE := Lib.hid (fitTo_all p q l ((fr : Int) + u))
              by_cases hf : fitTo p q l ((fr : Int) + u) l.length = true
              · have HF := Lib.hid (show fitsB p q (up (l ++ [(fr : Int) + u])) = true by rw [← HFE.out]; exact hf)
                rw [hf]
                clear hf
                go_wp2_with fail
                (with_reducible refine (clone_any D f l wr hl2).mono ?_)
                rintro e w2 ⟨A3, c3, rfl, _, _, hown, hbc⟩
                have hszc := hbc.size
                go_wp2_with (at_builtin; refine wpList_append_own_g _ (by rfl) _ _ 27 rfl (wr.heap.size) 3 i0 (.int .i64 0) 1 8 Tryz.underlying27 hi hz0 hz1 hz2 rfl (by decide) _ _ _ rfl (World.ownsRow.alloc hown _) ⟨w2.heap.size, 0, none⟩ 1 1 [.int .i64 ((fr : Int) + u)] rfl rfl (cell_one_new _ _ _) (by intro u hu; simp at hu; subst hu; rfl) (by unfold maxLen; omega) (by omega) (by simp; omega) ?_; intro v1 w1 hown1 hgrow1 _)
                have hrow : w1.ownsRow wr.heap.size 3 1 v1 (l ++ [(fr : Int) + u]).length ((l ++ [(fr : Int) + u]).map (Value.int .i64)) := by simpa using hown1
                obtain ⟨A4, c4, rfl, hA41, _⟩ := own_shape hrow
                have hg1 := grown_trans (World.grownBy_alloc w2 (Obj.cells #[Value.int .i64 ((fr : Int) + u)] 3) _) hgrow1
                have hlm := fun g hg => hown.lt g hg
                have hbw := hbc.grown hg1 hszc (fun g hg => (hlm g hg).1)
                have hbw2 := hbd.trans (hbw.mono hszd)
                have hin : In w1 A4 c4 (l ++ [(fr : Int) + u]) := ⟨by rw [List.length_append, List.length_singleton]; omega, hA41, Rd.of_own hrow⟩
                have hch2 := hch.snoc (x := (fr : Int) + u) (by omega) (by omega)
                have IH := ih (l ++ [(fr : Int) + u]) (some ⟨bp, op, none⟩) (some ⟨bq, oq, none⟩) A4 c d c4 w1 (by have := HK.out; rw [List.length_append, List.length_singleton]; omega) hch2 (hp.next hbw2) (hq.next hbw2) hin
                have IHH := Lib.hid (Calls.mono IH (fun e w' h => h))
                clear hown hown1 hgrow1 hg1 hrow hlm hbc hbw hin hch2 IH
                (with_reducible refine IHH.out.mono ?_)
                rintro e w3 ⟨rfl, hb3⟩
                have hbz := hbw2.trans (hb3.mono hbw2.size)
                by_cases hr : hasF p q k (l ++ [(fr : Int) + u]) = true
                · have HE := Lib.hid (show hasTo p q k l m = true from hasTo_mono hlt (by rw [← HFR.out, HF.out, hr]; rfl))
                  rw [hr]
                  clear hr IHH hbw2 hb3
                  go_wp2_with fail
                  go_ret
                  exact ⟨ret_bool (by rw [HG.out, HE.out]), hbz⟩
                · have hrf : hasF p q k (l ++ [(fr : Int) + u]) = false := by simpa using hr
                  have HE := Lib.hid (show hasTo p q k l (u + 1) = false by rw [HHS.out, HN.out, ← HFR.out, hrf]; simp)
                  rw [hrf]
                  clear hr hrf IHH hbw2 hb3
                  go_wp2_with fail
                  go_roundw
                  case rel => exact ⟨u + 1, by omega, by go_num, HE, hbz⟩
                  case measure => simp [intOf]; omega
              · have hff : fitTo p q l ((fr : Int) + u) l.length = false := by simpa using hf
                have HE := Lib.hid (show hasTo p q k l (u + 1) = false by
                  rw [HHS.out, HN.out, ← HFR.out, ← HFE.out, hff]; rfl)
                rw [hff]
                clear hf hff
                go_wp2_with fail
                go_roundw
                case rel => exact ⟨u + 1, by omega, by go_num, HE, hbd⟩
                case measure => simp [intOf]; omega
        · have hnle : ¬ ((fr : Int) + u ≤ (p.length : Int) - (k + 1)) := fun h => by have := hum.1 h; omega
          obtain rfl : u = m := by omega
          have hgt : (p.length : Int) - (k + 1) < (fr : Int) + u := by omega
          clear hum
          go_wp2_with fail
          go_ret
          exact ⟨ret_bool (by rw [HG.out, HN.out]), hb⟩
theorem has_b (A B : Option Addr) (c d : Nat) (p q : List Int) (w : World) (b : Bool) (hp : In w A c p) (hq : In w B d q) (hp8 : p.length ≤ 1000) (hq8 : q.length ≤ 1000) (hb : hasB p q = b) :
    Calls Tryz.prog 43 #[.slice A p.length c, .slice B q.length d, .slice none 0 0] w (Rb w (.bool b)) := by
  have h := has_rec p q hp8 hq8 q.length [] A B none c d 0 w (by simp) (Chos.nil _) hp hq ⟨by simp, by simp, Rd.nil_⟩
  rw [hasF_all, hb] at h
  exact h

/-- The program's order: by length, then letter by letter. -/
def cmpP (p q : List Int) : Int := if p.length = q.length then cmpL p q else cmpI p.length q.length
/-- The first number that is not zero. -/
def orL : List Int → Int
  | [] => 0
  | x :: t => if x = 0 then orL t else x
theorem orL_zero (xs : List Int) (k : Nat) (h : ∀ x ∈ xs.take k, x = 0) (hk : k ≤ xs.length) : orL xs = orL (xs.drop k) := by
  induction k generalizing xs with
  | zero => rfl
  | succ k ih =>
    cases xs with
    | nil => simp at hk
    | cons a t =>
      have ha := h a (by simp)
      have := ih t (fun x hx => h x (by simp [hx])) (by simpa using hk)
      simp only [orL, List.drop_succ_cons, if_pos ha]
      exact this
set_option maxHeartbeats 800000 in
theorem or_any (A : Option Addr) (c n : Nat) (xs : List Int) (w : World) (hn : xs.length = n) (hl : n ≤ 4611686018427387904) (hx : Rd (Value.int .i64) w w.heap.size A xs) :
    Calls Tryz.prog 91 #[.slice A n c] w fun e w' => e = .returned (.int .i64 (orL xs)) ∧ w = w' := by
  subst hn
  go_enter Tryz.func91, Tryz.ntmps91
  go_wp2
  go_loop [8] (fun i => ∃ k : Nat, k ≤ xs.length ∧ i = .int .i64 k ∧ ∀ x ∈ xs.take k, x = 0) (fun i => xs.length - (intOf i).toNat)
  case atStart => exact ⟨0, Nat.zero_le _, rfl, by simp⟩
  case round =>
    obtain ⟨k, hk, rfl, hz⟩ := hrel
    have HZ := Lib.hid hz
    clear hz
    rcases Nat.lt_or_ge k xs.length with hlt | hge
    · obtain ⟨b, off, rfl, _, hc⟩ := hx (by omega)
      have c1 := hc k hlt
      clear hc
      by_cases he : xs[k] = 0
      · have hd : (xs[k] != 0) = false := by simp [he]
        have HE := Lib.hid he
        clear he
        go_wp2
        go_round
        case rel => exact ⟨k + 1, by omega, by go_num, by
          intro x hx
          rw [List.take_succ_eq_append_getElem hlt] at hx
          rcases List.mem_append.1 hx with h | h
          · exact HZ.out x h
          · rw [List.mem_singleton.1 h]; exact HE.out⟩
        case measure => simp [intOf]; omega
      · have hd : (xs[k] != 0) = true := by simp [he]
        have HO := Lib.hid (show orL xs = xs[k] by rw [orL_zero xs k HZ.out hk, List.drop_eq_getElem_cons hlt, orL, if_neg he])
        clear he
        go_wp2
        go_ret
        exact ⟨ret_int HO.out.symm, rfl⟩
    · have HO := Lib.hid (show orL xs = 0 by rw [orL_zero xs k HZ.out hk, List.drop_eq_nil_of_le hge]; rfl)
      go_wp2
      go_ret
      exact ⟨ret_int HO.out.symm, rfl⟩
theorem cmpP_or (p q : List Int) : orL [cmpI p.length q.length, cmpL p q] = cmpP p q := by
  unfold cmpP
  by_cases h : p.length = q.length
  · have : cmpI (p.length : Int) q.length = 0 := (cmpI_zero _ _).2 (by rw [h])
    rw [if_pos h, this]
    simp only [orL, if_pos]
    split
    · rename_i h0; exact h0.symm
    · rfl
  · have : cmpI (p.length : Int) q.length ≠ 0 := fun h0 => h (by have := (cmpI_zero _ _).1 h0; omega)
    rw [if_neg h]
    simp only [orL, if_neg this]
set_option maxHeartbeats 800000 in
theorem comparePerms_any (A A' : Option Addr) (c c' n m : Nat) (p q : List Int) (w : World) (hn : p.length = n) (hm : q.length = m) (hl : n ≤ 1048576) (hl' : m ≤ 1048576)
    (hx : Rd (Value.int .i64) w w.heap.size A p) (hy : Rd (Value.int .i64) w w.heap.size A' q) :
    Calls Tryz.prog 61 #[.slice A n c, .slice A' m c'] w (Rb w (.int .i64 (cmpP p q))) := by
  subst hn hm
  have HO := Lib.hid (cmpP_or p q)
  have hnew : Rd (Value.int .i64) (w.alloc (Obj.cells #[.int .i64 (cmpI p.length q.length), .int .i64 (cmpL p q)] 3)) (w.alloc (Obj.cells #[.int .i64 (cmpI p.length q.length), .int .i64 (cmpL p q)] 3)).heap.size (some ⟨w.heap.size, 0, none⟩) [cmpI p.length q.length, cmpL p q] :=
    Rd.of_own (c := 2) (World.ownsRow_lit (base := w.heap.size) w #[.int .i64 (cmpI p.length q.length), .int .i64 (cmpL p q)] 2 (Nat.le_refl _) (by unfold maxLen; omega) rfl)
  have hb0 := (Below.refl w.heap.size w).alloc (Nat.le_refl _) (Obj.cells #[.int .i64 (cmpI p.length q.length), .int .i64 (cmpL p q)] 3)
  go_enter Tryz.func61, Tryz.ntmps61
  go_wp2_with fail
  (with_reducible refine (compare_any (p.length : Int) (q.length : Int) w).mono ?_)
  rintro e w' ⟨rfl, rfl⟩
  go_wp2_with fail
  (with_reducible refine (compareS_any A A' c c' p.length q.length p q w rfl rfl (by omega) (by omega) hx hy).mono ?_)
  rintro e w' ⟨rfl, rfl⟩
  go_wp2_with fail
  (with_reducible refine (or_any (some ⟨w.heap.size, 0, none⟩) 2 2 [cmpI p.length q.length, cmpL p q] _ rfl (by omega) hnew).mono ?_)
  rintro e w' ⟨rfl, rfl⟩
  go_wp2_with fail
  go_ret
  exact ⟨ret_int HO.out, hb0⟩
end Go.Proofs.YtodloeonlaljpaaGreatDoor

/- Occurrences and bases: the roots of the searches, IsBasis in program and reference. -/
namespace Go.Proofs.YtodloeonlaljpaaGreatDoor
set_option maxRecDepth 100000
open Go Go.RowKit

/-- The two empty literals that the search begins with. -/
theorem find_root (A B : Option Addr) (c d : Nat) (p q : List Int) (w : World) (hp : In w A c p) (hq : In w B d q) (hp8 : p.length ≤ 8) (hq8 : q.length ≤ 8) :
    Calls Tryz.prog 94 #[.slice A p.length c, .slice B q.length d, .slice (some ⟨w.heap.size, 0, none⟩) 0 0, .slice (some ⟨w.heap.size + 1, 0, none⟩) 0 0] ((w.alloc (.cells #[] 3)).alloc (.cells #[] 27)) (RetL w (occL p q)) := by
  have own0 : (w.alloc (.cells #[] 3)).ownsRow w.heap.size 3 1 (Row.v ⟨some ⟨w.heap.size, 0, none⟩, 0, []⟩) 0 (([] : List Int).map (Value.int .i64)) := World.ownsRow_lit w #[] 0 (Nat.le_refl _) (by unfold maxLen; omega) rfl
  have hA : Own (w.alloc (.cells #[] 3)) w.heap.size (w.heap.size + 1) [⟨some ⟨w.heap.size, 0, none⟩, 0, []⟩] [] := by
    have := Own.add (os := []) (r := ⟨some ⟨w.heap.size, 0, none⟩, 0, []⟩) (Own.nil_ (w := w.alloc (.cells #[] 3)) (lo := w.heap.size) (hi := w.heap.size)) own0 (by simp) (Nat.le_refl _)
    simpa using this
  have hB : Own ((w.alloc (.cells #[] 3)).alloc (.cells #[] 27)) w.heap.size (w.heap.size + 1 + 1) [⟨some ⟨w.heap.size, 0, none⟩, 0, []⟩] [⟨some ⟨w.heap.size + 1, 0, none⟩, 0, []⟩] := by
    have h1 := hA.below ((Below.refl _ _).alloc (Nat.le_refl _) (.cells #[] 27))
    exact (h1.wider (Nat.le_refl _) (Nat.le_succ _)).with_ (A := some ⟨w.heap.size + 1, 0, none⟩) (c := 0) (vs := []) (by
      have := World.ownsRow_lit (base := w.heap.size) (e := 27) (size := 1) (w.alloc (.cells #[] 3)) #[] 0 (by simp) (by unfold maxLen; omega) rfl
      simpa using this) (by simp)
  have hb0 : Below w.heap.size w ((w.alloc (.cells #[] 3)).alloc (.cells #[] 27)) := ((Below.refl _ _).alloc (Nat.le_refl _) _).alloc (by simp) _
  have hpow : p.length ^ q.length ≤ 16777216 := by
    have h1 : p.length ^ q.length ≤ 8 ^ q.length := Nat.pow_le_pow_left hp8 _
    have h2 : 8 ^ q.length ≤ 8 ^ 8 := Nat.pow_le_pow_right (by omega) hq8
    omega
  have FSc := find_rec p q hp8 hq8 q.length [] [] ⟨some ⟨w.heap.size, 0, none⟩, 0, []⟩ A B (some ⟨w.heap.size + 1, 0, none⟩) c d 0 w.heap.size ((w.alloc (.cells #[] 3)).alloc (.cells #[] 27)) (by simp) (Asc.nil _) (by simp; omega) (by simp; omega) (hp.rd.below hb0) (hq.rd.below hb0) (by simpa using hB)
  exact FSc.mono fun e w' ⟨A', c', rs', he, hx, hO, hb⟩ => ⟨A', c', rs', by simpa using he, hx, by simpa using hO, hb0.trans hb⟩
set_option maxHeartbeats 800000 in
theorem l7Has_b (A B : Option Addr) (c d : Nat) (p q : List Int) (w : World) (b : Bool) (hp : In w A c p) (hq : In w B d q) (hp8 : p.length ≤ 8) (hq8 : q.length ≤ 8) (hb : hasB p q = b) :
    Calls Tryz.prog 63 #[.slice A p.length c, .slice B q.length d] w (Rb w (.bool b)) := by
  subst hb
  have FR := Lib.hid (find_root A B c d p q w hp hq hp8 hq8)
  go_enter Tryz.func63, Tryz.ntmps63
  go_wp2_with fail
  (with_reducible refine FR.out.mono ?_)
  rintro e w1 ⟨A1, c1, rs, rfl, hX, hO, hb1⟩
  have HE := Lib.hid (show decide (0 < rs.length) = hasB p q by
    unfold hasB
    rw [← hX]
    cases rs <;> simp)
  clear hX hO FR
  go_wp2_with fail
  go_ret
  exact ⟨ret_bool (by first | exact HE.out | (rw [← HE.out]; simp; done) | (rw [← HE.out, Bool.eq_iff_iff]; simp; omega)), hb1⟩

/-- What a basis asks at the place k. -/
def basAt (L : List (List Int)) (k : Nat) : Bool :=
  permB (L[k]?.getD []) && decide ((L[k]?.getD []).length ≠ 0) && (decide (k = 0) || decide (cmpP (L[k - 1]?.getD []) (L[k]?.getD []) < 0)) && (List.range k).all fun i => !hasB (L[k]?.getD []) (L[i]?.getD [])
def basTo (L : List (List Int)) (k : Nat) : Bool := (List.range k).all (basAt L)
theorem basTo_succ (L : List (List Int)) (k : Nat) : basTo L (k + 1) = (basTo L k && basAt L k) := by simp [basTo, List.range_succ]
theorem basTo_false {L : List (List Int)} {k m : Nat} (h : k < m) (ht : basAt L k = false) : basTo L m = false := by
  unfold basTo
  rw [List.all_eq_false]
  exact ⟨k, List.mem_range.2 h, by simp [ht]⟩
theorem basTo_perm {L : List (List Int)} {k j : Nat} (h : basTo L k = true) (hj : j < k) (hl : j < L.length) : permB L[j] = true := by
  unfold basTo at h
  have := List.all_eq_true.1 h j (List.mem_range.2 hj)
  unfold basAt at this
  rw [List.getElem?_eq_getElem hl] at this
  simp only [Option.getD_some, Bool.and_eq_true] at this
  exact this.1.1.1
def basisB (L : List (List Int)) : Bool := decide (L.length ≤ 8) && basTo L L.length
def nohasTo (L : List (List Int)) (p : List Int) (i : Nat) : Bool := (List.range i).all fun i => !hasB p (L[i]?.getD [])
theorem nohasTo_succ (L : List (List Int)) (p : List Int) (i : Nat) : nohasTo L p (i + 1) = (nohasTo L p i && !hasB p (L[i]?.getD [])) := by simp [nohasTo, List.range_succ]
theorem nohasTo_false {L : List (List Int)} {p : List Int} {k m : Nat} (h : k < m) (ht : hasB p (L[k]?.getD []) = true) : nohasTo L p m = false := by
  unfold nohasTo
  rw [List.all_eq_false]
  exact ⟨k, List.mem_range.2 h, by simp [ht]⟩
theorem before_cmp (p q : List Int) : before p q = decide (cmpP p q < 0) := by
  unfold before cmpP
  by_cases h : p.length = q.length
  · rw [if_pos h, if_pos h]
  · rw [if_neg h, if_neg h]
    unfold cmpI
    rw [decide_eq_decide]
    constructor
    · intro hlt; rw [if_pos (by omega)]; omega
    · intro hlt
      split at hlt
      · omega
      · split at hlt <;> omega
theorem basAt_row {rs : List Row} {k : Nat} (hk : k < rs.length) : basAt (rs.map Row.xs) k = (permB rs[k].xs && decide (rs[k].xs.length ≠ 0) && (decide (k = 0) || decide (cmpP ((rs.map Row.xs)[k - 1]?.getD []) rs[k].xs < 0)) && nohasTo (rs.map Row.xs) rs[k].xs k) := by
  have hX : (rs.map Row.xs)[k]?.getD [] = rs[k].xs := by simp [hk]
  unfold basAt nohasTo
  rw [hX]
theorem getX {rs : List Row} {k : Nat} (hk : k < rs.length) : (rs.map Row.xs)[k]?.getD [] = rs[k].xs := by simp [hk]

set_option maxHeartbeats 4000000 in
theorem basis_impl (A : Option Addr) (c : Nat) (rs : List Row) (w : World) (h : InL w A c rs) :
    Calls Tryz.prog 22 #[.slice A rs.length c] w (Rb w (.bool (basisB (rs.map Row.xs)))) := by
  have hlen := h.len
  have hcap := h.read.ocap _ (List.mem_singleton.2 rfl)
  simp only [List.length_map] at hcap
  by_cases h8 : rs.length ≤ 8
  · have HB := Lib.hid (show basisB (rs.map Row.xs) = basTo (rs.map Row.xs) rs.length by unfold basisB; rw [List.length_map, decide_eq_true h8, Bool.true_and])
    go_enter Tryz.func22, Tryz.ntmps22
    go_wp2_with fail
    go_loopw [12] (fun i wr => ∃ k : Nat, k ≤ rs.length ∧ i = .int .i64 k ∧ Hid (basTo (rs.map Row.xs) k = true) ∧ Below w.heap.size w wr) (fun i _ => rs.length - (intOf i).toNat)
    case atStart => exact ⟨0, Nat.zero_le _, rfl, Lib.hid rfl, Below.refl _ _⟩
    case round =>
      obtain ⟨k, hk, rfl, HA, hb⟩ := hrel
      by_cases hlt : k < rs.length
      · have hL := h.next hb
        obtain ⟨b, off, rfl, _, hc⟩ := hL.read.at (by omega)
        have c1 := hc k hlt
        have HK := Lib.hid (basAt_row hlt)
        have HS := Lib.hid (basTo_succ (rs.map Row.xs) k)
        have hin := hL.row (List.getElem_mem hlt)
        clear hc
        go_wp2_with fail
        by_cases hp : permB rs[k].xs = true
        · have HP := Lib.hid hp
          clear hp
          (with_reducible refine (isPerm_ib rs[k].A rs[k].c rs[k].xs wr true hin HP.out).mono ?_)
          rintro e w1 ⟨rfl, hb1⟩
          have hb2 := hb.trans (hb1.mono hb.size)
          have hL2 := h.next hb2
          obtain ⟨b', off', he, _, hc⟩ := hL2.read.at (by omega)
          injection he with he
          injection he with he1 he2 _
          subst he1 he2
          have hin2 := hL2.row (List.getElem_mem hlt)
          have hp8 := (permB_true HP.out).1
          clear hb1
          by_cases h0 : rs[k].xs.length = 0
          · have HF := Lib.hid (show basTo (rs.map Row.xs) rs.length = false from basTo_false hlt (by rw [HK.out, h0]; simp))
            have d0 : ((rs[k].xs.length : Int) == 0) = true := by simp; exact List.eq_nil_of_length_eq_zero h0
            clear h0 hc
            go_wp2_with fail
            go_ret
            exact ⟨ret_bool (by rw [HB.out, HF.out]), hb2⟩
          · have d0 : ((rs[k].xs.length : Int) == 0) = false := by simp; intro e; rw [e] at h0; simp at h0
            have HL0 := Lib.hid (show decide (rs[k].xs.length ≠ 0) = true from decide_eq_true h0)
            clear h0
            by_cases hg : k = 0 ∨ cmpP ((rs.map Row.xs)[k - 1]?.getD []) rs[k].xs < 0
            · have HG := Lib.hid (show (decide (k = 0) || decide (cmpP ((rs.map Row.xs)[k - 1]?.getD []) rs[k].xs < 0)) = true by
                rcases hg with hg | hg
                · rw [decide_eq_true hg]; rfl
                · rw [decide_eq_true hg, Bool.or_true])
              rcases Nat.eq_zero_or_pos k with hk0 | hk0
              case' inl =>
                have d1 : decide ((k : Int) > 0) = false := decide_eq_false (by omega)
                have d2 : k ≤ 0 := by omega
                obtain ⟨w3, hw3⟩ : ∃ w3, w3 = w1 := ⟨_, rfl⟩
                subst hw3
                have hb3 := hb2
                clear hg hc hk0
                go_wp2_with fail
              case' inr =>
                have d1 : decide ((k : Int) > 0) = true := decide_eq_true (by omega)
                have d2 : decide (0 < k) = true := decide_eq_true (by omega)
                have hpl : k - 1 < rs.length := by omega
                have c2 := hc (k - 1) hpl
                have hinp := hL2.row (List.getElem_mem hpl)
                have e0 : 1 ≤ (k : Int) := by omega
                have e2 : 0 ≤ (k : Int) - 1 := by omega
                have e3 : (k : Int) - 1 < rs.length := by omega
                have e1 : ((k : Int) - 1).toNat = k - 1 := by omega
                have HCM := Lib.hid (show decide (cmpP rs[k - 1].xs rs[k].xs ≥ 0) = false by
                  rw [getX hpl] at hg
                  rw [decide_eq_false_iff_not]
                  rcases hg with hg | hg
                  · omega
                  · omega)
                clear hg hc
                go_wp2_with fail
                (with_reducible refine (comparePerms_any rs[k - 1].A rs[k].A rs[k - 1].c rs[k].c rs[k - 1].xs.length rs[k].xs.length rs[k - 1].xs rs[k].xs w1 rfl rfl hinp.len hin2.len hinp.rd hin2.rd).mono ?_)
                rintro e w3 ⟨rfl, hb3⟩
                have hb3 := hb2.trans (hb3.mono hb2.size)
                have HCM2 := HCM.out
                clear hk0 e0 e2 e3 e1 c2 hinp
                go_wp2_with fail
              all_goals
                clear d1 d2
                obtain ⟨wo, rfl⟩ : ∃ wo : World, wo = wr := ⟨_, rfl⟩
                go_loopw [43] (fun i wr => ∃ j : Nat, j ≤ k ∧ i = .int .i64 j ∧ Hid (nohasTo (rs.map Row.xs) rs[k].xs j = true) ∧ Below w3.heap.size w3 wr) (fun i _ => k - (intOf i).toNat)
                case atStart => exact ⟨0, Nat.zero_le _, rfl, Lib.hid rfl, Below.refl _ _⟩
                case round =>
                  obtain ⟨j, hj, rfl, HN, hb4⟩ := hrel
                  have hbz := hb3.trans (hb4.mono hb3.size)
                  by_cases hjk : j < k
                  · have hL4 := h.next hbz
                    have hjl : j < rs.length := by omega
                    obtain ⟨b', off', he, _, hc⟩ := hL4.read.at (by omega)
                    injection he with he
                    injection he with he1 he2 _
                    subst he1 he2
                    have c3 := hc j hjl
                    have hinj := hL4.row (List.getElem_mem hjl)
                    have hink := hL4.row (List.getElem_mem hlt)
                    have hpj : permB rs[j].xs = true := by
                      have := basTo_perm HA.out hjk (by rw [List.length_map]; omega)
                      simpa using this
                    have hpj8 := (permB_true hpj).1
                    have HNS := Lib.hid (nohasTo_succ (rs.map Row.xs) rs[k].xs j)
                    clear hpj hc
                    by_cases hh : hasB rs[k].xs rs[j].xs = true
                    · have HH := Lib.hid hh
                      have HF := Lib.hid (show basTo (rs.map Row.xs) rs.length = false from basTo_false hlt (by
                        have hnf : nohasTo (rs.map Row.xs) rs[k].xs k = false := nohasTo_false hjk (by rw [getX hjl]; exact hh)
                        rw [HK.out, hnf, Bool.and_false]))
                      clear hh
                      go_wp2_with fail
                      all_goals
                        (with_reducible refine (has_b rs[k].A rs[j].A rs[k].c rs[j].c rs[k].xs rs[j].xs _ true hink hinj (by omega) (by omega) HH.out).mono ?_)
                        rintro e w4 ⟨rfl, hb5⟩
                        go_wp2_with fail
                        go_ret
                        exact ⟨ret_bool (by rw [HB.out, HF.out]), hbz.trans (hb5.mono hbz.size)⟩
                    · have hhf : hasB rs[k].xs rs[j].xs = false := by simpa using hh
                      have HH := Lib.hid hhf
                      have HE := Lib.hid (show nohasTo (rs.map Row.xs) rs[k].xs (j + 1) = true by rw [HNS.out, HN.out, getX hjl, hhf]; rfl)
                      clear hh hhf
                      go_wp2_with fail
                      all_goals
                        (with_reducible refine (has_b rs[k].A rs[j].A rs[k].c rs[j].c rs[k].xs rs[j].xs _ false hink hinj (by omega) (by omega) HH.out).mono ?_)
                        rintro e w4 ⟨rfl, hb5⟩
                        go_wp2_with fail
                        go_roundw
                        case rel => exact ⟨j + 1, by omega, by go_num, HE, hb4.trans (hb5.mono hb4.size)⟩
                        case measure => (simp [intOf]) <;> omega
                  · obtain rfl : j = k := by omega
                    have HE := Lib.hid (show basTo (rs.map Row.xs) (j + 1) = true by rw [HS.out, HA.out, HK.out, HP.out, HL0.out, HG.out, HN.out]; rfl)
                    go_wp2_with fail
                    go_roundw
                    case rel => exact ⟨j + 1, by omega, by go_num, HE, hbz⟩
                    case measure => (simp [intOf]) <;> omega
            · have hk0 : 0 < k := by
                rcases Nat.eq_zero_or_pos k with h1 | h1
                · exact absurd (Or.inl h1) hg
                · exact h1
              have d1 : decide ((k : Int) > 0) = true := decide_eq_true (by omega)
              have d2 : decide (0 < k) = true := decide_eq_true (by omega)
              have hpl : k - 1 < rs.length := by omega
              have c2 := hc (k - 1) hpl
              have hinp := hL2.row (List.getElem_mem hpl)
              have e0 : 1 ≤ (k : Int) := by omega
              have e2 : 0 ≤ (k : Int) - 1 := by omega
              have e3 : (k : Int) - 1 < rs.length := by omega
              have e1 : ((k : Int) - 1).toNat = k - 1 := by omega
              have HCM := Lib.hid (show decide (cmpP rs[k - 1].xs rs[k].xs ≥ 0) = true by
                rw [getX hpl] at hg
                rw [decide_eq_true_eq]
                have := fun h => hg (Or.inr h)
                omega)
              have HF := Lib.hid (show basTo (rs.map Row.xs) rs.length = false from basTo_false hlt (by
                have hgf : (decide (k = 0) || decide (cmpP ((rs.map Row.xs)[k - 1]?.getD []) rs[k].xs < 0)) = false := by
                  rw [Bool.or_eq_false_iff, decide_eq_false_iff_not, decide_eq_false_iff_not]
                  exact ⟨fun h => hg (Or.inl h), fun h => hg (Or.inr h)⟩
                rw [HK.out, hgf, Bool.and_false, Bool.false_and]))
              clear hg hc
              go_wp2_with fail
              (with_reducible refine (comparePerms_any rs[k - 1].A rs[k].A rs[k - 1].c rs[k].c rs[k - 1].xs.length rs[k].xs.length rs[k - 1].xs rs[k].xs w1 rfl rfl hinp.len hin2.len hinp.rd hin2.rd).mono ?_)
              rintro e w3 ⟨rfl, hb3⟩
              have HCM2 := HCM.out
              go_wp2_with fail
              go_ret
              exact ⟨ret_bool (by rw [HB.out, HF.out]), hb2.trans (hb3.mono hb2.size)⟩
        · have hpf : permB rs[k].xs = false := by simpa using hp
          have HF := Lib.hid (show basTo (rs.map Row.xs) rs.length = false from basTo_false hlt (by rw [HK.out, hpf]; simp))
          clear hp
          (with_reducible refine (isPerm_ib rs[k].A rs[k].c rs[k].xs wr false hin hpf).mono ?_)
          rintro e w1 ⟨rfl, hb1⟩
          clear hpf
          go_wp2_with fail
          go_ret
          exact ⟨ret_bool (by rw [HB.out, HF.out]), hb.trans (hb1.mono hb.size)⟩
      · obtain rfl : k = rs.length := by omega
        go_wp2_with fail
        go_ret
        exact ⟨ret_bool (by rw [HB.out, HA.out]), hb⟩
  · have HB := Lib.hid (show basisB (rs.map Row.xs) = false by unfold basisB; rw [List.length_map, decide_eq_false h8, Bool.false_and])
    go_enter Tryz.func22, Tryz.ntmps22
    go_wp2_with fail
    go_ret
    exact ⟨ret_bool (by rw [HB.out]), Below.refl _ _⟩
theorem l2Before_b (A A' : Option Addr) (c c' n m : Nat) (xs ys : List Int) (w : World) (b : Bool) (hn : xs.length = n) (hm : ys.length = m) (hl : n ≤ 4611686018427387904) (hl' : m ≤ 4611686018427387904)
    (hx : Rd (Value.int .i64) w w.heap.size A xs) (hy : Rd (Value.int .i64) w w.heap.size A' ys) (hb : before xs ys = b) :
    Calls Tryz.prog 62 #[.slice A n c, .slice A' m c'] w (Rq w (.bool b)) := by
  subst hb; exact l2Before_any A A' c c' n m xs ys w hn hm hl hl' hx hy
set_option maxHeartbeats 4000000 in
theorem basis_spec (A : Option Addr) (c : Nat) (rs : List Row) (w : World) (h : InL w A c rs) :
    Calls Tryz.prog 23 #[.slice A rs.length c] w (Rb w (.bool (basisB (rs.map Row.xs)))) := by
  have hlen := h.len
  have hcap := h.read.ocap _ (List.mem_singleton.2 rfl)
  simp only [List.length_map] at hcap
  have HB := Lib.hid (show basisB (rs.map Row.xs) = (decide (rs.length ≤ 8) && basTo (rs.map Row.xs) rs.length) by unfold basisB; rw [List.length_map])
  go_enter Tryz.func23, Tryz.ntmps23
  go_wp2_with fail
  go_loopw [3] (fun i wr => ∃ k : Nat, k ≤ rs.length ∧ i = .int .i64 k ∧ Hid (basTo (rs.map Row.xs) k = true) ∧ Below w.heap.size w wr) (fun i _ => rs.length - (intOf i).toNat)
  case atStart => exact ⟨0, Nat.zero_le _, rfl, Lib.hid rfl, Below.refl _ _⟩
  case round =>
    obtain ⟨k, hk, rfl, HA, hb⟩ := hrel
    by_cases hlt : k < rs.length
    · have hL := h.next hb
      obtain ⟨b, off, rfl, _, hc⟩ := hL.read.at (by omega)
      have c1 := hc k hlt
      have HK := Lib.hid (basAt_row hlt)
      have HS := Lib.hid (basTo_succ (rs.map Row.xs) k)
      have hin := hL.row (List.getElem_mem hlt)
      have i0 : (0 : Int) ≤ (k : Int) := Int.natCast_nonneg _
      have i1 : (k : Int) < (rs.length : Int) := by omega
      by_cases hp : permB rs[k].xs = true
      · have HP := Lib.hid hp
        have hp8 := (permB_true hp).1
        clear hp
        by_cases h0 : rs[k].xs.length = 0
        · have HF := Lib.hid (show basTo (rs.map Row.xs) rs.length = false from basTo_false hlt (by rw [HK.out, h0]; simp))
          have d0 : ((rs[k].xs.length : Int) == 0) = true := by simp; exact List.eq_nil_of_length_eq_zero h0
          clear h0 hc
          go_wp2_with fail
          go_quiet ((go_at_call 56; exact quiet_rq (isPerm_sb rs[k].A rs[k].c rs[k].xs _ true (hin.dr (Dr.of _ _)) HP.out)))
          go_wp2_with fail
          go_ret
          exact ⟨ret_bool (by rw [HB.out, HF.out, Bool.and_false]), below_dr hb (by first | with_reducible exact Dr.of _ _ | with_reducible exact Dr.of2 _ _ _ | with_reducible exact Dr.refl _ | with_reducible exact Dr.of3 _ _ _)⟩
        · have d0 : ((rs[k].xs.length : Int) == 0) = false := by simp; intro e; rw [e] at h0; simp at h0
          have HL0 := Lib.hid (show decide (rs[k].xs.length ≠ 0) = true from decide_eq_true h0)
          clear h0
          by_cases hg : k = 0 ∨ cmpP ((rs.map Row.xs)[k - 1]?.getD []) rs[k].xs < 0
          · have HG := Lib.hid (show (decide (k = 0) || decide (cmpP ((rs.map Row.xs)[k - 1]?.getD []) rs[k].xs < 0)) = true by
              rcases hg with hg | hg
              · rw [decide_eq_true hg]; rfl
              · rw [decide_eq_true hg, Bool.or_true])
            obtain ⟨wo, rfl⟩ : ∃ wo : World, wo = wr := ⟨_, rfl⟩
            rcases Nat.eq_zero_or_pos k with hk0 | hk0
            case' inl =>
              have d1 : decide ((k : Int) > 0) = false := decide_eq_false (by omega)
              have d3 : decide (0 < k) = false := decide_eq_false (by omega)
              have d2 : k ≤ 0 := by omega
              clear hg hc hk0
              go_wp2_with fail
              go_quiet ((go_at_call 56; exact quiet_rq (isPerm_sb rs[k].A rs[k].c rs[k].xs _ true (hin.dr (Dr.of _ _)) HP.out)))
              go_wp2_with fail
              clear d1 d2 d3
            case' inr =>
              have d1 : decide ((k : Int) > 0) = true := decide_eq_true (by omega)
              have d2 : decide (0 < k) = true := decide_eq_true (by omega)
              have hpl : k - 1 < rs.length := by omega
              have c2 := hc (k - 1) hpl
              have hinp := hL.row (List.getElem_mem hpl)
              have e0 : 1 ≤ (k : Int) := by omega
              have e2 : 0 ≤ (k : Int) - 1 := by omega
              have e3 : (k : Int) - 1 < rs.length := by omega
              have e1 : ((k : Int) - 1).toNat = k - 1 := by omega
              have e4 : IntKind.i64.wrap ((k : Int) - 1) = (k : Int) - 1 := IntWalk.i64_in _ (by omega)
              have hq1 : rs[k - 1].xs.length ≤ 4611686018427387904 := by have := hinp.len; omega
              have hq2 : rs[k].xs.length ≤ 4611686018427387904 := by omega
              have hr1 := hinp.rd
              have hr2 := hin.rd
              have HCM := Lib.hid (show before rs[k - 1].xs rs[k].xs = true by
                rw [getX hpl] at hg
                rw [before_cmp, decide_eq_true_eq]
                rcases hg with hg | hg
                · omega
                · exact hg)
              clear hg hc hk0 hinp
              go_wp2_with fail
              go_quiet ((first | (go_at_call 56; exact quiet_rq (isPerm_sb rs[k].A rs[k].c rs[k].xs _ true (hin.dr (Dr.of _ _)) HP.out)) | (go_at_call 62; exact quiet_rq (l2Before_b _ _ _ _ _ _ rs[k - 1].xs rs[k].xs _ true rfl rfl hq1 hq2 (hr1.drewN _) (hr2.drewN _) HCM.out))))
              go_wp2_with fail
              clear d1 d2 e0 e1 e2 e3 e4 hq1 hq2 hr1 hr2 c2
            all_goals
              go_loopw [4] (fun i wr => ∃ j : Nat, j ≤ k ∧ i = .int .i64 j ∧ Hid (nohasTo (rs.map Row.xs) rs[k].xs j = true) ∧ Below w.heap.size w wr) (fun i _ => k - (intOf i).toNat)
              case atStart => exact ⟨0, Nat.zero_le _, rfl, Lib.hid rfl, below_dr hb (by first | with_reducible exact Dr.of _ _ | with_reducible exact Dr.of2 _ _ _ | with_reducible exact Dr.refl _ | with_reducible exact Dr.of3 _ _ _)⟩
              case round =>
                obtain ⟨j, hj, rfl, HN, hbz⟩ := hrel
                by_cases hjk : j < k
                · have hL4 := h.next hbz
                  have hjl : j < rs.length := by omega
                  obtain ⟨b', off', he, _, hc⟩ := hL4.read.at (by omega)
                  injection he with he
                  injection he with he1 he2 _
                  subst he1 he2
                  have c3 : wr.drew.cell? ⟨b, off + j, none⟩ = some (Value.slice rs[j].A rs[j].xs.length rs[j].c) := hc j hjl
                  have c4 : wr.drew.cell? ⟨b, off + k, none⟩ = some (Value.slice rs[k].A rs[k].xs.length rs[k].c) := hc k hlt
                  have c5 := hc j hjl
                  have c6 := hc k hlt
                  have hinj := (hL4.dr (Dr.refl _).drew).row (List.getElem_mem hjl)
                  have hink := (hL4.dr (Dr.refl _).drew).row (List.getElem_mem hlt)
                  have i2 : (0 : Int) ≤ (j : Int) := Int.natCast_nonneg _
                  have i3 : (j : Int) < (rs.length : Int) := by omega
                  have hpj : permB rs[j].xs = true := by
                    have := basTo_perm HA.out hjk (by rw [List.length_map]; omega)
                    simpa using this
                  have hpj8 := (permB_true hpj).1
                  have HNS := Lib.hid (nohasTo_succ (rs.map Row.xs) rs[k].xs j)
                  have hbd : Below w.heap.size w wr.drew := below_dr hbz (Dr.refl _).drew
                  clear hpj hc
                  by_cases hh : hasB rs[k].xs rs[j].xs = true
                  · have HH := Lib.hid hh
                    have HF := Lib.hid (show basTo (rs.map Row.xs) rs.length = false from basTo_false hlt (by
                      have hnf : nohasTo (rs.map Row.xs) rs[k].xs k = false := nohasTo_false hjk (by rw [getX hjl]; exact hh)
                      rw [HK.out, hnf, Bool.and_false]))
                    clear hh
                    go_wp2_with fail
                    all_goals
                      go_still_tail 8, (by kernel_rfl)
                      go_wp2_with fail
                      (with_reducible refine (l7Has_b rs[k].A rs[j].A rs[k].c rs[j].c rs[k].xs rs[j].xs _ true hink hinj (by omega) (by omega) HH.out).mono ?_)
                      rintro e w4 ⟨rfl, hb5⟩
                      go_wp2_with fail
                      go_ret
                      exact ⟨ret_bool (by rw [HB.out, HF.out, Bool.and_false]), hbd.trans (hb5.mono hbd.size)⟩
                  · have hhf : hasB rs[k].xs rs[j].xs = false := by simpa using hh
                    have HH := Lib.hid hhf
                    have HE := Lib.hid (show nohasTo (rs.map Row.xs) rs[k].xs (j + 1) = true by rw [HNS.out, HN.out, getX hjl, hhf]; rfl)
                    clear hh hhf
                    go_wp2_with fail
                    all_goals
                      go_still_tail 8, (by kernel_rfl)
                      go_wp2_with fail
                      (with_reducible refine (l7Has_b rs[k].A rs[j].A rs[k].c rs[j].c rs[k].xs rs[j].xs _ false hink hinj (by omega) (by omega) HH.out).mono ?_)
                      rintro e w4 ⟨rfl, hb5⟩
                      go_wp2_with fail
                      go_roundw
                      case rel => exact ⟨j + 1, by omega, by go_num, HE, hbd.trans (hb5.mono hbd.size)⟩
                      case measure => (simp [intOf]) <;> omega
                · obtain rfl : j = k := by omega
                  have HE := Lib.hid (show basTo (rs.map Row.xs) (j + 1) = true by rw [HS.out, HA.out, HK.out, HP.out, HL0.out, HG.out, HN.out]; rfl)
                  go_wp2_with fail
                  go_roundw
                  case rel => exact ⟨j + 1, by omega, by go_num, HE, hbz⟩
                  case measure => (simp [intOf]) <;> omega
          · have hk0 : 0 < k := by
              rcases Nat.eq_zero_or_pos k with h1 | h1
              · exact absurd (Or.inl h1) hg
              · exact h1
            have d1 : decide ((k : Int) > 0) = true := decide_eq_true (by omega)
            have d2 : decide (0 < k) = true := decide_eq_true (by omega)
            have hpl : k - 1 < rs.length := by omega
            have c2 := hc (k - 1) hpl
            have hinp := hL.row (List.getElem_mem hpl)
            have e0 : 1 ≤ (k : Int) := by omega
            have e2 : 0 ≤ (k : Int) - 1 := by omega
            have e3 : (k : Int) - 1 < rs.length := by omega
            have e1 : ((k : Int) - 1).toNat = k - 1 := by omega
            have e4 : IntKind.i64.wrap ((k : Int) - 1) = (k : Int) - 1 := IntWalk.i64_in _ (by omega)
            have hq1 : rs[k - 1].xs.length ≤ 4611686018427387904 := by have := hinp.len; omega
            have hq2 : rs[k].xs.length ≤ 4611686018427387904 := by omega
            have hr1 := hinp.rd
            have hr2 := hin.rd
            have HCM := Lib.hid (show before rs[k - 1].xs rs[k].xs = false by
              rw [getX hpl] at hg
              rw [before_cmp, decide_eq_false_iff_not]
              exact fun h => hg (Or.inr h))
            have HF := Lib.hid (show basTo (rs.map Row.xs) rs.length = false from basTo_false hlt (by
              have hgf : (decide (k = 0) || decide (cmpP ((rs.map Row.xs)[k - 1]?.getD []) rs[k].xs < 0)) = false := by
                rw [Bool.or_eq_false_iff, decide_eq_false_iff_not, decide_eq_false_iff_not]
                exact ⟨fun h => hg (Or.inl h), fun h => hg (Or.inr h)⟩
              rw [HK.out, hgf, Bool.and_false, Bool.false_and]))
            clear hg hc hk0 hinp
            go_wp2_with fail
            go_quiet ((first | (go_at_call 56; exact quiet_rq (isPerm_sb rs[k].A rs[k].c rs[k].xs _ true (hin.dr (Dr.of _ _)) HP.out)) | (go_at_call 62; exact quiet_rq (l2Before_b _ _ _ _ _ _ rs[k - 1].xs rs[k].xs _ false rfl rfl hq1 hq2 (hr1.drewN _) (hr2.drewN _) HCM.out))))
            go_wp2_with fail
            go_ret
            exact ⟨ret_bool (by rw [HB.out, HF.out, Bool.and_false]), below_dr hb (by first | with_reducible exact Dr.of _ _ | with_reducible exact Dr.of2 _ _ _ | with_reducible exact Dr.refl _ | with_reducible exact Dr.of3 _ _ _)⟩
      · have hpf : permB rs[k].xs = false := by simpa using hp
        have HF := Lib.hid (show basTo (rs.map Row.xs) rs.length = false from basTo_false hlt (by rw [HK.out, hpf]; simp))
        have HP := Lib.hid hpf
        clear hp hpf hc
        go_wp2_with fail
        go_quiet ((go_at_call 56; exact quiet_rq (isPerm_sb rs[k].A rs[k].c rs[k].xs _ false (hin.dr (Dr.of _ _)) HP.out)))
        go_wp2_with fail
        go_ret
        exact ⟨ret_bool (by rw [HB.out, HF.out, Bool.and_false]), below_dr hb (by first | with_reducible exact Dr.of _ _ | with_reducible exact Dr.of2 _ _ _ | with_reducible exact Dr.refl _ | with_reducible exact Dr.of3 _ _ _)⟩
    · obtain rfl : k = rs.length := by omega
      go_wp2_with fail
      go_ret
      exact ⟨ret_bool (by rw [HB.out, HA.out, Bool.and_true, decide_eq_decide]; omega), hb⟩
end Go.Proofs.YtodloeonlaljpaaGreatDoor

/- slices.IndexFunc, slices.ContainsFunc: the function value by its contract. -/
namespace Go.Proofs.YtodloeonlaljpaaGreatDoor
set_option maxRecDepth 100000
open Go Go.RowKit

/-- A call's result: a number that is not below zero just where something holds. -/
def IdxPost (w : World) (b : Bool) (e : Ending) (w' : World) : Prop := ∃ i : Int, e = .returned (.int .i64 i) ∧ decide (i ≥ 0) = b ∧ Below w.heap.size w w'
theorem any_take_false {α : Type} {H : α → Bool} {l : List α} {k : Nat} (h : (l.take k).any H = false) (hk : k < l.length) (h1 : H l[k] = false) : (l.take (k + 1)).any H = false := by
  rw [List.take_succ_eq_append_getElem hk, List.any_append, h]
  simp [h1]
theorem any_at {α : Type} {H : α → Bool} {l : List α} {k : Nat} (hk : k < l.length) (h1 : H l[k] = true) : l.any H = true := List.any_eq_true.2 ⟨l[k], List.getElem_mem hk, h1⟩



set_option maxHeartbeats 800000 in
theorem indexFuncL1 (A : Option Addr) (c : Nat) (rs : List Row) (F : Nat) (g : Nat) (H : List Int → Bool) (w : World) (hl : rs.length ≤ 4611686018427387904) (hx : Read w w.heap.size rs [⟨A, c, rs.map Row.v⟩])
    (hF : ∀ args w', (callFunc F args).run Tryz.prog w' = .ok (.enter F args) w')
    (hcl : ∀ (w' : World) (k : Nat) (hk : k < rs.length), Below w.heap.size w w' → Calls Tryz.prog F #[.slice rs[k].A rs[k].xs.length rs[k].c, .pointer (some ⟨g, 0, none⟩)] w' (Rb w' (.bool (H rs[k].xs)))) :
    Calls Tryz.prog 80 #[.slice A rs.length c, .func (.func F) #[] #[.pointer (some ⟨g, 0, none⟩)]] w (IdxPost w (rs.any (fun r : Row => H r.xs))) := by
  go_enter Tryz.func80, Tryz.ntmps80
  go_wp2_with fail
  go_loopw [8] (fun i wr => ∃ k : Nat, k ≤ rs.length ∧ i = .int .i64 k ∧ Hid ((rs.take k).any (fun r : Row => H r.xs) = false) ∧ Below w.heap.size w wr) (fun i _ => rs.length - (intOf i).toNat)
  case atStart => exact ⟨0, Nat.zero_le _, rfl, Lib.hid rfl, Below.refl _ _⟩
  case round =>
    obtain ⟨k, hk, rfl, HN, hb⟩ := hrel
    have hsz := hb.size
    rcases Nat.lt_or_ge k rs.length with hlt | hge
    · have hcall := hcl wr k hlt hb
      obtain ⟨b, off, rfl, _, hc⟩ := (hx.below hb).at (by omega)
      have c1 := hc k hlt
      clear hc
      go_wp2_with fail
      (with_reducible refine hcall.mono ?_)
      rintro e w1 ⟨rfl, hb1⟩
      have hbz := hb.trans (hb1.mono hsz)
      by_cases hh : H rs[k].xs = true
      · have HT := Lib.hid (show rs.any (fun r : Row => H r.xs) = true from any_at hlt hh)
        rw [hh]
        clear hh hcall
        go_wp2_with fail
        go_ret
        exact ⟨k, rfl, by rw [HT.out]; exact decide_eq_true (by omega), hbz⟩
      · have hhf : H rs[k].xs = false := by simpa using hh
        have HT := Lib.hid (show (rs.take (k + 1)).any (fun r : Row => H r.xs) = false from any_take_false HN.out hlt hhf)
        rw [hhf]
        clear hh hhf hcall
        go_wp2_with fail
        go_roundw
        case rel => exact ⟨k + 1, by omega, by go_num, HT, hbz⟩
        case measure => simp [intOf]; omega
    · have HT := Lib.hid (show rs.any (fun r : Row => H r.xs) = false by have := HN.out; rwa [List.take_of_length_le hge] at this)
      go_wp2_with fail
      go_ret
      exact ⟨-1, rfl, by rw [HT.out]; rfl, hb⟩
theorem containsFuncL1 (A : Option Addr) (c : Nat) (rs : List Row) (F : Nat) (g : Nat) (H : List Int → Bool) (w : World) (hl : rs.length ≤ 4611686018427387904) (hx : Read w w.heap.size rs [⟨A, c, rs.map Row.v⟩])
    (hF : ∀ args w', (callFunc F args).run Tryz.prog w' = .ok (.enter F args) w')
    (hcl : ∀ (w' : World) (k : Nat) (hk : k < rs.length), Below w.heap.size w w' → Calls Tryz.prog F #[.slice rs[k].A rs[k].xs.length rs[k].c, .pointer (some ⟨g, 0, none⟩)] w' (Rb w' (.bool (H rs[k].xs)))) (b : Bool) (hb : rs.any (fun r : Row => H r.xs) = b) :
    Calls Tryz.prog 41 #[.slice A rs.length c, .func (.func F) #[] #[.pointer (some ⟨g, 0, none⟩)]] w (Rb w (.bool b)) := by
  subst hb
  have HI := Lib.hid (indexFuncL1 A c rs F g H w hl hx hF hcl)
  go_enter Tryz.func41, Tryz.ntmps41
  go_wp2_with fail
  (with_reducible refine HI.out.mono ?_)
  rintro e w1 ⟨i, rfl, hd, hb1⟩
  have HD := Lib.hid hd
  clear hd
  go_wp2_with fail
  go_ret
  exact ⟨ret_bool (by rw [← HD.out]), hb1⟩

set_option maxHeartbeats 800000 in
theorem indexFuncL0 (A : Option Addr) (c : Nat) (rs : List Row) (F : Nat) (H : List Int → Bool) (w : World) (hl : rs.length ≤ 4611686018427387904) (hx : Read w w.heap.size rs [⟨A, c, rs.map Row.v⟩])
    (hF : ∀ args w', (callFunc F args).run Tryz.prog w' = .ok (.enter F args) w')
    (hcl : ∀ (w' : World) (k : Nat) (hk : k < rs.length), Below w.heap.size w w' → Calls Tryz.prog F #[.slice rs[k].A rs[k].xs.length rs[k].c] w' (Rb w' (.bool (H rs[k].xs)))) :
    Calls Tryz.prog 80 #[.slice A rs.length c, .func (.func F) #[] #[]] w (IdxPost w (rs.any (fun r : Row => H r.xs))) := by
  go_enter Tryz.func80, Tryz.ntmps80
  go_wp2_with fail
  go_loopw [8] (fun i wr => ∃ k : Nat, k ≤ rs.length ∧ i = .int .i64 k ∧ Hid ((rs.take k).any (fun r : Row => H r.xs) = false) ∧ Below w.heap.size w wr) (fun i _ => rs.length - (intOf i).toNat)
  case atStart => exact ⟨0, Nat.zero_le _, rfl, Lib.hid rfl, Below.refl _ _⟩
  case round =>
    obtain ⟨k, hk, rfl, HN, hb⟩ := hrel
    have hsz := hb.size
    rcases Nat.lt_or_ge k rs.length with hlt | hge
    · have hcall := hcl wr k hlt hb
      obtain ⟨b, off, rfl, _, hc⟩ := (hx.below hb).at (by omega)
      have c1 := hc k hlt
      clear hc
      go_wp2_with fail
      (with_reducible refine hcall.mono ?_)
      rintro e w1 ⟨rfl, hb1⟩
      have hbz := hb.trans (hb1.mono hsz)
      by_cases hh : H rs[k].xs = true
      · have HT := Lib.hid (show rs.any (fun r : Row => H r.xs) = true from any_at hlt hh)
        rw [hh]
        clear hh hcall
        go_wp2_with fail
        go_ret
        exact ⟨k, rfl, by rw [HT.out]; exact decide_eq_true (by omega), hbz⟩
      · have hhf : H rs[k].xs = false := by simpa using hh
        have HT := Lib.hid (show (rs.take (k + 1)).any (fun r : Row => H r.xs) = false from any_take_false HN.out hlt hhf)
        rw [hhf]
        clear hh hhf hcall
        go_wp2_with fail
        go_roundw
        case rel => exact ⟨k + 1, by omega, by go_num, HT, hbz⟩
        case measure => simp [intOf]; omega
    · have HT := Lib.hid (show rs.any (fun r : Row => H r.xs) = false by have := HN.out; rwa [List.take_of_length_le hge] at this)
      go_wp2_with fail
      go_ret
      exact ⟨-1, rfl, by rw [HT.out]; rfl, hb⟩
theorem containsFuncL0 (A : Option Addr) (c : Nat) (rs : List Row) (F : Nat) (H : List Int → Bool) (w : World) (hl : rs.length ≤ 4611686018427387904) (hx : Read w w.heap.size rs [⟨A, c, rs.map Row.v⟩])
    (hF : ∀ args w', (callFunc F args).run Tryz.prog w' = .ok (.enter F args) w')
    (hcl : ∀ (w' : World) (k : Nat) (hk : k < rs.length), Below w.heap.size w w' → Calls Tryz.prog F #[.slice rs[k].A rs[k].xs.length rs[k].c] w' (Rb w' (.bool (H rs[k].xs)))) (b : Bool) (hb : rs.any (fun r : Row => H r.xs) = b) :
    Calls Tryz.prog 41 #[.slice A rs.length c, .func (.func F) #[] #[]] w (Rb w (.bool b)) := by
  subst hb
  have HI := Lib.hid (indexFuncL0 A c rs F H w hl hx hF hcl)
  go_enter Tryz.func41, Tryz.ntmps41
  go_wp2_with fail
  (with_reducible refine HI.out.mono ?_)
  rintro e w1 ⟨i, rfl, hd, hb1⟩
  have HD := Lib.hid hd
  clear hd
  go_wp2_with fail
  go_ret
  exact ⟨ret_bool (by rw [← HD.out]), hb1⟩

set_option maxHeartbeats 800000 in
theorem indexFuncL2 (A : Option Addr) (c : Nat) (rs : List Row) (F : Nat) (g g2 : Nat) (H : List Int → Bool) (w : World) (hl : rs.length ≤ 4611686018427387904) (hx : Read w w.heap.size rs [⟨A, c, rs.map Row.v⟩])
    (hF : ∀ args w', (callFunc F args).run Tryz.prog w' = .ok (.enter F args) w')
    (hcl : ∀ (w' : World) (k : Nat) (hk : k < rs.length), Below w.heap.size w w' → Calls Tryz.prog F #[.slice rs[k].A rs[k].xs.length rs[k].c, .pointer (some ⟨g, 0, none⟩), .pointer (some ⟨g2, 0, none⟩)] w' (Rb w' (.bool (H rs[k].xs)))) :
    Calls Tryz.prog 80 #[.slice A rs.length c, .func (.func F) #[] #[.pointer (some ⟨g, 0, none⟩), .pointer (some ⟨g2, 0, none⟩)]] w (IdxPost w (rs.any (fun r : Row => H r.xs))) := by
  go_enter Tryz.func80, Tryz.ntmps80
  go_wp2_with fail
  go_loopw [8] (fun i wr => ∃ k : Nat, k ≤ rs.length ∧ i = .int .i64 k ∧ Hid ((rs.take k).any (fun r : Row => H r.xs) = false) ∧ Below w.heap.size w wr) (fun i _ => rs.length - (intOf i).toNat)
  case atStart => exact ⟨0, Nat.zero_le _, rfl, Lib.hid rfl, Below.refl _ _⟩
  case round =>
    obtain ⟨k, hk, rfl, HN, hb⟩ := hrel
    have hsz := hb.size
    rcases Nat.lt_or_ge k rs.length with hlt | hge
    · have hcall := hcl wr k hlt hb
      obtain ⟨b, off, rfl, _, hc⟩ := (hx.below hb).at (by omega)
      have c1 := hc k hlt
      clear hc
      go_wp2_with fail
      (with_reducible refine hcall.mono ?_)
      rintro e w1 ⟨rfl, hb1⟩
      have hbz := hb.trans (hb1.mono hsz)
      by_cases hh : H rs[k].xs = true
      · have HT := Lib.hid (show rs.any (fun r : Row => H r.xs) = true from any_at hlt hh)
        rw [hh]
        clear hh hcall
        go_wp2_with fail
        go_ret
        exact ⟨k, rfl, by rw [HT.out]; exact decide_eq_true (by omega), hbz⟩
      · have hhf : H rs[k].xs = false := by simpa using hh
        have HT := Lib.hid (show (rs.take (k + 1)).any (fun r : Row => H r.xs) = false from any_take_false HN.out hlt hhf)
        rw [hhf]
        clear hh hhf hcall
        go_wp2_with fail
        go_roundw
        case rel => exact ⟨k + 1, by omega, by go_num, HT, hbz⟩
        case measure => simp [intOf]; omega
    · have HT := Lib.hid (show rs.any (fun r : Row => H r.xs) = false by have := HN.out; rwa [List.take_of_length_le hge] at this)
      go_wp2_with fail
      go_ret
      exact ⟨-1, rfl, by rw [HT.out]; rfl, hb⟩
theorem containsFuncL2 (A : Option Addr) (c : Nat) (rs : List Row) (F : Nat) (g g2 : Nat) (H : List Int → Bool) (w : World) (hl : rs.length ≤ 4611686018427387904) (hx : Read w w.heap.size rs [⟨A, c, rs.map Row.v⟩])
    (hF : ∀ args w', (callFunc F args).run Tryz.prog w' = .ok (.enter F args) w')
    (hcl : ∀ (w' : World) (k : Nat) (hk : k < rs.length), Below w.heap.size w w' → Calls Tryz.prog F #[.slice rs[k].A rs[k].xs.length rs[k].c, .pointer (some ⟨g, 0, none⟩), .pointer (some ⟨g2, 0, none⟩)] w' (Rb w' (.bool (H rs[k].xs)))) (b : Bool) (hb : rs.any (fun r : Row => H r.xs) = b) :
    Calls Tryz.prog 41 #[.slice A rs.length c, .func (.func F) #[] #[.pointer (some ⟨g, 0, none⟩), .pointer (some ⟨g2, 0, none⟩)]] w (Rb w (.bool b)) := by
  subst hb
  have HI := Lib.hid (indexFuncL2 A c rs F g g2 H w hl hx hF hcl)
  go_enter Tryz.func41, Tryz.ntmps41
  go_wp2_with fail
  (with_reducible refine HI.out.mono ?_)
  rintro e w1 ⟨i, rfl, hd, hb1⟩
  have HD := Lib.hid hd
  clear hd
  go_wp2_with fail
  go_ret
  exact ⟨ret_bool (by rw [← HD.out]), hb1⟩

end Go.Proofs.YtodloeonlaljpaaGreatDoor
