/- slices.CompactFunc of a list of rows: of equal neighbors the first one is kept. -/
import Derived.Test.YthkggnmfdlggbaaZ2
import Derived.Test.YthkggnmfdlggbaaV1
import Derived.Lib.SliceRun
namespace Go.Proofs.Ythkggnmfdlggbaa
set_option maxRecDepth 100000
open Go Go.RowKit

theorem compL_snoc (L : List (List Int)) (x y : List Int) : compL (L ++ [x] ++ [y]) = if x = y then compL (L ++ [x]) else compL (L ++ [x]) ++ [y] := by
  match L with
  | [] =>
    simp only [List.nil_append, List.cons_append, compL]
    by_cases h : x = y <;> simp [h]
  | [a] =>
    simp only [List.cons_append, List.nil_append, compL]
    by_cases h1 : a = x
    · by_cases h : x = y <;> simp [h1, h]
    · by_cases h : x = y <;> simp [h1, h]
  | a :: b :: t =>
    have ih := compL_snoc (b :: t) x y
    simp only [List.cons_append, compL] at ih ⊢
    by_cases h1 : a = b
    · rw [if_pos h1, if_pos h1]; exact ih
    · rw [if_neg h1, if_neg h1, ih]
      by_cases h : x = y
      · rw [if_pos h, if_pos h]
      · rw [if_neg h, if_neg h]; rfl
theorem compL_take (X : List (List Int)) (k : Nat) (h0 : 0 < k) (h : k < X.length) : compL (X.take (k + 1)) = if X[k - 1]'(by omega) = X[k] then compL (X.take k) else compL (X.take k) ++ [X[k]] := by
  have e1 : X.take k = X.take (k - 1) ++ [X[k - 1]'(by omega)] := by
    have := List.take_succ_eq_append_getElem (l := X) (i := k - 1) (by omega)
    rwa [Nat.sub_add_cancel h0] at this
  rw [List.take_succ_eq_append_getElem h, e1]
  exact compL_snoc _ _ _
section
variable {w w' : World} {base e g k n cap j : Nat} {V : List Value}
theorem own_beyond (h : w.ownsRow base e 1 (.slice (some ⟨g, 0, none⟩) k cap) k V) (hj : k ≤ j) (u : Value) : (w.setCell ⟨g, j, none⟩ u).ownsRow base e 1 (.slice (some ⟨g, 0, none⟩) k cap) k V := by
  refine ⟨h.1, ?_⟩
  rcases h.2 with ⟨e, _⟩ | ⟨g', cap', cur, hv, hb, hh, h1, h2, h3, h4⟩
  · cases e
  · injection hv with hv _ hc
    injection hv with hv
    injection hv with hv _ _
    subst hv hc
    refine .inr ⟨g, cap, cur.setIfInBounds j u, rfl, hb, obj_set hh u, h1, h2, by simpa using h3, ?_⟩
    rw [← h4, Array.toList_setIfInBounds, Nat.mul_one, List.take_set_of_le hj]
theorem grown_set (w : World) (g j : Nat) (u : Value) : w.grownBy (w.setCell ⟨g, j, none⟩ u) (some g) :=
  ⟨rfl, rfl, rfl, by simp [World.setCell], fun k _ hk => by
    simp only [World.setCell, Array.getElem?_modify]
    rw [if_neg (fun h => hk (by rw [h]))]⟩
theorem own_sets (vs : List Value) : ∀ (o : Nat) (w : World), w.ownsRow base e 1 (.slice (some ⟨g, 0, none⟩) k cap) k V → k ≤ o → (w.setCells g o vs).ownsRow base e 1 (.slice (some ⟨g, 0, none⟩) k cap) k V ∧ w.grownBy (w.setCells g o vs) (some g) := by
  induction vs with
  | nil => intro o w h _; exact ⟨h, World.grownBy.refl w _⟩
  | cons a t ih =>
    intro o w h ho
    obtain ⟨h1, h2⟩ := ih (o + 1) (w.setCell ⟨g, o, none⟩ a) (own_beyond h ho a) (by omega)
    exact ⟨h1, grown_trans (grown_set w g o a) h2⟩
theorem own_set_at (h : w.ownsRow base e 1 (.slice (some ⟨g, 0, none⟩) n cap) n V) (hj : j < n) (u : Value) : (w.setCell ⟨g, j, none⟩ u).ownsRow base e 1 (.slice (some ⟨g, 0, none⟩) n cap) n (V.set j u) := by
  exact (h.stored j u).1
end
theorem call_eqf (args : Array Value) (w : World) : (callFunc 93 args).run Try.prog w = .ok (.enter 93 args) w := by kernel_rfl
theorem zeroL (w : World) : (zeroValue 22).run Try.prog w = .ok (.slice none 0 0) w := by kernel_rfl
set_option maxHeartbeats 8000000 in
theorem compact_any (A : Option Addr) (c lo : Nat) (rs : List Row) (w : World) (hO : Own w lo w.heap.size rs [⟨A, c, rs.map Row.v⟩]) (hn : rs.length ≤ 1048576) (hr8 : ∀ r ∈ rs, r.xs.length ≤ 1048576) :
    Calls Try.prog 92 #[.slice A rs.length c, .func (.func 93) #[] #[]] w (RetP w lo A (compL (rs.map Row.xs))) := by
  have hcap := own_caps hO.out
  rw [List.length_map] at hcap
  have HR8 := Lib.hid hr8
  have hc63 : c ≤ 9223372036854775807 := by have := hcap.2; unfold maxLen at this; omega
  rcases Nat.lt_or_ge rs.length 2 with h2 | h2
  · have HE := Lib.hid (show compL (rs.map Row.xs) = rs.map Row.xs by
      match rs, h2 with
      | [], _ => rfl
      | [r], _ => rfl)
    go_enter Try.func92, Try.ntmps92
    have d0 : decide ((rs.length : Int) < 2) = true := decide_eq_true (by omega)
    go_wp2_with fail
    go_ret
    exact ⟨A, c, rs, rfl, HE.out.symm, hO, below_grown (Below.refl _ _)⟩
  have hcf := call_eqf
  obtain ⟨g, hgA, hglo, hglt⟩ : ∃ g, A = some ⟨g, 0, none⟩ ∧ lo ≤ g ∧ g < w.heap.size := by
    obtain ⟨g, cap, hv, h1, h3⟩ := hO.out.form (by rw [List.length_map]; omega)
    injection hv with hv _ _
    exact ⟨g, hv, h1, h3⟩
  subst hgA
  have HO := Lib.hid hO
  have hown0 := hO.outN (n := rs.length) (by simp)
  have d0 : decide ((rs.length : Int) < 2) = false := decide_eq_false (by omega)
  clear hr8 hO
  go_enter Try.func92, Try.ntmps92
  go_wp2_with fail
  go_loopw [5] (fun i wr => ∃ k : Nat, 0 < k ∧ k ≤ rs.length ∧ i = .int .i64 k ∧ Hid (compL ((rs.map Row.xs).take k) = (rs.map Row.xs).take k) ∧ Dr w wr) (fun i _ => rs.length - (intOf i).toNat)
  case atStart => exact ⟨1, by omega, by omega, rfl, Lib.hid (by
    match rs, h2 with
    | a :: b :: t, _ => rfl), Dr.refl _⟩
  case round =>
    obtain ⟨k, hk0, hk, rfl, HC, hd⟩ := hrel
    have hszr : wr.heap.size = w.heap.size := by rw [hd.heap]
    have HZ := Lib.hid hszr
    rcases Nat.lt_or_ge k rs.length with hlt | hge
    · have hOr := HO.out.dr hd
      have hRr := hOr.read
      have c0 := hRr.cellAt k hlt
      have c1 := hRr.cellAt (k - 1) (by omega)
      rw [Nat.zero_add] at c0 c1
      have c0d : wr.drew.cell? ⟨g, k, none⟩ = some (Value.slice rs[k].A rs[k].xs.length rs[k].c) := c0
      have c1d : wr.drew.cell? ⟨g, k - 1, none⟩ = some (Value.slice (rs[k - 1]'(by omega)).A (rs[k - 1]'(by omega)).xs.length (rs[k - 1]'(by omega)).c) := c1
      have e1 : IntKind.i64.wrap ((k : Int) - 1) = (k : Int) - 1 := IntWalk.i64_in _ (by omega)
      have e2 : ((k : Int) - 1).toNat = k - 1 := by omega
      have e3 : 0 ≤ (k : Int) - 1 := by omega
      have e4 : (k : Int) - 1 < (rs.length : Int) := by omega
      have e5 : (k : Int) < (rs.length : Int) := by omega
      have e6 : 0 ≤ (k : Int) := by omega
      have e7 : 1 ≤ (k : Int) := by omega
      have e8 : (k : Int) ≤ (rs.length : Int) := by omega
      have hx0 := ((hRr.rd rs[k] (List.getElem_mem hlt)).dr (w' := wr.drew) (Dr.refl _).drew).more (B' := wr.drew.heap.size) (by show _ ≤ wr.heap.size; omega)
      have hx1 := ((hRr.rd (rs[k - 1]'(by omega)) (List.getElem_mem _)).dr (w' := wr.drew) (Dr.refl _).drew).more (B' := wr.drew.heap.size) (by show _ ≤ wr.heap.size; omega)
      have hl0 := HR8.out rs[k] (List.getElem_mem hlt)
      have hl0' : rs[k].xs.length ≤ 4611686018427387904 := by omega
      have HT := Lib.hid (compL_take (rs.map Row.xs) k hk0 (by simpa using hlt))
      have hXk : (rs.map Row.xs)[k]'(by simpa using hlt) = rs[k].xs := by simp
      have hXk1 : (rs.map Row.xs)[k - 1]'(by rw [List.length_map]; omega) = (rs[k - 1]'(by omega)).xs := by simp
      have HXk := Lib.hid hXk
      have HXk1 := Lib.hid hXk1
      clear hXk hXk1 hOr hRr
      by_cases he : rs[k].xs = (rs[k - 1]'(by omega)).xs
      · have HS := Lib.hid (show compL ((rs.map Row.xs).take (k + 1)) = (rs.map Row.xs).take k by rw [HT.out, HXk.out, HXk1.out, if_pos he.symm, HC.out])
        have HD := Lib.hid (decide_eq_true he)
        clear he
        go_wp2_with fail
        go_region_held3 (fun v => v.cell? ⟨g, k, none⟩ = some ((Value.slice rs[k].A rs[k].xs.length rs[k].c)) ∧ v.cell? ⟨g, k - 1, none⟩ = some ((Value.slice (rs[k - 1]'(by omega)).A (rs[k - 1]'(by omega)).xs.length (rs[k - 1]'(by omega)).c))) (first | exact ⟨c0d, c1d⟩ | exact ⟨cq0, cq1⟩) ((first | (go_at_call 93; (with_reducible refine (equal_b _ _ _ _ _ _ _ _ wr.drew true rfl rfl hl0' hx0 hx1 HD.out).mono ?_); rintro e wq ⟨rfl, hdq⟩; have cq0 := (hdq.cell ⟨g, k, none⟩).trans c0d; have cq1 := (hdq.cell ⟨g, k - 1, none⟩).trans c1d) | fail))
        have hdr : Dr w wq := (hd.trans (Dr.refl _).drew).trans hdq
        have hownq := hdr.own hown0
        have HGR := Lib.hid (show w.grownBy wq (some g) from below_grown (below_dr (Below.refl _ _) hdr))
        have hkc : ¬ c = k := by omega
        have HTS := Lib.hid (show (rs.take k).Sublist (rs.take (k + 1)) by
          have e : rs.take k = (rs.take (k + 1)).take k := by rw [List.take_take, Nat.min_eq_left (Nat.le_succ k)]
          rw [e]; exact List.take_sublist _ _)
        have hsl : ∀ w, (Instr.slice 33 (.slice (some ⟨g, 0, none⟩) rs.length c) (some (.int .i64 (k : Int))) none none).run Try.prog w = .ok (.slice (some ⟨g, k, none⟩) (rs.length - k) (c - k)) w := fun w => by
          rw [run_cut (P := Try.prog) (t := 33) Try.underlying33 sizeL (some ⟨g, 0, none⟩) rs.length c k (k : Int) rfl (by omega) w]
          unfold cutA
          rw [if_neg hkc]
          simp [Addr.add, show k ≠ 0 by omega]
        clear c0 c1 c0d c1d cq0 cq1 hx0 hx1 hdq hdr
        go_wp2_with fail
        go_loopw [5, 7] (fun i i2 wq0 => ∃ (u : Nat) (kept : List Row) (V : List Value), 0 < u ∧ k + u ≤ rs.length ∧ i2 = .int .i64 u ∧ i = .int .i64 kept.length ∧ kept.length ≤ k + u - 1 ∧ Hid (kept.map Row.xs = compL ((rs.map Row.xs).take (k + u))) ∧ kept.Sublist (rs.take (k + u)) ∧
          wq0.ownsRow lo 22 1 (.slice (some ⟨g, 0, none⟩) rs.length c) rs.length V ∧ Hid (V.take kept.length = kept.map Row.v) ∧ Hid (∀ i, k + u - 1 ≤ i → V[i]? = (rs.map Row.v)[i]?) ∧ Hid (w.grownBy wq0 (some g))) (fun _ i2 _ => rs.length - k - (intOf i2).toNat)
        case atStart =>
          refine ⟨1, rs.take k, rs.map Row.v, by omega, by omega, rfl, by rw [List.length_take, Nat.min_eq_left hk], by rw [List.length_take]; omega, Lib.hid (by rw [HS.out, List.map_take]), HTS.out, hownq, Lib.hid (by rw [List.length_take, Nat.min_eq_left hk, List.map_take]), Lib.hid (fun _ _ => rfl), HGR⟩
        case round =>
          clear hownq
          obtain ⟨u, kept, V, hu0, hu, rfl, rfl, hkl, HKX, hsub, hV, HVT, HVR, HG⟩ := hrel
          obtain ⟨wo, rfl⟩ : ∃ wo : World, wo = wr := ⟨_, rfl⟩
          have hO3 : Own wo lo wo.heap.size rs [] := Own.kept HO.out (Nat.le_refl _) (by simp) (show w.grownBy wo (Value.slice (some ⟨g, 0, none⟩) rs.length c).ownBlock from HG.out)
          rcases Nat.lt_or_ge (k + u) rs.length with hul | hug
          · obtain ⟨q0, hq0⟩ : ∃ q : Row, q = rs[k + u] := ⟨_, rfl⟩
            obtain ⟨q1, hq1⟩ : ∃ q : Row, q = rs[k + (u - 1)]'(by omega) := ⟨_, rfl⟩
            have hq0m : q0 ∈ rs := by rw [hq0]; exact List.getElem_mem hul
            have hq1m : q1 ∈ rs := by rw [hq1]; exact List.getElem_mem _
            have c0 : wo.cell? ⟨g, k + u, none⟩ = some (Value.slice q0.A q0.xs.length q0.c) := by
              rw [hV.cellAt (k + u) (by omega), HVR.out (k + u) (by omega), List.getElem?_map, List.getElem?_eq_getElem hul, ← hq0]; rfl
            have c1 : wo.cell? ⟨g, k + (u - 1), none⟩ = some (Value.slice q1.A q1.xs.length q1.c) := by
              rw [hV.cellAt (k + (u - 1)) (by omega), HVR.out (k + (u - 1)) (by omega), List.getElem?_map, List.getElem?_eq_getElem (by omega), ← hq1]; rfl
            have c0d : wo.drew.cell? ⟨g, k + u, none⟩ = some (Value.slice q0.A q0.xs.length q0.c) := c0
            have c1d : wo.drew.cell? ⟨g, k + (u - 1), none⟩ = some (Value.slice q1.A q1.xs.length q1.c) := c1
            have i1 : IntKind.i64.wrap ((u : Int) - 1) = (u : Int) - 1 := IntWalk.i64_in _ (by omega)
            have i2 : ((u : Int) - 1).toNat = u - 1 := by omega
            have i3 : 0 ≤ (u : Int) - 1 := by omega
            have i4 : (u : Int) - 1 < ((rs.length - k : Nat) : Int) := by omega
            have i5 : (u : Int) < ((rs.length - k : Nat) : Int) := by omega
            have i6 : 0 ≤ (u : Int) := by omega
            have i7 : 1 ≤ (u : Int) := by omega
            have i8 : (u : Int) ≤ ((rs.length - k : Nat) : Int) := by omega
            have hy0 := ((hO3.read.rd q0 hq0m).dr (w' := wo.drew) (Dr.refl _).drew).more (B' := wo.drew.heap.size) (Nat.le_refl _)
            have hy1 := ((hO3.read.rd q1 hq1m).dr (w' := wo.drew) (Dr.refl _).drew).more (B' := wo.drew.heap.size) (Nat.le_refl _)
            have hm0 := HR8.out q0 hq0m
            have hm0' : q0.xs.length ≤ 4611686018427387904 := by omega
            have HT2 := Lib.hid (show compL ((rs.map Row.xs).take (k + u + 1)) = if q1.xs = q0.xs then compL ((rs.map Row.xs).take (k + u)) else compL ((rs.map Row.xs).take (k + u)) ++ [q0.xs] by
              have h1 := compL_take (rs.map Row.xs) (k + u) (by omega) (by simpa using hul)
              have h3 : (rs.map Row.xs)[k + u]'(by simpa using hul) = q0.xs := by rw [hq0]; simp
              have h4 : (rs.map Row.xs)[k + u - 1]'(by rw [List.length_map]; omega) = q1.xs := by rw [hq1]; simp only [List.getElem_map, show k + u - 1 = k + (u - 1) by omega]
              rw [h1, h3, h4])
            have HSL := Lib.hid (show kept.Sublist (rs.take (k + u + 1)) ∧ (kept ++ [q0]).Sublist (rs.take (k + u + 1)) by
              rw [List.take_succ_eq_append_getElem hul, ← hq0]
              exact ⟨hsub.trans (List.sublist_append_left _ _), hsub.append (List.Sublist.refl _)⟩)
            have hlen : ((rs.length - k : Nat) : Int) = (rs.length : Int) - (k : Int) := by omega
            have HLEN := Lib.hid hlen
            clear hlen hq0 hq1 hq0m hq1m hO3 hsub
            by_cases he : q0.xs = q1.xs
            · have HS2 := Lib.hid (show kept.map Row.xs = compL ((rs.map Row.xs).take (k + (u + 1))) by rw [show k + (u + 1) = k + u + 1 by omega, HT2.out, if_pos he.symm]; exact HKX.out)
              have HD := Lib.hid (decide_eq_true he)
              clear he
              go_wp2_with fail
              go_region_held3 (fun v => v.cell? ⟨g, k + u, none⟩ = some (Value.slice q0.A q0.xs.length q0.c) ∧ v.cell? ⟨g, k + (u - 1), none⟩ = some (Value.slice q1.A q1.xs.length q1.c)) (first | exact ⟨c0d, c1d⟩ | exact ⟨cq0, cq1⟩) ((first | (go_at_call 93; (with_reducible refine (equal_b _ _ _ _ _ _ _ _ wo.drew true rfl rfl hm0' hy0 hy1 HD.out).mono ?_); rintro e wq ⟨rfl, hdq⟩; have cq0 := (hdq.cell ⟨g, k + u, none⟩).trans c0d; have cq1 := (hdq.cell ⟨g, k + (u - 1), none⟩).trans c1d) | fail))
              have hdo := (Dr.refl wo).drew.trans hdq
              have hVq := hdo.own hV
              go_wp2_with fail
              go_roundw
              case rel => exact ⟨u + 1, kept, V, by omega, by omega, by go_num, rfl, by omega, HS2, HSL.out.1, hVq, HVT, Lib.hid (fun i hi => HVR.out i (by omega)), Lib.hid (grown_trans HG.out (below_grown (below_dr (Below.refl _ _) hdo)))⟩
              case measure => simp [intOf]; omega
            · have HS2 := Lib.hid (show (kept ++ [q0]).map Row.xs = compL ((rs.map Row.xs).take (k + (u + 1))) by
                rw [show k + (u + 1) = k + u + 1 by omega, HT2.out, if_neg (fun h => he h.symm), List.map_append, HKX.out]; rfl)
              have HD := Lib.hid (decide_eq_false he)
              clear he
              go_wp2_with fail
              go_region_held3 (fun v => v.cell? ⟨g, k + u, none⟩ = some (Value.slice q0.A q0.xs.length q0.c) ∧ v.cell? ⟨g, k + (u - 1), none⟩ = some (Value.slice q1.A q1.xs.length q1.c)) (first | exact ⟨c0d, c1d⟩ | exact ⟨cq0, cq1⟩) ((first | (go_at_call 93; (with_reducible refine (equal_b _ _ _ _ _ _ _ _ wo.drew false rfl rfl hm0' hy0 hy1 HD.out).mono ?_); rintro e wq ⟨rfl, hdq⟩; have cq0 := (hdq.cell ⟨g, k + u, none⟩).trans c0d; have cq1 := (hdq.cell ⟨g, k + (u - 1), none⟩).trans c1d) | fail))
              have hdo := (Dr.refl wo).drew.trans hdq
              have hVq := hdo.own hV
              have hVl := own_len hV
              have cz : wq.cell? ⟨g, kept.length, none⟩ = some (V[kept.length]'(by omega)) := by rw [hVq.cellAt kept.length (by omega)]; exact List.getElem?_eq_getElem (by omega)
              have fz : wq.frozen? ⟨g, kept.length, none⟩ = false := hVq.frozenAt kept.length
              have hVs := own_set_at hVq (show kept.length < rs.length by omega) (Value.slice q0.A q0.xs.length q0.c)
              have HVT2 := Lib.hid (show (V.set kept.length (Value.slice q0.A q0.xs.length q0.c)).take (kept ++ [q0]).length = (kept ++ [q0]).map Row.v by
                rw [List.length_append, List.length_singleton, List.take_succ_eq_append_getElem (by rw [List.length_set]; omega), List.take_set_of_le (Nat.le_refl _), HVT.out, List.getElem_set_self, List.map_append]; rfl)
              have HVR2 := Lib.hid (show ∀ i, k + (u + 1) - 1 ≤ i → (V.set kept.length (Value.slice q0.A q0.xs.length q0.c))[i]? = (rs.map Row.v)[i]? from fun i hi => by
                rw [List.getElem?_set_ne (by omega)]; exact HVR.out i (by omega))
              have HG2 := Lib.hid (show w.grownBy (wq.setCell ⟨g, kept.length, none⟩ (Value.slice q0.A q0.xs.length q0.c)) (some g) from grown_trans (grown_trans HG.out (below_grown (below_dr (Below.refl _ _) hdo))) (grown_set _ _ _ _))
              have j1 : (kept.length : Int) < (rs.length : Int) := by omega
              have HVS := Lib.hid hVs
              clear hVs hVq hdq cz fz
              have cz : wq.cell? ⟨g, kept.length, none⟩ = some (V[kept.length]'(by omega)) := by rw [(hdo.own hV).cellAt kept.length (by omega)]; exact List.getElem?_eq_getElem (by omega)
              have fz : wq.frozen? ⟨g, kept.length, none⟩ = false := (hdo.own hV).frozenAt kept.length
              clear hdo
              go_wp2_with fail
              go_roundw
              case rel => exact ⟨u + 1, kept ++ [q0], _, by omega, by omega, by go_num, by rw [List.length_append]; go_num, by rw [List.length_append, List.length_singleton]; omega, HS2, HSL.out.2, HVS.out, HVT2, HVR2, HG2⟩
              case measure => simp [intOf]; omega
          · obtain rfl : u = rs.length - k := by omega
            have hkn : k + (rs.length - k) = rs.length := by omega
            have HKF := Lib.hid (show kept.map Row.xs = compL (rs.map Row.xs) by
              have h1 := HKX.out
              rw [hkn, List.take_of_length_le (by simp)] at h1; exact h1)
            have hsubr : kept.Sublist rs := hsub.trans (List.take_sublist _ _)
            have hkl2 : kept.length < rs.length := by omega
            have hVl := own_len hV
            have hkc2 : ¬ c = kept.length := by omega
            have hsl3 : ∀ w, (Instr.slice 33 (.slice (some ⟨g, 0, none⟩) rs.length c) (some (.int .i64 (kept.length : Int))) none none).run Try.prog w = .ok (.slice (some ⟨g, kept.length, none⟩) (rs.length - kept.length) (c - kept.length)) w := fun w => by
              rw [run_cut (P := Try.prog) (t := 33) Try.underlying33 sizeL (some ⟨g, 0, none⟩) rs.length c kept.length (kept.length : Int) rfl (by omega) w]
              unfold cutA
              rw [if_neg hkc2]
              by_cases h0 : kept.length = 0 <;> simp [Addr.add, h0]
            have hcl : ∀ ty, (Builtin.clear_ #[33] ty #[.slice (some ⟨g, kept.length, none⟩) (rs.length - kept.length) (c - kept.length)]).run Try.prog wo = .ok (.tuple #[]) (wo.setCells g kept.length (List.replicate (rs.length - kept.length) (.slice none 0 0))) :=
              fun ty => Lib.run_clear_slice wo _ _ ty _ Try.underlying33 zeroL rfl rfl g kept.length _ _ (by omega) (fun j hj => by rw [hV.cellAt (kept.length + j) (by omega), List.getElem?_eq_getElem (by omega)]; rfl) (fun j _ => hV.frozenAt _)
            have hfin := own_sets (List.replicate (rs.length - kept.length) (Value.slice none 0 0)) kept.length wo (own_take hV (Nat.le_of_lt hkl2)) (Nat.le_refl _)
            rw [HVT.out] at hfin
            have hgw := grown_trans HG.out hfin.2
            have hOw := ((Own.kept HO.out (Nat.le_refl _) (by simp) (show w.grownBy _ (Value.slice (some ⟨g, 0, none⟩) rs.length c).ownBlock from hgw)).sub hsubr).with_ (A := some ⟨g, 0, none⟩) (c := c) (vs := kept.map Row.v) (by rw [List.length_map]; exact hfin.1) (Nat.le_refl _)
            have K := Lib.hid (And.intro hOw hgw)
            have hkcc : kept.length ≤ c := by omega
            clear hOw hgw hfin hsub hsubr hO3 hV
            go_wp2_with fail
            go_ret
            exact ⟨some ⟨g, 0, none⟩, c, kept, rfl, HKF.out, K.out.1, K.out.2⟩
      · have HS := Lib.hid (show compL ((rs.map Row.xs).take (k + 1)) = (rs.map Row.xs).take (k + 1) by
          rw [HT.out, HXk.out, HXk1.out, if_neg (fun h => he h.symm), HC.out, List.take_succ_eq_append_getElem (by simpa using hlt), HXk.out])
        have HD := Lib.hid (decide_eq_false he)
        clear he
        go_wp2_with fail
        go_region_held3 (fun v => v.cell? ⟨g, k, none⟩ = some ((Value.slice rs[k].A rs[k].xs.length rs[k].c)) ∧ v.cell? ⟨g, k - 1, none⟩ = some ((Value.slice (rs[k - 1]'(by omega)).A (rs[k - 1]'(by omega)).xs.length (rs[k - 1]'(by omega)).c))) (first | exact ⟨c0d, c1d⟩ | exact ⟨cq0, cq1⟩) ((first | (go_at_call 93; (with_reducible refine (equal_b _ _ _ _ _ _ _ _ wr.drew false rfl rfl hl0' hx0 hx1 HD.out).mono ?_); rintro e wq ⟨rfl, hdq⟩; have cq0 := (hdq.cell ⟨g, k, none⟩).trans c0d; have cq1 := (hdq.cell ⟨g, k - 1, none⟩).trans c1d) | fail))
        go_wp2_with fail
        go_roundw
        case rel => exact ⟨k + 1, by omega, by omega, by go_num, HS, (hd.trans (Dr.refl _).drew).trans hdq⟩
        case measure => simp [intOf]; omega
    · obtain rfl : k = rs.length := by omega
      have HE := Lib.hid (show compL (rs.map Row.xs) = rs.map Row.xs by have := HC.out; rwa [List.take_of_length_le (by simp)] at this)
      go_wp2_with fail
      go_ret
      exact ⟨_, c, rs, rfl, HE.out.symm, (HO.out.dr hd).wider (Nat.le_refl _) (by omega), below_grown (below_dr (Below.refl _ _) hd)⟩
end Go.Proofs.Ythkggnmfdlggbaa
