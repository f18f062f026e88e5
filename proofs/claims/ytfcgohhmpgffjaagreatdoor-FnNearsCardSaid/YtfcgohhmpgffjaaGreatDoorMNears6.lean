/- Several texts in one, each with its own head: G6, V5, V1, V4, V3, D4, DM, D8, D9. No program of ours. -/
import Derived.RegionTactic
import Derived.ChangeAlike
import Derived.Deep.RegionHeld3
import Derived.Test.YtfcgohhmpgffjaaGreatDoorMNears5
/- CountNear, program and reference. -/
namespace Go.Proofs.YtfcgohhmpgffjaaGreatDoor
set_option maxRecDepth 100000
open Go Go.RowKit

/-- A joined place whose neighbor is not beside it. -/
def badJ (l : List Int) (i : Int) : Bool := !(nth l i == nth l (i - 1) + 1)
def nearFit (ys l : List Int) : Bool := !ys.any (badJ l)
def nearCnt (p xs ys : List Int) : Nat := ((occI p xs).filter (nearFit ys)).length
def cnG (p xs ys : List Int) : Int := if permB p = true ∧ nearB xs ys = true then (nearCnt p xs ys : Int) else -1
theorem nearB_range {xs ys : List Int} (h : nearB xs ys = true) : ∀ i ∈ ys, 1 ≤ i ∧ i < xs.length := fun i hi => by
  unfold nearB at h
  rw [Bool.and_eq_true] at h
  obtain ⟨k, hk, rfl⟩ := List.mem_iff_getElem.1 hi
  have := List.all_eq_true.1 h.2 k (List.mem_range.2 hk)
  simp only [joinAt, List.getElem?_eq_getElem hk, Option.getD_some, decide_eq_true_eq] at this
  omega
theorem nearB_permB {xs ys : List Int} (h : nearB xs ys = true) : permB xs = true := by
  unfold nearB at h
  rw [Bool.and_eq_true] at h
  exact h.1
theorem occI_le {p q : List Int} (hp8 : p.length ≤ 8) (hq8 : q.length ≤ 8) : (occI p q).length ≤ 16777216 := by
  unfold occI
  have h1 := List.length_filter_le (fun l => decide (patL (atL p l) = q)) (ascI p.length q.length)
  have h2 := ascI_le p.length q.length
  have h3 := pow_eight hp8 hq8
  omega
theorem occI_mem {p q l : List Int} (h : l ∈ occI p q) : l.length = q.length ∧ Asc p.length l := ascI_mem (List.mem_filter.1 h).1

set_option maxHeartbeats 1000000 in
theorem cn_cl (A : Option Addr) (c g : Nat) (l : List Int) (i : Int) (w : World) (hl : In w A c l) (hg : w.cell? ⟨g, 0, none⟩ = some (.slice A l.length c)) (h1 : 1 ≤ i) (h2 : i < l.length) (h8 : l.length ≤ 8) (hlim : ∀ x ∈ l, 1 ≤ x ∧ x ≤ 8) :
    Calls Tryz.prog 30 #[.int .i64 i, .pointer (some ⟨g, 0, none⟩)] w (Rb w (.bool (badJ l i))) := by
  obtain ⟨m, hm⟩ : ∃ m : Nat, i = (m : Int) + 1 := ⟨(i - 1).toNat, by omega⟩
  subst hm
  obtain ⟨b, off, rfl, _, hc⟩ := hl.rd (by omega)
  have c1 := hc (m + 1) (by omega)
  have c2 := hc m (by omega)
  have HB := Lib.hid (show badJ l ((m : Int) + 1) = !(l[m + 1]'(by omega) == l[m]'(by omega) + 1) by
    unfold badJ nth
    rw [show ((m : Int) + 1).toNat = m + 1 by omega, show ((m : Int) + 1 - 1).toNat = m by omega, List.getElem?_eq_getElem (show m + 1 < l.length by omega), List.getElem?_eq_getElem (show m < l.length by omega)]
    rfl)
  have e1 : IntKind.i64.wrap ((m : Int) + 1 - 1) = (m : Int) := by rw [Int.add_sub_cancel]; exact IntWalk.i64_in _ (by omega)
  have e2 : ((m : Int) + 1).toNat = m + 1 := by omega
  have e3 : 0 ≤ (m : Int) + 1 := by omega
  have e4 : (m : Int) + 1 < (l.length : Int) := by omega
  have e5 : (m : Int) < (l.length : Int) := by omega
  have b1 := hlim (l[m]'(by omega)) (List.getElem_mem _)
  have e6 : IntKind.i64.wrap (l[m]'(by omega) + 1) = l[m]'(by omega) + 1 := IntWalk.i64_in _ (by omega)
  clear hc
  go_enter Tryz.func30, Tryz.ntmps30
  go_wp2_with fail
  go_quiet (fail)
  go_wp2_with fail
  go_ret
  exact ⟨ret_bool (by rw [HB.out]; first | rfl | simp), below_dr (Below.refl _ _) (by first | with_reducible exact Dr.of _ _ | with_reducible exact Dr.of2 _ _ _ | with_reducible exact Dr.refl _ | with_reducible exact Dr.of3 _ _ _)⟩
theorem call_cn (args : Array Value) (w : World) : (callFunc 30 args).run Tryz.prog w = .ok (.enter 30 args) w := by kernel_rfl
set_option maxHeartbeats 4000000 in
theorem countNear_impl (A : Option Addr) (c : Nat) (p : List Int) (C D : Option Addr) (e f : Nat) (xs ys : List Int) (w : World) (hp : In w A c p) (hx : InN w C e xs D f ys) :
    Calls Tryz.prog 6 #[.slice A p.length c, .agg #[.slice C xs.length e, .slice D ys.length f]] w (Rb w (.int .i64 (cnG p xs ys))) := by
  have hmf : ∀ (fn : Fn) (first cap : Array Value) (w : World), (Instr.makeFunc fn first cap).run Tryz.prog w = .ok (.func fn first cap) w := fun _ _ _ _ => rfl
  go_enter Tryz.func6, Tryz.ntmps6
  have hb0 : Below w.heap.size w (w.alloc (Obj.cells #[Value.slice C xs.length e, Value.slice D ys.length f] 26)) := (Below.refl _ _).alloc (Nat.le_refl _) _
  have ob := obj_new w (Obj.cells #[Value.slice C xs.length e, Value.slice D ys.length f] 26)
  go_wp2_with fail
  generalize (w.alloc (Obj.cells #[Value.slice C xs.length e, Value.slice D ys.length f] 26)) = w0 at hb0 ob ⊢
  by_cases hP : permB p = true
  · have H1 := Lib.hid hP
    have hp8 := (permB_true hP).1
    clear hP
    (with_reducible refine (isPerm_ib A c p w0 true (hp.next hb0) H1.out).mono ?_)
    rintro e w1 ⟨rfl, hb1⟩
    have ob := obj_below ob hb1 (obj_lt ob)
    have hb := hb0.trans (hb1.mono hb0.size)
    have f0 : w1.cell? ⟨w.heap.size, 0, none⟩ = some (Value.slice C xs.length e) := (obj_cell ob).trans rfl
    have f1 : w1.cell? ⟨w.heap.size, 1, none⟩ = some (Value.slice D ys.length f) := (obj_cell ob).trans rfl
    go_wp2_with fail
    by_cases hN : nearB xs ys = true
    · have H2 := Lib.hid hN
      have hx8 := (permB_true (nearB_permB hN)).1
      have hrange := nearB_range hN
      have hly := hx.2.len
      clear hN
      (with_reducible refine (near_ib C D e f xs ys w1 true (hx.next hb) H2.out).mono ?_)
      rintro e w2 ⟨rfl, hb2⟩
      have ob := obj_below ob hb2 (obj_lt ob)
      have hb := hb.trans (hb2.mono hb.size)
      have f0 : w2.cell? ⟨w.heap.size, 0, none⟩ = some (Value.slice C xs.length e) := (obj_cell ob).trans rfl
      have HG := Lib.hid (show cnG p xs ys = (nearCnt p xs ys : Int) by unfold cnG; rw [if_pos ⟨H1.out, H2.out⟩])
      go_wp2_with fail
      (with_reducible refine (occurrences_impl A C c e p xs w2 (hp.next hb) (hx.1.next hb) hp8 hx8).mono ?_)
      rintro e w3 ⟨A3, c3, rs, rfl, hX, hO, hb3⟩
      have ob := obj_below ob hb3 (obj_lt ob)
      have hb := hb.trans (hb3.mono hb.size)
      have hRd := hO.read
      have hlen : rs.length ≤ 16777216 := by have h1 := occI_le hp8 hx8; have h2 := congrArg List.length hX; rw [List.length_map] at h2; omega
      have HX := Lib.hid hX
      have hob := obj_lt ob
      clear hX hO f0 f1 hb1 hb2
      go_wp2_with fail
      go_loopw [5, 21] (fun s i wr => ∃ k : Nat, k ≤ rs.length ∧ i = .int .i64 k ∧ s = .int .i64 (cntTo (fun r : Row => nearFit ys r.xs) rs k : Nat) ∧ Below w3.heap.size w3 wr) (fun _ i _ => rs.length - (intOf i).toNat)
      case atStart => exact ⟨0, Nat.zero_le _, rfl, rfl, Below.refl _ _⟩
      case round =>
        obtain ⟨k, hk, rfl, rfl, hb4⟩ := hrel
        have hle := cntTo_le (fun r : Row => nearFit ys r.xs) rs k
        have hsz4 := hb4.size
        rcases Nat.lt_or_ge k rs.length with hlt | hge
        · have hRd2 := hRd.below hb4
          obtain ⟨b, off, rfl, _, hc⟩ := hRd2.at (by omega)
          have cc := hc k hlt
          have hmem := occI_mem (map_memX HX.out (List.getElem_mem hlt))
          have hml : rs[k].xs.length = xs.length := hmem.1
          have hlim : ∀ x ∈ rs[k].xs, 1 ≤ x ∧ x ≤ 8 := fun x hx => by have := hmem.2.1 x hx; omega
          have hl8 : rs[k].xs.length ≤ 8 := by omega
          have hin := row_in hRd2 (List.getElem_mem hlt) (by omega) hsz4
          have hbA := (Below.refl wr.heap.size wr).alloc (Nat.le_refl _) (Obj.cells #[Value.slice rs[k].A rs[k].xs.length rs[k].c] 24)
          have hin2 := hin.next hbA
          have hcA := alloc_cell wr (Value.slice rs[k].A rs[k].xs.length rs[k].c) 24
          have hb5 := hb.trans (hb4.mono hb.size)
          have hy2 := (hx.2.next hb5).next hbA
          have ob4 := obj_alloc (obj_below ob hb4 hob) (Obj.cells #[Value.slice rs[k].A rs[k].xs.length rs[k].c] 24)
          have f1 : (wr.alloc (Obj.cells #[Value.slice rs[k].A rs[k].xs.length rs[k].c] 24)).cell? ⟨w.heap.size, 1, none⟩ = some (Value.slice D ys.length f) := (obj_cell ob4).trans rfl
          have HR := Lib.hid (show ∀ i ∈ ys, 1 ≤ i ∧ i < (rs[k].xs.length : Int) from fun i hi => by have := hrange i hi; omega)
          have HS := Lib.hid (cntTo_succ (fun r : Row => nearFit ys r.xs) rs k hlt)
          have hzA : (wr.alloc (Obj.cells #[Value.slice rs[k].A rs[k].xs.length rs[k].c] 24)).heap.size = wr.heap.size + 1 := by simp
          have HZ := Lib.hid hzA
          have hbw := hb4.trans (hbA.mono hsz4)
          clear hc hmem hml hin hRd2 hzA hbA
          go_wp2_with fail
          generalize (wr.alloc (Obj.cells #[Value.slice rs[k].A rs[k].xs.length rs[k].c] 24)) = wA at hin2 hcA hy2 ob4 f1 HZ hbw ⊢
          by_cases hH : nearFit ys rs[k].xs = true
          · have HF := Lib.hid (show ys.any (badJ rs[k].xs) = false by unfold nearFit at hH; simpa using hH)
            have HT := Lib.hid (show cntTo (fun r : Row => nearFit ys r.xs) rs (k + 1) = cntTo (fun r : Row => nearFit ys r.xs) rs k + 1 by rw [HS.out, if_pos hH])
            clear hH
            refine (containsFuncI1 D f ys.length ys 30 wr.heap.size (badJ rs[k].xs) wA rfl (by omega) hy2.rd (fun args w' => call_cn args w') (fun w' j hj hb => ?_) false HF.out).mono ?_
            · exact cn_cl rs[k].A rs[k].c _ rs[k].xs ys[j] w' (hin2.next hb) ((hb.cell (p := ⟨wr.heap.size, 0, none⟩) (by have := HZ.out; show wr.heap.size < wA.heap.size; omega)).trans hcA) (HR.out _ (List.getElem_mem hj)).1 (HR.out _ (List.getElem_mem hj)).2 hl8 hlim
            · rintro e w6 ⟨rfl, hb6⟩
              go_wp2_with fail
              go_roundw
              case rel => exact ⟨k + 1, by omega, by go_num, by rw [HT.out]; all_goals go_num, hbw.trans (hb6.mono hbw.size)⟩
              case measure => simp [intOf]; omega
          · have HF := Lib.hid (show ys.any (badJ rs[k].xs) = true by unfold nearFit at hH; simpa using hH)
            have HT := Lib.hid (show cntTo (fun r : Row => nearFit ys r.xs) rs (k + 1) = cntTo (fun r : Row => nearFit ys r.xs) rs k by rw [HS.out, if_neg hH, Nat.add_zero])
            clear hH
            refine (containsFuncI1 D f ys.length ys 30 wr.heap.size (badJ rs[k].xs) wA rfl (by omega) hy2.rd (fun args w' => call_cn args w') (fun w' j hj hb => ?_) true HF.out).mono ?_
            · exact cn_cl rs[k].A rs[k].c _ rs[k].xs ys[j] w' (hin2.next hb) ((hb.cell (p := ⟨wr.heap.size, 0, none⟩) (by have := HZ.out; show wr.heap.size < wA.heap.size; omega)).trans hcA) (HR.out _ (List.getElem_mem hj)).1 (HR.out _ (List.getElem_mem hj)).2 hl8 hlim
            · rintro e w6 ⟨rfl, hb6⟩
              go_wp2_with fail
              go_roundw
              case rel => exact ⟨k + 1, by omega, by go_num, by rw [HT.out], hbw.trans (hb6.mono hbw.size)⟩
              case measure => simp [intOf]; omega
        · obtain rfl : k = rs.length := by omega
          have HE := Lib.hid (show cntTo (fun r : Row => nearFit ys r.xs) rs rs.length = nearCnt p xs ys by
            rw [cntTo_all]; unfold nearCnt; rw [← HX.out, List.filter_map, List.length_map]; rfl)
          go_wp2_with fail
          go_ret
          exact ⟨ret_int (by rw [HG.out, HE.out]), hb.trans (hb4.mono hb.size)⟩
    · have hNf : nearB xs ys = false := by simpa using hN
      have HG := Lib.hid (show cnG p xs ys = -1 by unfold cnG; rw [if_neg]; exact fun h => hN h.2)
      (with_reducible refine (near_ib C D e f xs ys w1 false (hx.next hb) hNf).mono ?_)
      rintro e w2 ⟨rfl, hb2⟩
      clear hN hNf
      go_wp2_with fail
      go_ret
      exact ⟨ret_int (by rw [HG.out]), hb.trans (hb2.mono hb.size)⟩
  · have hPf : permB p = false := by simpa using hP
    have HG := Lib.hid (show cnG p xs ys = -1 by unfold cnG; rw [if_neg]; exact fun h => hP h.1)
    (with_reducible refine (isPerm_ib A c p w0 false (hp.next hb0) hPf).mono ?_)
    rintro e w1 ⟨rfl, hb1⟩
    clear hP hPf
    go_wp2_with fail
    go_ret
    exact ⟨ret_int (by rw [HG.out]), hb0.trans (hb1.mono hb0.size)⟩
set_option maxHeartbeats 1000000 in
theorem l8Fits_b (A D : Option Addr) (c f n : Nat) (l ys : List Int) (w : World) (b : Bool) (hn : l.length = n) (hl : Rd (Value.int .i64) w w.heap.size A l) (hy : Rd (Value.int .i64) w w.heap.size D ys) (hly : ys.length ≤ 1048576) (hr : ∀ i ∈ ys, 1 ≤ i ∧ i < l.length) (h8 : n ≤ 8) (hlim : ∀ x ∈ l, 1 ≤ x ∧ x ≤ 8) (hb : nearFit ys l = b) :
    Calls Tryz.prog 46 #[.slice A n c, .slice D ys.length f] w (Rq w (.bool b)) := by
  have HB := Lib.hid hb
  have HN := Lib.hid hn
  have hn2 : l.length ≤ n := by omega
  have hn3 : n ≤ l.length := by omega
  clear hb hn
  go_enter Tryz.func46, Tryz.ntmps46
  go_wp2_with fail
  go_loopw [5] (fun i wr => ∃ k : Nat, k ≤ ys.length ∧ i = .int .i64 k ∧ Hid ((ys.take k).any (badJ l) = false) ∧ Dr w wr) (fun i _ => ys.length - (intOf i).toNat)
  case atStart => exact ⟨0, Nat.zero_le _, rfl, Lib.hid rfl, Dr.refl _⟩
  case round =>
    obtain ⟨k, hk, rfl, HF, hd⟩ := hrel
    rcases Nat.lt_or_ge k ys.length with hlt | hge
    · have hyk := hr ys[k] (List.getElem_mem hlt)
      obtain ⟨m, hm⟩ : ∃ m : Nat, (m : Int) + 1 = ys[k] := ⟨(ys[k] - 1).toNat, by omega⟩
      have hm1 : m + 1 < l.length := by omega
      have hm0 : m < l.length := by omega
      obtain ⟨by_, oy, rfl, _, hcy⟩ := hy (by omega)
      obtain ⟨bl, ol, rfl, _, hcl⟩ := hl (by omega)
      have g1 : wr.cell? ⟨by_, oy + k, none⟩ = some (.int .i64 ys[k]) := (hd.cell _).trans (hcy k hlt)
      have g2 : wr.cell? ⟨bl, ol + (m + 1), none⟩ = some (.int .i64 (l[m + 1])) := (hd.cell _).trans (hcl (m + 1) (by omega))
      have g3 : wr.cell? ⟨bl, ol + m, none⟩ = some (.int .i64 (l[m])) := (hd.cell _).trans (hcl m (by omega))
      rw [← hm] at g1
      have HK := Lib.hid (show badJ l ys[k] = !(l[m + 1] == l[m] + 1) by
        unfold badJ nth
        rw [← hm, show ((m : Int) + 1).toNat = m + 1 by omega, show ((m : Int) + 1 - 1).toNat = m by omega, List.getElem?_eq_getElem (show m + 1 < l.length by omega), List.getElem?_eq_getElem (show m < l.length by omega)]
        rfl)
      have b1 := hlim l[m] (List.getElem_mem _)
      have e6 : IntKind.i64.wrap (l[m] + 1) = l[m] + 1 := IntWalk.i64_in _ (by omega)
      have e1 : IntKind.i64.wrap ((m : Int) + 1 - 1) = (m : Int) := by rw [Int.add_sub_cancel]; exact IntWalk.i64_in _ (by omega)
      have e2 : ((m : Int) + 1).toNat = m + 1 := by omega
      have e3 : 0 ≤ (m : Int) + 1 := by omega
      have e4 : (m : Int) + 1 < (n : Int) := by omega
      have e5 : (m : Int) < (n : Int) := by omega
      have e7 : (k : Int) < (ys.length : Int) := by omega
      clear hcy hcl hyk hm
      by_cases hh : badJ l ys[k] = true
      · have HT := Lib.hid (show nearFit ys l = false by unfold nearFit; rw [any_at hlt hh]; rfl)
        have hne : (l[m + 1] != l[m] + 1) = true := HK.out.symm.trans hh
        clear hh HK
        go_wp2_with fail
        go_quiet (fail)
        go_wp2_with fail
        go_ret
        exact ⟨ret_bool (by rw [← HB.out, HT.out]), (by first | with_reducible assumption | with_reducible exact hd | with_reducible exact Dr.drewN hd _ | with_reducible exact Dr.drewN (Dr.drewN hd _) _ | with_reducible exact Dr.drew hd)⟩
      · have hhf : badJ l ys[k] = false := by simpa using hh
        have HT := Lib.hid (show (ys.take (k + 1)).any (badJ l) = false from any_take_false HF.out hlt hhf)
        have hne : (l[m + 1] != l[m] + 1) = false := HK.out.symm.trans hhf
        clear hh hhf HK
        go_wp2_with fail
        go_quiet (fail)
        go_wp2_with fail
        go_roundw
        case rel => exact ⟨k + 1, by omega, by go_num, HT, (by first | with_reducible assumption | with_reducible exact hd | with_reducible exact Dr.drewN hd _ | with_reducible exact Dr.drewN (Dr.drewN hd _) _ | with_reducible exact Dr.drew hd)⟩
        case measure => simp [intOf]; omega
    · have HT := Lib.hid (show nearFit ys l = true by have := HF.out; rw [List.take_of_length_le hge] at this; unfold nearFit; rw [this]; rfl)
      go_wp2_with fail
      go_ret
      exact ⟨ret_bool (by rw [← HB.out, HT.out]), hd⟩

set_option maxHeartbeats 4000000 in
theorem countNear_spec (A : Option Addr) (c : Nat) (p : List Int) (C D : Option Addr) (e f : Nat) (xs ys : List Int) (w : World) (hp : In w A c p) (hx : InN w C e xs D f ys) :
    Calls Tryz.prog 15 #[.slice A p.length c, .agg #[.slice C xs.length e, .slice D ys.length f]] w (Rb w (.int .i64 (cnG p xs ys))) := by
  go_enter Tryz.func15, Tryz.ntmps15
  have hb0 : Below w.heap.size w (w.alloc (Obj.cells #[Value.slice C xs.length e, Value.slice D ys.length f] 26)) := (Below.refl _ _).alloc (Nat.le_refl _) _
  have ob := obj_new w (Obj.cells #[Value.slice C xs.length e, Value.slice D ys.length f] 26)
  go_wp2_with fail
  generalize (w.alloc (Obj.cells #[Value.slice C xs.length e, Value.slice D ys.length f] 26)) = w0 at hb0 ob ⊢
  by_cases hP : permB p = true
  · have H1 := Lib.hid hP
    have hp8 := (permB_true hP).1
    clear hP
    (with_reducible refine (isPerm_sb A c p w0 true (hp.next hb0) H1.out).mono ?_)
    rintro e w1 ⟨rfl, hd1⟩
    have ob := obj_dr ob hd1
    have hb := below_dr hb0 hd1
    have f0 : w1.cell? ⟨w.heap.size, 0, none⟩ = some (Value.slice C xs.length e) := (obj_cell ob).trans rfl
    have f1 : w1.cell? ⟨w.heap.size, 1, none⟩ = some (Value.slice D ys.length f) := (obj_cell ob).trans rfl
    go_wp2_with fail
    by_cases hN : nearB xs ys = true
    · have H2 := Lib.hid hN
      have hx8 := (permB_true (nearB_permB hN)).1
      have hrange := nearB_range hN
      have hly := hx.2.len
      have HXP := Lib.hid (nearB_permB hN)
      clear hN
      (with_reducible refine (near_sb C D e f xs ys w1 true (hx.next hb) H2.out).mono ?_)
      rintro e w2 ⟨rfl, hb2⟩
      have ob := obj_below ob hb2 (obj_lt ob)
      have hb := hb.trans (hb2.mono hb.size)
      have f0 : w2.cell? ⟨w.heap.size, 0, none⟩ = some (Value.slice C xs.length e) := (obj_cell ob).trans rfl
      have HG := Lib.hid (show cnG p xs ys = (nearCnt p xs ys : Int) by unfold cnG; rw [if_pos ⟨H1.out, H2.out⟩])
      go_wp2_with fail
      (with_reducible refine (occurrencesOf_spec A C c e p xs w2 (hp.next hb) (hx.1.next hb) H1.out HXP.out).mono ?_)
      rintro e w3 ⟨A3, c3, rs, rfl, hX, hO, hb3⟩
      rw [occ_eq H1.out HXP.out] at hX
      have ob := obj_below ob hb3 (obj_lt ob)
      have hb := hb.trans (hb3.mono hb.size)
      have hRd := hO.read
      have hlen : rs.length ≤ 16777216 := by have h1 := occI_le hp8 hx8; have h2 := congrArg List.length hX; rw [List.length_map] at h2; omega
      have HX := Lib.hid hX
      have hob := obj_lt ob
      clear hX hO f0 f1 hb2
      go_wp2_with fail
      go_loopw [5, 7] (fun s i wr => ∃ k : Nat, k ≤ rs.length ∧ i = .int .i64 k ∧ s = .int .i64 (cntTo (fun r : Row => nearFit ys r.xs) rs k : Nat) ∧ Dr w3 wr) (fun _ i _ => rs.length - (intOf i).toNat)
      case atStart => exact ⟨0, Nat.zero_le _, rfl, rfl, Dr.refl _⟩
      case round =>
        obtain ⟨k, hk, rfl, rfl, hd4⟩ := hrel
        have hle := cntTo_le (fun r : Row => nearFit ys r.xs) rs k
        rcases Nat.lt_or_ge k rs.length with hlt | hge
        · have hRd2 := hRd.dr hd4
          obtain ⟨b, off, rfl, _, hc⟩ := hRd2.at (by omega)
          have cc := hc k hlt
          have hmem := occI_mem (map_memX HX.out (List.getElem_mem hlt))
          have hml : rs[k].xs.length = xs.length := hmem.1
          have hlim : ∀ x ∈ rs[k].xs, 1 ≤ x ∧ x ≤ 8 := fun x hx => by have := hmem.2.1 x hx; omega
          have hl8 : rs[k].xs.length ≤ 8 := by omega
          have hszw : wr.heap.size = w3.heap.size := by rw [hd4.heap]
          have hin := row_in hRd2 (List.getElem_mem hlt) (by omega) (by rw [hszw]; exact Nat.le_refl _)
          have hy2 := ((hx.2.next hb).dr hd4).rd
          have f1 : wr.cell? ⟨w.heap.size, 1, none⟩ = some (Value.slice D ys.length f) := (obj_cell (obj_dr ob hd4)).trans rfl
          have HR := Lib.hid (show ∀ i ∈ ys, 1 ≤ i ∧ i < (rs[k].xs.length : Int) from fun i hi => by have := hrange i hi; omega)
          have HL := Lib.hid hlim
          have HS := Lib.hid (cntTo_succ (fun r : Row => nearFit ys r.xs) rs k hlt)
          have i0 : (0 : Int) ≤ (k : Int) := Int.natCast_nonneg _
          have i1 : (k : Int) < (rs.length : Int) := by omega
          have hrl := hin.rd
          clear hc hmem hml hin hRd2 hlim hszw
          by_cases hH : nearFit ys rs[k].xs = true
          · have HF := Lib.hid hH
            have HT := Lib.hid (show cntTo (fun r : Row => nearFit ys r.xs) rs (k + 1) = cntTo (fun r : Row => nearFit ys r.xs) rs k + 1 by rw [HS.out, if_pos hH])
            have e1 : IntKind.i64.wrap (((cntTo (fun r : Row => nearFit ys r.xs) rs k : Nat) : Int) + 1) = ((cntTo (fun r : Row => nearFit ys r.xs) rs k : Nat) : Int) + 1 := IntWalk.i64_in _ (by omega)
            clear hH
            go_wp2_with fail
            go_quiet ((first | (go_at_call 46; exact quiet_rq (l8Fits_b _ _ _ _ _ rs[k].xs ys _ true rfl (hrl.drewN _) (hy2.drewN _) hly HR.out hl8 HL.out HF.out)) | (go_at_call 45; exact quiet_eq (l1Bit_b true 1 _ rfl))))
            go_wp2_with fail
            go_roundw
            case rel => exact ⟨k + 1, by omega, by go_num, by rw [HT.out]; all_goals go_num, (by first | with_reducible assumption | with_reducible exact hd4 | with_reducible exact Dr.drewN hd4 _ | with_reducible exact Dr.drewN (Dr.drewN hd4 _) _ | with_reducible exact Dr.drew hd4)⟩
            case measure => simp [intOf]; omega
          · have hHf : nearFit ys rs[k].xs = false := by simpa using hH
            have HF := Lib.hid hHf
            have HT := Lib.hid (show cntTo (fun r : Row => nearFit ys r.xs) rs (k + 1) = cntTo (fun r : Row => nearFit ys r.xs) rs k by rw [HS.out, if_neg hH, Nat.add_zero])
            have e1 : IntKind.i64.wrap (((cntTo (fun r : Row => nearFit ys r.xs) rs k : Nat) : Int) + 0) = ((cntTo (fun r : Row => nearFit ys r.xs) rs k : Nat) : Int) := by rw [Int.add_zero]; exact IntWalk.i64_in _ (by omega)
            clear hH hHf
            go_wp2_with fail
            go_quiet ((first | (go_at_call 46; exact quiet_rq (l8Fits_b _ _ _ _ _ rs[k].xs ys _ false rfl (hrl.drewN _) (hy2.drewN _) hly HR.out hl8 HL.out HF.out)) | (go_at_call 45; exact quiet_eq (l1Bit_b false 0 _ rfl))))
            go_wp2_with fail
            go_roundw
            case rel => exact ⟨k + 1, by omega, by go_num, by rw [HT.out]; all_goals go_num, (by first | with_reducible assumption | with_reducible exact hd4 | with_reducible exact Dr.drewN hd4 _ | with_reducible exact Dr.drewN (Dr.drewN hd4 _) _ | with_reducible exact Dr.drew hd4)⟩
            case measure => simp [intOf]; omega
        · obtain rfl : k = rs.length := by omega
          have HE := Lib.hid (show cntTo (fun r : Row => nearFit ys r.xs) rs rs.length = nearCnt p xs ys by
            rw [cntTo_all]; unfold nearCnt; rw [← HX.out, List.filter_map, List.length_map]; rfl)
          go_wp2_with fail
          go_ret
          exact ⟨ret_int (by rw [HG.out, HE.out]), below_dr hb hd4⟩
    · have hNf : nearB xs ys = false := by simpa using hN
      have HG := Lib.hid (show cnG p xs ys = -1 by unfold cnG; rw [if_neg]; exact fun h => hN h.2)
      (with_reducible refine (near_sb C D e f xs ys w1 false (hx.next hb) hNf).mono ?_)
      rintro e w2 ⟨rfl, hb2⟩
      clear hN hNf
      go_wp2_with fail
      go_ret
      exact ⟨ret_int (by rw [HG.out]), hb.trans (hb2.mono hb.size)⟩
  · have hPf : permB p = false := by simpa using hP
    have HG := Lib.hid (show cnG p xs ys = -1 by unfold cnG; rw [if_neg]; exact fun h => hP h.1)
    (with_reducible refine (isPerm_sb A c p w0 false (hp.next hb0) hPf).mono ?_)
    rintro e w1 ⟨rfl, hd1⟩
    clear hP hPf
    go_wp2_with fail
    go_ret
    exact ⟨ret_int (by rw [HG.out]), below_dr hb0 hd1⟩
end Go.Proofs.YtfcgohhmpgffjaaGreatDoor

/- InversePerm and CountPattern of the reference; the laws' sameLists, sameMesh and sameNear. -/
namespace Go.Proofs.YtfcgohhmpgffjaaGreatDoor
set_option maxRecDepth 100000
open Go Go.RowKit

theorem sameInts_b (A A' : Option Addr) (c c' n m : Nat) (xs ys : List Int) (w : World) (b : Bool) (hn : xs.length = n) (hm : ys.length = m) (hl : n ≤ 1048576)
    (hx : Rd (Value.int .i64) w w.heap.size A xs) (hy : Rd (Value.int .i64) w w.heap.size A' ys) (hb : decide (xs = ys) = b) :
    Calls Tryz.prog 47 #[.slice A n c, .slice A' m c'] w (Rq w (.bool b)) := by
  subst hn hm hb
  exact sameInts_any A A' c c' xs ys w hl hx hy
set_option maxHeartbeats 1000000 in
theorem sameNear_eq (A B A' B' : Option Addr) (c k c' k' : Nat) (xs xs' ys ys' : List Int) (w : World) (h : InN w A c xs B k ys) (h' : InN w A' c' xs' B' k' ys') (hx : xs = xs') (hy : ys = ys') :
    Calls Tryz.prog 16 #[.agg #[.slice A xs.length c, .slice B ys.length k], .agg #[.slice A' xs'.length c', .slice B' ys'.length k']] w (Rb w (.bool true)) := by
  subst hx hy
  have hb0 := ((Below.refl w.heap.size w).alloc (Nat.le_refl _) (Obj.cells #[Value.slice A xs.length c, Value.slice B ys.length k] 26)).alloc (by simp) (Obj.cells #[Value.slice A' xs.length c', Value.slice B' ys.length k'] 26)
  have oa := obj_alloc (obj_new w (Obj.cells #[Value.slice A xs.length c, Value.slice B ys.length k] 26)) (Obj.cells #[Value.slice A' xs.length c', Value.slice B' ys.length k'] 26)
  have ob := obj_new (w.alloc (Obj.cells #[Value.slice A xs.length c, Value.slice B ys.length k] 26)) (Obj.cells #[Value.slice A' xs.length c', Value.slice B' ys.length k'] 26)
  simp only [World.size_alloc] at ob
  go_enter Tryz.func16, Tryz.ntmps16
  go_upto_region 1 with fail
  generalize ((w.alloc (Obj.cells #[Value.slice A xs.length c, Value.slice B ys.length k] 26)).alloc (Obj.cells #[Value.slice A' xs.length c', Value.slice B' ys.length k'] 26)) = w0 at hb0 oa ob ⊢
  have h := h.next hb0
  have h' := h'.next hb0
  have f0 : w0.cell? ⟨w.heap.size, 0, none⟩ = some (Value.slice A xs.length c) := (obj_cell oa).trans rfl
  have f1 : w0.cell? ⟨w.heap.size + 1, 0, none⟩ = some (Value.slice A' xs.length c') := (obj_cell ob).trans rfl
  have HC := Lib.hid (sameInts_eq A A' c c' _ _ xs xs w0 rfl rfl rfl h.1.len h.1.rd h'.1.rd)
  go_wp2_with fail
  (with_reducible refine HC.out.mono ?_)
  rintro e w1 ⟨rfl, hd⟩
  have hbd := below_dr (Below.refl w0.heap.size w0) hd
  have oa := obj_dr oa hd
  have ob := obj_dr ob hd
  have g0 : w1.cell? ⟨w.heap.size, 1, none⟩ = some (Value.slice B ys.length k) := (obj_cell oa).trans rfl
  have g1 : w1.cell? ⟨w.heap.size + 1, 1, none⟩ = some (Value.slice B' ys.length k') := (obj_cell ob).trans rfl
  have HC := Lib.hid (sameInts_eq B B' k k' _ _ ys ys w1 rfl rfl rfl h.2.len (h.2.next hbd).rd (h'.2.next hbd).rd)
  have hb1 := hb0.trans (hbd.mono hb0.size)
  clear f0 f1 hd
  go_wp2_with fail
  (with_reducible refine HC.out.mono ?_)
  rintro e w2 ⟨rfl, hd2⟩
  go_wp2_with fail
  go_ret
  exact ⟨rfl, hb1.trans ((below_dr (Below.refl w1.heap.size w1) hd2).mono hb1.size)⟩
/-- How often a pattern occurs; -1 where one is no permutation. -/
def cpG (p q : List Int) : Int := if permB p = true ∧ permB q = true then ((occL p q).length : Int) else -1
set_option maxHeartbeats 1000000 in
theorem countPattern_spec (A B : Option Addr) (c d : Nat) (p q : List Int) (w : World) (hp : In w A c p) (hq : In w B d q) :
    Calls Tryz.prog 22 #[.slice A p.length c, .slice B q.length d] w (Rb w (.int .i64 (cpG p q))) := by
  by_cases hP : permB p = true
  · by_cases hQ : permB q = true
    · have HG := Lib.hid (show cpG p q = ((occL p q).length : Int) by rw [cpG, if_pos ⟨hP, hQ⟩])
      have H1 := Lib.hid hP
      have H2 := Lib.hid hQ
      clear hP hQ
      go_enter Tryz.func22, Tryz.ntmps22
      go_wp2_with fail
      (with_reducible refine (isPerm_sb A c p w true hp H1.out).mono ?_)
      rintro e w1 ⟨rfl, hd1⟩
      go_wp2_with fail
      (with_reducible refine (isPerm_sb B d q w1 true (hq.dr hd1) H2.out).mono ?_)
      rintro e w2 ⟨rfl, hd2⟩
      have hd := hd1.trans hd2
      have HC := Lib.hid (occurrencesOf_spec A B c d p q w2 (hp.dr hd) (hq.dr hd) H1.out H2.out)
      go_wp2_with fail
      (with_reducible refine HC.out.mono ?_)
      rintro e w3 ⟨O, ok, rs, rfl, hX, _, hb⟩
      have HL := Lib.hid (show rs.length = (occL p q).length from map_len1 hX)
      have hbd := below_dr (Below.refl w.heap.size w) hd
      clear hX
      go_wp2_with fail
      go_ret
      exact ⟨ret_int (by rw [HG.out, HL.out]), hbd.trans (hb.mono hbd.size)⟩
    · have hQ : permB q = false := by simpa using hQ
      have HG := Lib.hid (show cpG p q = -1 by rw [cpG, if_neg (by simp [hQ])])
      have H1 := Lib.hid hP
      have H2 := Lib.hid hQ
      clear hP hQ
      go_enter Tryz.func22, Tryz.ntmps22
      go_wp2_with fail
      (with_reducible refine (isPerm_sb A c p w true hp H1.out).mono ?_)
      rintro e w1 ⟨rfl, hd1⟩
      go_wp2_with fail
      (with_reducible refine (isPerm_sb B d q w1 false (hq.dr hd1) H2.out).mono ?_)
      rintro e w2 ⟨rfl, hd2⟩
      go_wp2_with fail
      go_ret
      exact ⟨ret_int HG.out.symm, below_dr (Below.refl _ _) (hd1.trans hd2)⟩
  · have hP : permB p = false := by simpa using hP
    have HG := Lib.hid (show cpG p q = -1 by rw [cpG, if_neg (by simp [hP])])
    have H1 := Lib.hid hP
    clear hP
    go_enter Tryz.func22, Tryz.ntmps22
    go_wp2_with fail
    (with_reducible refine (isPerm_sb A c p w false hp H1.out).mono ?_)
    rintro e w1 ⟨rfl, hd1⟩
    go_wp2_with fail
    go_ret
    exact ⟨ret_int HG.out.symm, below_dr (Below.refl _ _) hd1⟩
end Go.Proofs.YtfcgohhmpgffjaaGreatDoor

/- A list from its end: slices.Reverse in place, reverse, l3Reverse; ascending and descending lists. -/
namespace Go.Proofs.YtfcgohhmpgffjaaGreatDoor
set_option maxRecDepth 100000
open Go Go.RowKit

/-- The cell of a list's row, the list's address known. -/
theorem Read.cellAt {w : World} {B b off c : Nat} {rs : List Row} (h : Read w B rs [⟨some ⟨b, off, none⟩, c, rs.map Row.v⟩]) (j : Nat) (hj : j < rs.length) : w.cell? ⟨b, off + j, none⟩ = some (Value.slice rs[j].A rs[j].xs.length rs[j].c) := by
  obtain ⟨b', off', he, _, hc⟩ := h.at (by omega)
  injection he with he
  injection he with he1 he2 _
  subst he1 he2
  exact hc j hj
/-- The first and the last i places are exchanged. -/
def revTo (xs : List Int) (i : Nat) : List Int := (List.range xs.length).map fun t => if t < i ∨ xs.length ≤ t + i then xs[xs.length - 1 - t]?.getD 0 else xs[t]?.getD 0
theorem revTo_length (xs : List Int) (i : Nat) : (revTo xs i).length = xs.length := by simp [revTo]
theorem revTo_get (xs : List Int) (i t : Nat) (h : t < xs.length) : (revTo xs i)[t]? = some (if t < i ∨ xs.length ≤ t + i then xs[xs.length - 1 - t]?.getD 0 else xs[t]?.getD 0) := by
  simp [revTo, h]
theorem revTo_zero (xs : List Int) : revTo xs 0 = xs := by
  apply List.ext_getElem?
  intro t
  by_cases h : t < xs.length
  · rw [revTo_get xs 0 t h, if_neg (by omega), List.getElem?_eq_getElem h]; rfl
  · rw [List.getElem?_eq_none (by rw [revTo_length]; omega), List.getElem?_eq_none (by omega)]
theorem revTo_all (xs : List Int) (i : Nat) (h : xs.length ≤ 2 * i + 1) : revTo xs i = xs.reverse := by
  apply List.ext_getElem?
  intro t
  by_cases ht : t < xs.length
  · rw [revTo_get xs i t ht, List.getElem?_reverse ht]
    by_cases hc : t < i ∨ xs.length ≤ t + i
    · rw [if_pos hc, List.getElem?_eq_getElem (by omega)]; rfl
    · rw [if_neg hc]
      have : xs.length - 1 - t = t := by omega
      rw [this, List.getElem?_eq_getElem ht]; rfl
  · rw [List.getElem?_eq_none (by rw [revTo_length]; omega), List.getElem?_eq_none (by rw [List.length_reverse]; omega)]
theorem revTo_succ (xs : List Int) (i : Nat) (h : 2 * i + 1 < xs.length) : ((revTo xs i).set i (xs[xs.length - 1 - i]?.getD 0)).set (xs.length - 1 - i) (xs[i]?.getD 0) = revTo xs (i + 1) := by
  apply List.ext_getElem?
  intro t
  by_cases ht : t < xs.length
  · rw [revTo_get xs (i + 1) t ht, List.getElem?_set, List.getElem?_set, List.length_set, revTo_length, revTo_get xs i t ht]
    by_cases h1 : xs.length - 1 - i = t
    · subst h1
      rw [if_pos rfl, if_pos (by omega), if_pos (by omega)]
      rw [show xs.length - 1 - (xs.length - 1 - i) = i by omega]
    · rw [if_neg h1]
      by_cases h2 : i = t
      · subst h2
        rw [if_pos rfl, if_pos (by omega), if_pos (by omega)]
      · rw [if_neg h2]
        by_cases h3 : t < i ∨ xs.length ≤ t + i
        · rw [if_pos h3, if_pos (by omega)]
        · rw [if_neg h3, if_neg (by omega)]
  · rw [List.getElem?_eq_none (by rw [List.length_set, List.length_set, revTo_length]; omega), List.getElem?_eq_none (by rw [revTo_length]; omega)]
theorem revTo_at (xs : List Int) (i t : Nat) (h : t < xs.length) (h1 : i ≤ t) (h2 : t + i < xs.length) : ((revTo xs i).map (Value.int .i64))[t]? = some (.int .i64 xs[t]) := by
  rw [List.getElem?_map, revTo_get xs i t h, if_neg (by omega), List.getElem?_eq_getElem h]; rfl

set_option maxHeartbeats 4000000 in
theorem reverse_own (A : Option Addr) (c base n : Nat) (xs : List Int) (w : World) (hn : xs.length = n) (hl : n ≤ 1048576) (h : w.ownsRow base 3 1 (.slice A n c) n (xs.map (Value.int .i64))) :
    Calls Tryz.prog 63 #[.slice A n c] w fun e w' => e = .returned (.tuple #[]) ∧ w'.ownsRow base 3 1 (.slice A n c) n (xs.reverse.map (Value.int .i64)) ∧ w.grownBy w' (Value.slice A n c).ownBlock := by
  have h0 : w.ownsRow base 3 1 (.slice A n c) n ((revTo xs 0).map (Value.int .i64)) := by rw [revTo_zero]; exact h
  have HN := Lib.hid hn
  have hn1 : xs.length ≤ n := by omega
  have hn2 : n ≤ xs.length := by omega
  clear hn
  go_enter Tryz.func63, Tryz.ntmps63
  go_wp2_with fail
  go_loopw [2, 3] (fun i j wr => ∃ k : Nat, 2 * k ≤ n + 1 ∧ i = .int .i64 k ∧ j = .int .i64 ((n : Int) - 1 - k) ∧ wr.ownsRow base 3 1 (.slice A n c) n ((revTo xs k).map (Value.int .i64)) ∧ w.grownBy wr (Value.slice A n c).ownBlock) (fun i _ _ => n - (intOf i).toNat)
  case atStart => exact ⟨0, by omega, rfl, by simp, h0, World.grownBy.refl _ _⟩
  case round =>
    clear h0 h
    obtain ⟨k, hk, rfl, rfl, hown, hg⟩ := hrel
    by_cases hlt : 2 * k + 1 < n
    · obtain ⟨g, cap, hv, _, _⟩ := hown.form (by omega)
      have hA : A = some ⟨g, 0, none⟩ := by injection hv
      subst hA
      clear hv
      have hki : k < xs.length := by omega
      obtain ⟨j, hj⟩ : ∃ j : Nat, (j : Int) = (n : Int) - 1 - k := ⟨n - 1 - k, by omega⟩
      have hjx : j < xs.length := by omega
      have hkj : k < j := by omega
      have c1 := (hown.cellAt k (by omega)).trans (revTo_at xs k k hki (Nat.le_refl _) (by omega))
      have c2 := (hown.cellAt j (by omega)).trans (revTo_at xs k j hjx (by omega) (by omega))
      have z1 := hown.frozenAt k
      have z2 := hown.frozenAt j
      have HJ := Lib.hid hj
      have hj1 : (k : Int) < (j : Int) := by omega
      have hj2 : (j : Int) < (n : Int) := by omega
      rw [← hj]
      clear hj
      have hst1 := hown.stored k (.int .i64 xs[j])
      have hst2 := hst1.1.stored j (.int .i64 xs[k])
      have hfin : (((wr.setCell ⟨g, k, none⟩ (.int .i64 xs[j])).setCell ⟨g, j, none⟩ (.int .i64 xs[k])).drew).ownsRow base 3 1 (.slice (some ⟨g, 0, none⟩) n c) n ((revTo xs (k + 1)).map (Value.int .i64)) := by
        have h1 := hst2.1
        rw [← revTo_succ xs k (by omega), List.map_set, List.map_set, List.getElem?_eq_getElem (show xs.length - 1 - k < xs.length by omega), List.getElem?_eq_getElem hki]
        have e : xs.length - 1 - k = j := by have := HJ.out; omega
        simp only [e, Option.getD_some]
        exact h1
      have hgf : w.grownBy (((wr.setCell ⟨g, k, none⟩ (.int .i64 xs[j])).setCell ⟨g, j, none⟩ (.int .i64 xs[k])).drew) (Value.slice (some ⟨g, 0, none⟩) n c).ownBlock := by
        have h1 := grown_trans hg (grown_trans hst1.2 hst2.2)
        exact ⟨h1.os, h1.tape, h1.output, h1.size, h1.block⟩
      have K := Lib.hid (And.intro hfin hgf)
      clear hst1 hst2 hfin hgf hown hg
      go_wp2_with fail
      go_region
      all_goals
        clear c1 c2 z1 z2
        go_wp2_with fail
        go_roundw
        case rel => exact ⟨k + 1, by omega, by go_num, by have := HJ.out; congr 1; push_cast; omega, K.out.1, K.out.2⟩
        case measure => simp [intOf]; omega
    · have hlt' : ¬ ((k : Int) < (n : Int) - 1 - k) := by omega
      have hle' : (n : Int) - 1 - k ≤ (k : Int) := by omega
      have HR := Lib.hid (show revTo xs k = xs.reverse from revTo_all xs k (by have := HN.out; omega))
      rw [HR.out] at hown
      go_wp2_with fail
      go_end0
      exact ⟨rfl, by first | exact hown | simpa using hown, hg⟩
set_option maxHeartbeats 800000 in
theorem reverse_impl (A : Option Addr) (c : Nat) (xs : List Int) (w : World) (h : In w A c xs) :
    Calls Tryz.prog 35 #[.slice A xs.length c] w (Ret (Value.int .i64) 3 w xs.reverse) := by
  have hl := h.len
  go_enter Tryz.func35, Tryz.ntmps35
  go_wp2_with fail
  (with_reducible refine (clone_any A c xs w h).mono ?_)
  rintro e w1 ⟨A1, c1, rfl, q1, q2, hown, hb1⟩
  go_wp2_with fail
  (with_reducible refine (reverse_own A1 c1 w.heap.size xs.length xs w1 rfl hl hown).mono ?_)
  rintro e w2 ⟨rfl, hown2, hg⟩
  go_wp2_with fail
  go_ret
  exact ⟨A1, c1, by rw [List.length_reverse]; rfl, by rw [List.length_reverse]; exact q1, q2, by rw [List.length_reverse]; exact hown2, hb1.grown hg hb1.size (fun g hg => (hown.lt g hg).1)⟩
theorem rev_take (xs : List Int) (k : Nat) (h : k < xs.length) : (xs.drop k).reverse = (xs.drop (k + 1)).reverse ++ [xs[k]] := by
  rw [List.drop_eq_getElem_cons h, List.reverse_cons]
set_option maxHeartbeats 1000000 in
theorem l3Reverse_any (A : Option Addr) (c n : Nat) (xs : List Int) (w : World) (hn : xs.length = n) (hl : n ≤ 1048576) (hx : Rd (Value.int .i64) w w.heap.size A xs) :
    Calls Tryz.prog 37 #[.slice A n c] w (Ret (Value.int .i64) 3 w xs.reverse) := by
  obtain ⟨i0, hi, hz0, hz1, hz2⟩ := info_parts infoI
  have HN := Lib.hid hn
  have hn1 : xs.length ≤ n := by omega
  have hn2 : n ≤ xs.length := by omega
  clear hn
  have hown0 : (w.alloc (.cells #[] 3)).ownsRow w.heap.size 3 1 (.slice (some ⟨w.heap.size, 0, none⟩) 0 0) 0 (((xs.drop n).reverse).map (Value.int .i64)) := by
    rw [List.drop_of_length_le hn1]
    exact World.ownsRow_lit w #[] 0 (Nat.le_refl _) (by unfold maxLen; omega) rfl
  have hb0 := (Below.refl w.heap.size w).alloc (Nat.le_refl _) (.cells #[] 3)
  go_enter Tryz.func37, Tryz.ntmps37
  go_wp2_with fail
  go_loopw [3, 4] (fun v i wr => ∃ (k m : Nat) (A1 : Option Addr) (c1 : Nat), k ≤ n ∧ m = n - k ∧ i = .int .i64 ((k : Int) - 1) ∧ v = .slice A1 m c1 ∧ wr.ownsRow w.heap.size 3 1 (.slice A1 m c1) m (((xs.drop k).reverse).map (Value.int .i64)) ∧ Below w.heap.size w wr) (fun _ i _ => (intOf i + 1).toNat)
  case atStart => exact ⟨n, 0, _, _, Nat.le_refl _, by omega, rfl, rfl, hown0, hb0⟩
  case round =>
    clear hown0 hb0
    obtain ⟨k, m, A1, c1, hk, hm, rfl, rfl, hown, hb⟩ := hrel
    have hmn : m ≤ n := by omega
    have HM := Lib.hid hm
    have hsz := hb.size
    clear hm
    rcases Nat.eq_zero_or_pos k with h0 | h0
    · subst h0
      have hneg : ¬ ((0 : Int) ≤ ((0 : Nat) : Int) - 1) := by omega
      have HE := Lib.hid (show m = xs.reverse.length by rw [List.length_reverse]; have := HM.out; omega)
      rw [List.drop_zero] at hown
      go_wp2_with fail
      go_ret
      exact ⟨A1, c1, by rw [← HE.out]; rfl, by rw [← HE.out]; exact (own_caps hown).1, (own_caps hown).2, by rw [← HE.out]; first | exact hown | simpa using hown, hb⟩
    · obtain ⟨j, hj⟩ : ∃ j : Nat, (j : Int) = (k : Int) - 1 := ⟨k - 1, by omega⟩
      have hjx : j < xs.length := by omega
      obtain ⟨b, off, rfl, _, hc⟩ := (hx.next hb) (by omega)
      have cc := hc j hjx
      have HT := Lib.hid (show (xs.drop j).reverse = (xs.drop k).reverse ++ [xs[j]] by rw [rev_take xs j hjx, show j + 1 = k by omega])
      have HJ := Lib.hid hj
      have hjn : j < n := by omega
      have hjk : j < k := by omega
      have HMJ := Lib.hid (show m + 1 = n - j by have := HM.out; omega)
      rw [← hj]
      clear hc hj
      go_wp2_with (at_builtin; refine wpList_append_own _ rfl _ _ 24 rfl (w.heap.size) 3 i0 (.int .i64 0) 1 8 Tryz.underlying24 hi hz0 hz1 hz2 rfl (by decide) _ _ _ rfl (World.ownsRow.alloc hown _) ⟨wr.heap.size, 0, none⟩ 1 1 [.int .i64 (xs[j])] rfl rfl (cell_one_new _ _ _) (by intro u hu; simp at hu; subst hu; rfl) (by unfold maxLen; omega) (by omega) (by simp; omega) ?_; intro v1 w1 hown1 hgrow1 _)
      have hS2 : w1.ownsRow w.heap.size 3 1 v1 (m + 1) (((xs.drop j).reverse).map (Value.int .i64)) := by rw [HT.out]; simpa using hown1
      have hb1 := (hb.alloc hsz (Obj.cells #[Value.int .i64 xs[j]] 3)).grown hgrow1 (by simp; omega) (by intro g hg; exact ((hown.lt g hg).1))
      obtain ⟨A2, c2, rfl, _, _⟩ := own_shape hS2
      have H1 := Lib.hid hS2
      have H2 := Lib.hid hb1
      clear hS2 hown1 hgrow1 hb1 hown hb
      go_wp2
      go_roundw
      case rel => exact ⟨j, m + 1, A2, c2, by omega, HMJ.out, by go_num, rfl, H1.out, H2.out⟩
      case measure => (simp [intOf]) <;> omega
theorem less_b (x y : Int) (w : World) (b : Bool) (hb : decide (x < y) = b) : Calls Tryz.prog 83 #[.int .i64 x, .int .i64 y] w fun e w' => e = .returned (.bool b) ∧ w = w' := by
  subst hb
  go_enter Tryz.func83, Tryz.ntmps83
  go_wp2_with fail
  (with_reducible refine (isNaN_any x w).mono ?_)
  rintro e w' ⟨rfl, rfl⟩
  go_wp2_with fail
  go_ret
  exact ⟨rfl, rfl⟩
/-- Ascending by neighbors. -/
def sortB (xs : List Int) : Bool := (List.range (xs.length - 1)).all fun i => decide (xs[i]?.getD 0 ≤ xs[i + 1]?.getD 0)
theorem nums_get (n i : Nat) (h : i < n) : (nums n)[i]? = some ((i : Int) + 1) := by simp [nums, h]
theorem sort_perm {xs : List Int} (h : permB xs = true) : sortB xs = decide (xs = nums xs.length) := by
  obtain ⟨_, hr, hn⟩ := permB_true h
  rw [Bool.eq_iff_iff, decide_eq_true_eq]
  constructor
  · intro hs
    have hlt : ∀ i (h1 : i + 1 < xs.length), xs[i] < xs[i + 1] := fun i h1 => by
      have h2 := List.all_eq_true.1 hs i (List.mem_range.2 (by omega))
      rw [List.getElem?_eq_getElem (show i < xs.length by omega), List.getElem?_eq_getElem h1] at h2
      have h3 : xs[i] ≤ xs[i + 1] := by simpa using h2
      rcases Int.lt_or_eq_of_le h3 with h4 | h4
      · exact h4
      · have := nodup_inj hn _ _ h4
        omega
    have hge : ∀ i (h1 : i < xs.length), (i : Int) + 1 ≤ xs[i] := by
      intro i
      induction i with
      | zero => intro h1; have := (hr xs[0] (List.getElem_mem h1)).1; omega
      | succ i ih => intro h1; have h2 := ih (by omega); have h3 := hlt i h1; push_cast; omega
    have hle : ∀ d i (h1 : i < xs.length), xs.length - 1 - i = d → xs[i] ≤ (i : Int) + 1 := by
      intro d
      induction d with
      | zero => intro i h1 hd; have := (hr xs[i] (List.getElem_mem h1)).2; omega
      | succ d ih => intro i h1 hd; have h2 := ih (i + 1) (by omega) (by omega); have h3 := hlt i (by omega); push_cast at h2; omega
    apply List.ext_getElem?
    intro i
    by_cases hi : i < xs.length
    · rw [nums_get _ _ hi, List.getElem?_eq_getElem hi]
      have h1 := hge i hi
      have h2 := hle _ i hi rfl
      congr 1
      omega
    · rw [List.getElem?_eq_none (by omega), List.getElem?_eq_none (by rw [nums_length]; omega)]
  · intro he
    unfold sortB
    rw [List.all_eq_true]
    intro i hi
    have hi := List.mem_range.1 hi
    have h1 : xs[i]? = some ((i : Int) + 1) := by rw [he]; exact nums_get _ _ (by omega)
    have h2 : xs[i + 1]? = some (((i + 1 : Nat) : Int) + 1) := by rw [he]; exact nums_get _ _ (by omega)
    rw [h1, h2]
    simp only [Option.getD_some, decide_eq_true_eq]
    push_cast
    omega
end Go.Proofs.YtfcgohhmpgffjaaGreatDoor

/- ReversePerm and InversePerm of the reference. -/
namespace Go.Proofs.YtfcgohhmpgffjaaGreatDoor
set_option maxRecDepth 100000
open Go Go.RowKit

def revG (p : List Int) : List Int := if permB p = true then p.reverse else []
theorem revG_length (p : List Int) : (revG p).length ≤ p.length := by unfold revG; split <;> simp
set_option maxHeartbeats 800000 in
theorem reversePerm_spec (A : Option Addr) (c : Nat) (p : List Int) (w : World) (h : In w A c p) :
    Calls Tryz.prog 23 #[.slice A p.length c] w (Ret (Value.int .i64) 3 w (revG p)) := by
  by_cases hp : permB p = true
  · have HP := Lib.hid hp
    have HR := Lib.hid (show revG p = p.reverse by rw [revG, if_pos hp])
    clear hp
    go_enter Tryz.func23, Tryz.ntmps23
    go_wp2_with fail
    (with_reducible refine (isPerm_sb A c p w true h HP.out).mono ?_)
    rintro e w1 ⟨rfl, hd⟩
    have hin := h.dr hd
    have HC := Lib.hid (l3Reverse_any A c p.length p w1 rfl h.len hin.rd)
    go_wp2_with fail
    (with_reducible refine HC.out.mono ?_)
    rintro e w2 ⟨A', c', rfl, h1, h2, ho, hb⟩
    go_wp2_with fail
    go_ret
    rw [HR.out]
    have hbd := below_dr (Below.refl w.heap.size w) hd
    exact ⟨A', c', by rw [List.length_reverse]; rfl, h1, h2, own_mono ho hbd.size, hbd.trans (hb.mono hbd.size)⟩
  · have hp : permB p = false := by simpa using hp
    have HP := Lib.hid hp
    have HR := Lib.hid (show revG p = [] by rw [revG, if_neg (by simp [hp])])
    clear hp
    go_enter Tryz.func23, Tryz.ntmps23
    go_wp2_with fail
    (with_reducible refine (isPerm_sb A c p w false h HP.out).mono ?_)
    rintro e w1 ⟨rfl, hd⟩
    have hbd := below_dr (Below.refl w.heap.size w) hd
    go_wp2_with fail
    go_ret
    rw [HR.out]
    exact ⟨_, 0, rfl, Nat.le_refl _, Nat.zero_le _, World.ownsRow_lit _ #[] 0 hbd.size (by unfold maxLen; omega) rfl, hbd.alloc hbd.size _⟩
end Go.Proofs.YtfcgohhmpgffjaaGreatDoor

/- IsSumClosed, program and reference. -/
namespace Go.Proofs.YtfcgohhmpgffjaaGreatDoor
set_option maxRecDepth 100000
open Go Go.RowKit

/-- The greatest of the first k. -/
def pmax (p : List Int) (k : Nat) : Int := (p.take k).foldl max 0
theorem pmax_succ (p : List Int) (k : Nat) (h : k < p.length) : pmax p (k + 1) = max (pmax p k) p[k] := by
  unfold pmax
  rw [List.take_succ_eq_append_getElem h, List.foldl_append]; rfl
theorem pmax_bd {p : List Int} (hb : ∀ v ∈ p, 1 ≤ v ∧ v ≤ 8) (k : Nat) : 0 ≤ pmax p k ∧ pmax p k ≤ 8 := by
  induction k with
  | zero => simp [pmax]
  | succ k ih =>
    by_cases h : k < p.length
    · rw [pmax_succ p k h]
      have := hb p[k] (List.getElem_mem h)
      omega
    · unfold pmax at ih ⊢
      rw [List.take_of_length_le (by omega)] at ih ⊢
      exact ih
/-- How many sum parts end within the first k. -/
def sumN (p : List Int) (k : Nat) : Nat := ((List.range k).filter fun i => decide (pmax p (i + 1) = (i : Int) + 1)).length
theorem sumN_succ (p : List Int) (k : Nat) : sumN p (k + 1) = if pmax p (k + 1) = (k : Int) + 1 then sumN p k + 1 else sumN p k := by
  unfold sumN
  rw [List.range_succ, List.filter_append]
  by_cases h : pmax p (k + 1) = (k : Int) + 1 <;> simp [h]
theorem sumN_le (p : List Int) (k : Nat) : sumN p k ≤ k := Nat.le_trans (List.length_filter_le _ _) (by simp)
def scG (X : List (List Int)) : Bool := basisB X && !X.any fun p => decide (1 < sumN p p.length)
/-- A call's result: a list of n rows, whatever they are. -/
def RetLen (w : World) (n : Nat) (e : Ending) (w' : World) : Prop := ∃ A c, e = .returned (.slice A n c) ∧ Below w.heap.size w w'


def sumG (p : List Int) : Nat := if permB p = true then sumN p p.length else 0

end Go.Proofs.YtfcgohhmpgffjaaGreatDoor

/- The draws of FnRuns: pairs of lists, numbers. -/
namespace Go.Proofs.YtfcgohhmpgffjaaGreatDoor
set_option maxRecDepth 100000
open Go Go.RowKit

/-- Two lists were drawn, both read. -/
def RetII (w : World) (ok : List Int → List Int → Prop) (en : Ending) (w' : World) : Prop :=
  ∃ D k xs E m ys, en = .returned (.tuple #[.slice D xs.length k, .slice E ys.length m]) ∧ ok xs ys ∧ In w' D k xs ∧ In w' E m ys ∧ Below w.heap.size w w'
theorem In.of_own {w : World} {base e c : Nat} {A : Option Addr} {xs : List Int} (h : w.ownsRow base e 1 (.slice A xs.length c) xs.length (xs.map (Value.int .i64))) (hl : xs.length ≤ 1048576) : In w A c xs := ⟨hl, (own_caps h).1, Rd.of_own h⟩
end Go.Proofs.YtfcgohhmpgffjaaGreatDoor

/- A mesh, or a pattern with joined places, that a draw builds in a box: what stands while it grows. Plain lemmas. -/
namespace Go.Proofs.YtfcgohhmpgffjaaGreatDoor
set_option maxRecDepth 100000
open Go Go.RowKit

/-- A block of another type is written. -/
theorem own_boxed {w : World} {base e n g i : Nat} {v u : Value} {xs : List Value} {cs : Array Value} {t : TypeId} (h : w.ownsRow base e 1 v n xs) (ho : w.heap[g]? = some (Obj.cells cs t (0, 0))) (hne : t ≠ e) : (w.setCell ⟨g, i, none⟩ u).ownsRow base e 1 v n xs := by
  refine own_span h (Span.set (p := ⟨g, i, none⟩) (Nat.le_refl g) (Nat.lt_succ_self g) u) fun q hq => ?_
  rcases h.2 with ⟨e1, _⟩ | ⟨g1, c1, cur1, e1', _, hh1, _⟩
  · rw [e1] at hq; cases hq
  · rw [e1'] at hq
    injection hq with hq
    have hq : g1 = q := hq
    subst hq
    by_cases hgq : g1 = g
    · subst hgq
      rw [ho] at hh1
      injection hh1 with hh1
      injection hh1 with _ ht _
      exact absurd ht hne
    · omega
theorem Own.boxed {w : World} {lo hi g i : Nat} {u : Value} {cs : Array Value} {t : TypeId} {rs : List Row} {os : List Outer} (h : Own w lo hi rs os) (ho : w.heap[g]? = some (Obj.cells cs t (0, 0))) (h1 : t ≠ 3) (h2 : t ≠ 24) : Own (w.setCell ⟨g, i, none⟩ u) lo hi rs os :=
  ⟨fun r hr => own_boxed (h.rows r hr) ho h1, h.lt, h.apart, fun o hq => own_boxed (h.outs o hq) ho h2, h.olt⟩
theorem own_noblock {w : World} {base e n g : Nat} {v : Value} {xs : List Value} {cs : Array Value} {t : TypeId} (h : w.ownsRow base e 1 v n xs) (ho : w.heap[g]? = some (Obj.cells cs t (0, 0))) (hne : t ≠ e) : some g ≠ v.ownBlock := by
  intro e'
  rcases h.2 with ⟨e1, _⟩ | ⟨g1, c1, cur1, e1, _, hh1, _⟩
  · rw [e1] at e'; cases e'
  · rw [e1] at e'
    injection e' with e'
    have e' : g = g1 := e'
    subst e'
    rw [ho] at hh1
    injection hh1 with hh1
    injection hh1 with _ ht _
    exact hne ht
theorem own_lit1 {w : World} {lo bl : Nat} {x : Int} (h : w.heap[bl]? = some (Obj.cells #[.int .i64 x] 3 (0, 0))) (hl : lo ≤ bl) : w.ownsRow lo 3 1 (.slice (some ⟨bl, 0, none⟩) [x].length 1) [x].length ([x].map (Value.int .i64)) :=
  ⟨rfl, .inr ⟨bl, 1, #[.int .i64 x], rfl, hl, h, Nat.le_refl _, by unfold maxLen; omega, rfl, rfl⟩⟩
theorem own_lit2 {w : World} {lo bl : Nat} {x y : Int} (h : w.heap[bl]? = some (Obj.cells #[.int .i64 x, .int .i64 y] 3 (0, 0))) (hl : lo ≤ bl) : w.ownsRow lo 3 1 (.slice (some ⟨bl, 0, none⟩) [x, y].length 2) [x, y].length ([x, y].map (Value.int .i64)) :=
  ⟨rfl, .inr ⟨bl, 2, #[.int .i64 x, .int .i64 y], rfl, hl, h, Nat.le_refl _, by unfold maxLen; omega, rfl, rfl⟩⟩
theorem sizeR_le2 {rs : List Row} (h : ∀ r ∈ rs, r.xs.length ≤ 2) : sizeR rs ≤ 2 * rs.length := by
  induction rs with
  | nil => exact Nat.le_refl _
  | cons r t ih =>
    have h1 := ih fun s hs => h s (List.mem_cons_of_mem _ hs)
    have h2 := h r List.mem_cons_self
    simp only [sizeR, List.map_cons, List.sum_cons, List.length_cons] at h1 ⊢
    omega
end Go.Proofs.YtfcgohhmpgffjaaGreatDoor

/- l8Draw: a pattern with joined places that is drawn. Written by gen/gend8.py. -/
namespace Go.Proofs.YtfcgohhmpgffjaaGreatDoor
set_option maxRecDepth 100000
open Go Go.RowKit

/-- The pattern in block G; the result's box in block b2. -/
structure NearSt (w0 wz : World) (q G b2 : Nat) (A : Option Addr) (c : Nat) (bs : List Int) (P : Option Addr) (pk : Nat) (p : List Int) (J : Option Addr) (k : Nat) (ys : List Int) : Prop where
  og : wz.heap[G]? = some (Obj.cells #[Value.slice P p.length pk, Value.slice J ys.length k] 26)
  ob : wz.heap[b2]? = some (Obj.cells #[Value.slice none 0 0, Value.slice none 0 0] 26)
  ownJ : wz.ownsRow (G + 1) 3 1 (.slice J ys.length k) ys.length (ys.map (Value.int .i64))
  ownP : wz.ownsRow w0.heap.size 3 1 (.slice P p.length pk) p.length (p.map (Value.int .i64))
  hPl : ∀ g, (Value.slice P p.length pk).ownBlock = some g → g < G
  dr : Drawn w0 wz q A c bs
  hq : q < w0.heap.size
  hG : w0.heap.size ≤ G
  hb : w0.heap.size ≤ b2
  hne : G ≠ b2
section
variable {w0 wz wy : World} {q G b2 : Nat} {A : Option Addr} {c : Nat} {bs : List Int} {P : Option Addr} {pk : Nat} {p : List Int} {J : Option Addr} {k : Nat} {ys : List Int}
theorem NearSt.below (h : NearSt w0 wz q G b2 A c bs P pk p J k ys) (hb : Below wz.heap.size wz wy) : NearSt w0 wy q G b2 A c bs P pk p J k ys :=
  ⟨obj_below h.og hb (obj_lt h.og), obj_below h.ob hb (obj_lt h.ob), own_below h.ownJ hb, own_below h.ownP hb, h.hPl, h.dr.next (hb.mono h.dr.span.size) h.hq, h.hq, h.hG, h.hb, h.hne⟩
theorem NearSt.alloc (h : NearSt w0 wz q G b2 A c bs P pk p J k ys) (o : Obj) : NearSt w0 (wz.alloc o) q G b2 A c bs P pk p J k ys := h.below ((Below.refl _ _).alloc (Nat.le_refl _) o)
theorem NearSt.moved (h : NearSt w0 wz q G b2 A c bs P pk p J k ys) (hd : Dr wz wy) : NearSt w0 wy q G b2 A c bs P pk p J k ys := h.below (below_dr (Below.refl _ _) hd)
theorem NearSt.drawn (h : NearSt w0 wz q G b2 A c bs P pk p J k ys) (ka : Drawn wz wy q A c bs) : NearSt w0 wy q G b2 A c bs P pk p J k ys :=
  ⟨(ka.span.block G (obj_lt h.og) (.inr (by have := h.hG; have := h.hq; omega))).trans h.og, (ka.span.block b2 (obj_lt h.ob) (.inr (by have := h.hb; have := h.hq; omega))).trans h.ob,
    own_drawn h.ownJ ka (by have := h.hG; have := h.hq; omega), own_drawn h.ownP ka h.hq, h.hPl, h.dr.trans ka, h.hq, h.hG, h.hb, h.hne⟩
theorem NearSt.cells (h : NearSt w0 wz q G b2 A c bs P pk p J k ys) : wz.cell? ⟨G, 0, none⟩ = some (Value.slice P p.length pk) ∧ wz.cell? ⟨G, 1, none⟩ = some (Value.slice J ys.length k) := ⟨(obj_cell h.og).trans rfl, (obj_cell h.og).trans rfl⟩
/-- A number is put at the end. -/
theorem NearSt.push {w9 : World} {x : Int} {lit : Obj} {v9 : Value} {n : Nat} (h : NearSt w0 wz q G b2 A c bs P pk p J k ys) (hn : ys.length = n)
    (h9 : w9.ownsRow (G + 1) 3 1 v9 (n + 1) (ys.map (Value.int .i64) ++ [.int .i64 x])) (hg : (wz.alloc lit).grownBy w9 (Value.slice J n k).ownBlock) :
    ∃ A2 c2, v9 = .slice A2 (n + 1) c2 ∧ w9.cell? ⟨G, 1, none⟩ = some (.slice J n k) ∧ w9.frozen? ⟨G, 1, none⟩ = false ∧
      Hid (NearSt w0 (w9.setCell ⟨G, 1, none⟩ (.slice A2 (n + 1) c2)) q G b2 A c bs P pk p A2 c2 (ys ++ [x])) := by
  subst hn
  obtain ⟨A2, c2, rfl, _, _⟩ := own_shape h9
  have hA := h.alloc lit
  have hlt := hA.ownJ.lt
  have og := (hg.block G (obj_lt hA.og) (fun e => by have := (hlt G e.symm).1; omega)).trans hA.og
  have ob := (hg.block b2 (obj_lt hA.ob) (own_noblock hA.ownJ hA.ob (by decide))).trans hA.ob
  have hP := hA.ownP.kept hg (own_off (lim := G) h.hPl fun g hg => by have := (hlt g hg).1; omega)
  have hb9 : Below w0.heap.size (wz.alloc lit) w9 := (Below.refl _ _).grown hg hA.dr.span.size fun g hg => by have := (hlt g hg).1; have := h.hG; omega
  have hd9 := (hA.dr.next hb9 h.hq).next ((Below.refl w0.heap.size w9).setCell (p := ⟨G, 1, none⟩) h.hG (.slice A2 (ys.length + 1) c2)) h.hq
  refine ⟨A2, c2, rfl, (obj_cell og).trans rfl, obj_frozen og, Lib.hid ⟨?_, obj_other ob h.hne _, ?_, own_boxed hP og (by decide), h.hPl, hd9, h.hq, h.hG, h.hb, h.hne⟩⟩
  · have := obj_set (i := 1) og (Value.slice A2 (ys.length + 1) c2)
    simpa using this
  · have := own_boxed (g := G) (i := 1) (u := Value.slice A2 (ys.length + 1) c2) h9 og (by decide)
    simpa using this
/-- The result is laid into its box. -/
theorem NearSt.fin (h : NearSt w0 wz q G b2 A c bs P pk p J k ys) :
    ((wz.setCell ⟨b2, 0, none⟩ (.slice P p.length pk)).setCell ⟨b2, 1, none⟩ (.slice J ys.length k)).ownsRow w0.heap.size 3 1 (.slice P p.length pk) p.length (p.map (Value.int .i64)) ∧
    ((wz.setCell ⟨b2, 0, none⟩ (.slice P p.length pk)).setCell ⟨b2, 1, none⟩ (.slice J ys.length k)).ownsRow w0.heap.size 3 1 (.slice J ys.length k) ys.length (ys.map (Value.int .i64)) ∧
    Drawn w0 ((wz.setCell ⟨b2, 0, none⟩ (.slice P p.length pk)).setCell ⟨b2, 1, none⟩ (.slice J ys.length k)) q A c bs ∧
    ((wz.setCell ⟨b2, 0, none⟩ (.slice P p.length pk)).setCell ⟨b2, 1, none⟩ (.slice J ys.length k)).heap[b2]? = some (Obj.cells #[Value.slice P p.length pk, Value.slice J ys.length k] 26) := by
  have o1 := obj_set (i := 0) h.ob (Value.slice P p.length pk)
  have o2 := obj_set (i := 1) o1 (Value.slice J ys.length k)
  have hP := own_boxed (i := 1) (u := Value.slice J ys.length k) (own_boxed (i := 0) (u := Value.slice P p.length pk) h.ownP h.ob (by decide)) o1 (by decide)
  have hJ := own_boxed (i := 1) (u := Value.slice J ys.length k) (own_boxed (i := 0) (u := Value.slice P p.length pk) h.ownJ h.ob (by decide)) o1 (by decide)
  refine ⟨hP, own_mono hJ (by have := h.hG; omega), h.dr.next (((Below.refl w0.heap.size wz).setCell (p := ⟨b2, 0, none⟩) h.hb _).setCell (p := ⟨b2, 1, none⟩) h.hb _) h.hq, ?_⟩
  simpa using o2
end
/-- A pattern with joined places was drawn. -/
def RetDN (w : World) (q : Nat) (A : Option Addr) (c : Nat) (bs : List Int) (en : Ending) (w' : World) : Prop :=
  ∃ (P : Option Addr) (pk : Nat) (p : List Int) (J : Option Addr) (k : Nat) (ys : List Int), en = .returned (.agg #[.slice P p.length pk, .slice J ys.length k]) ∧ p.length ≤ 4 ∧ ys.length ≤ 4 ∧ p.Perm (upToL p.length) ∧
    w'.ownsRow w.heap.size 3 1 (.slice P p.length pk) p.length (p.map (Value.int .i64)) ∧ w'.ownsRow w.heap.size 3 1 (.slice J ys.length k) ys.length (ys.map (Value.int .i64)) ∧ Drawn w w' q A c bs
set_option maxHeartbeats 8000000 in
theorem l8Draw_any (w : World) (q : Nat) (A : Option Addr) (c : Nat) (bs : List Int) (hc : Cur w q A c bs) :
    Calls Tryz.prog 26 #[.pointer (some ⟨q, 0, none⟩)] w (RetDN w q A c bs) := by
  obtain ⟨i0, hi, hz0, hz1, hz2⟩ := info_parts infoI
  have hq := hc.lt
  have ob := obj_alloc (obj_new w (Obj.cells #[Value.slice none 0 0, Value.slice none 0 0] 26)) (Obj.cells #[Value.int .i64 0, Value.int .i64 1, Value.int .i64 2, Value.int .i64 3, Value.int .i64 3, Value.int .i64 4] 3)
  have hbA : Below w.heap.size w ((w.alloc (Obj.cells #[Value.slice none 0 0, Value.slice none 0 0] 26)).alloc (Obj.cells #[Value.int .i64 0, Value.int .i64 1, Value.int .i64 2, Value.int .i64 3, Value.int .i64 3, Value.int .i64 4] 3)) := ((Below.refl _ _).alloc (Nat.le_refl _) _).alloc (by simp) _
  have kA := (Drawn.refl hc).next hbA hq
  have HP := Lib.hid (l1PickInt_any _ q A c bs (w.heap.size + 1) 6 6 [0, 1, 2, 3, 3, 4] rfl (by decide) (by decide) (by omega) (by simp) (fun j hj => (obj_cell (by have := obj_new (w.alloc (Obj.cells #[Value.slice none 0 0, Value.slice none 0 0] 26)) (Obj.cells #[Value.int .i64 0, Value.int .i64 1, Value.int .i64 2, Value.int .i64 3, Value.int .i64 3, Value.int .i64 4] 3); simpa using this)).trans (by
    have hj : j < 6 := hj
    rcases j with _ | _ | _ | _ | _ | _ | j
    all_goals first | rfl | omega)) kA.cur)
  go_enter Tryz.func26, Tryz.ntmps26
  go_wp2_with fail
  (with_reducible refine HP.out.mono ?_)
  rintro e w1 ⟨x, rfl, hx, k1⟩
  have hx8 : 0 ≤ x ∧ x ≤ 4 := by simp at hx; omega
  obtain ⟨n, rfl⟩ := Int.eq_ofNat_of_zero_le hx8.1
  have ob := (k1.span.block w.heap.size (obj_lt ob) (.inr (by omega))).trans ob
  have k1 := kA.trans k1
  have HD := Lib.hid (l2Draw_any w1 q A c bs n (by omega) k1.cur)
  clear HP hx
  go_wp2_with fail
  (with_reducible refine HD.out.mono ?_)
  rintro e w2 ⟨P, pk, p, rfl, hp, ho, k2⟩
  have hpn : p.length = n := by rw [hp.length_eq, upToL_length]
  have HPP := Lib.hid (show p.Perm (upToL p.length) by rw [hpn]; exact hp)
  have hp4 : p.length ≤ 4 := by omega
  have ob := (k2.span.block w.heap.size (obj_lt ob) (.inr (by omega))).trans ob
  have hsz := k1.span.size
  have k2 := k1.trans k2
  have hsz2 := k2.span.size
  have hlt2 : w.heap.size < w2.heap.size := obj_lt ob
  have hoL : ∀ g, (Value.slice P p.length pk).ownBlock = some g → g < w2.heap.size := fun g hg => (ho.lt g hg).2
  have ho := (own_mono ho hsz).alloc (Obj.cells #[Value.slice P p.length pk, Value.slice none 0 0] 26)
  obtain ⟨G, hG⟩ : ∃ G, G = w2.heap.size := ⟨_, rfl⟩
  have M0 : NearSt w (w2.alloc (Obj.cells #[Value.slice P p.length pk, Value.slice none 0 0] 26)) q G w.heap.size A c bs P pk p none 0 [] :=
    ⟨by rw [hG]; exact obj_new w2 _, obj_alloc ob _, ⟨rfl, .inl ⟨rfl, rfl⟩⟩, ho, by rw [hG]; exact hoL, k2.next ((Below.refl w.heap.size w2).alloc hsz2 _) hq, hq, by omega, Nat.le_refl _, by omega⟩
  have HGG := Lib.hid hG
  clear HD hp ob ho k1 k2 hbA kA hG hpn hoL
  go_wp2_with fail
  rw [← HGG.out]
  go_loopw [4] (fun ix wr => ∃ (i : Nat) (J : Option Addr) (k : Nat) (ys : List Int), 1 ≤ i ∧ (i ≤ p.length ∨ i = 1) ∧ ix = .int .i64 i ∧ NearSt w wr q G w.heap.size A c bs P pk p J k ys ∧ ys.length + 1 ≤ i) (fun ix _ => p.length + 1 - (intOf ix).toNat)
  case atStart => exact ⟨1, none, 0, [], Nat.le_refl _, .inr rfl, rfl, M0, Nat.le_refl _⟩
  case round =>
    clear M0
    obtain ⟨i, J, k, ys, hi1, hi2, rfl, M, hyl⟩ := hrel
    have HI2 := Lib.hid hi2
    have f0 := M.cells.1
    clear hi2
    rcases Nat.lt_or_ge i p.length with hlt | hge
    · have l1 : (i : Int) < (p.length : Int) := by omega
      have HO := Lib.hid (l1Once_any wr q A c bs 2 (by omega) M.dr.cur)
      go_wp2_with fail
      (with_reducible refine HO.out.mono ?_)
      rintro e wa ⟨b, rfl, ka⟩
      have M := M.drawn ka
      clear ka HO f0
      rcases b with _ | _
      · go_wp2_with fail
        go_roundw
        case rel => exact ⟨i + 1, J, k, ys, by omega, .inl (by omega), by go_num, M, by omega⟩
        case measure => simp [intOf]; omega
      · have f1 := M.cells.2
        have hO1 := M.ownJ
        have hw0 := obj_lt M.og
        have HM := Lib.hid M
        clear M
        go_wp2_with ((at_builtin; refine wpList_append_own _ rfl _ _ 24 rfl (G + 1) 3 i0 (.int .i64 0) 1 8 Tryz.underlying24 hi hz0 hz1 hz2 rfl (by decide) _ _ _ rfl (World.ownsRow.alloc hO1 _) ⟨wa.heap.size, 0, none⟩ 1 1 [.int .i64 ((i : Int))] rfl rfl (cell_one_new _ _ _) (by intro u hu; simp at hu; subst hu; rfl) (by unfold maxLen; omega) (by omega) (by simp; omega) ?_; intro v1 w1 hown1 hgrow1 _)
                     obtain ⟨A2, c2, rfl, f7, u7, K⟩ := NearSt.push (x := (i : Int)) HM.out rfl hown1 hgrow1)
        go_roundw
        case rel => exact ⟨i + 1, A2, c2, ys ++ [(i : Int)], by omega, .inl (by omega), by go_num, by simpa using K.out, by simp; omega⟩
        case measure => simp [intOf]; omega
    · have l1 : ¬ (i : Int) < (p.length : Int) := by omega
      have hyl4 : ys.length ≤ 3 := by rcases HI2.out with h | h <;> omega
      have HO := Lib.hid (l1Once_any wr q A c bs 14 (by omega) M.dr.cur)
      clear HI2 hyl
      go_wp2_with fail
      (with_reducible refine HO.out.mono ?_)
      rintro e wa ⟨b, rfl, ka⟩
      have M := M.drawn ka
      clear ka HO f0
      rcases b with _ | _
      · have HFN := Lib.hid M.fin
        have g0 := M.cells.1
        have g1 := M.cells.2
        have t0 := (obj_cell (i := 0) M.ob).trans rfl
        have t1 := (obj_cell (i := 1) M.ob).trans rfl
        have u0 := obj_frozen (i := 0) M.ob
        have u1 := obj_frozen (i := 1) M.ob
        have l0 := (obj_cell (i := 0) HFN.out.2.2.2).trans rfl
        have l2 := (obj_cell (i := 1) HFN.out.2.2.2).trans rfl
        go_wp2_with fail
        refine bodyPost_ret (v := .agg #[.slice P p.length pk, .slice J ys.length k]) (by simp [results, Tryz.results26, go_sem, l0, l2]) rfl ?_
        exact ⟨P, pk, p, J, k, ys, rfl, hp4, by omega, HPP.out, HFN.out.1, HFN.out.2.1, HFN.out.2.2.1⟩
      · have M := M.moved (Dr.refl wa).drew
        have f1 := M.cells.2
        have M0 := M
        clear M
        go_wp2_with fail
        refine wp_region_held_drew (S := (fun _ => True)) (by kernel_rfl) trivial (fun hHeld => ?_)
        refine wpAnyH_take (i := 0) (oi := _) (v := ?_) rfl (by kernel_rfl) (by kernel_rfl) (by kernel_rfl) (fun _ _ _ h => h) (Or.inl ⟨by rfl, ?_⟩) (by assumption) ?_
        rotate_left
        · intro w hSw
          try dsimp only at hSw
          go_simp
          all_goals with_reducible rfl
        try simp only [Act.put, List.setIfInBounds_toArray, List.set_cons_zero, List.set_cons_succ, List.getElem_toArray, List.getElem_cons_succ, List.getElem_cons_zero]
        refine wpAnyH_take (i := 2) (oi := _) (v := ?_) rfl (by kernel_rfl) (by kernel_rfl) (by kernel_rfl) (fun _ _ _ h => h) (Or.inl ⟨by rfl, ?_⟩) (by assumption) ?_
        rotate_left
        · intro w hSw
          try dsimp only at hSw
          go_simp
          all_goals with_reducible rfl
        try simp only [Act.put, List.setIfInBounds_toArray, List.set_cons_zero, List.set_cons_succ, List.getElem_toArray, List.getElem_cons_succ, List.getElem_cons_zero]
        refine wpAnyH_ready (rs := [1, 3]) (by kernel_rfl) (by simp) ?_
        refine AllReadyH.cons (o := _) rfl (fun K hK => ?_) (AllReadyH.cons (o := _) rfl (fun K hK => ?_) AllReadyH.nil)
        · go_simp
          refine hK.out _ _ (trivial) (fun hHeld => ?_)
          clear hK K
          try simp only [Act.put, List.setIfInBounds_toArray, List.set_cons_zero, List.set_cons_succ, List.getElem_toArray, List.getElem_cons_succ, List.getElem_cons_zero]
          refine wpAnyH_ready (rs := [3]) (by kernel_rfl) (by simp) ?_
          refine AllReadyH.cons (o := _) rfl (fun K hK => ?_) AllReadyH.nil
          go_simp
          refine Calls.mono (l1Below_any _ q A c bs 5 (by omega) M0.dr.cur) ?_
          rintro e w5 ⟨x1, rfl, hx1, ka⟩
          have M5 := M0.drawn ka
          have f1 := M5.cells.2
          clear ka hx1
          go_wp2_with fail
          refine hK.out _ _ (trivial) (fun hHeld => ?_)
          clear hK K
          try simp only [Act.put, List.setIfInBounds_toArray, List.set_cons_zero, List.set_cons_succ, List.getElem_toArray, List.getElem_cons_succ, List.getElem_cons_zero]
          refine wpAnyH_ready (rs := [4]) (by kernel_rfl) (by simp) ?_
          refine AllReadyH.cons (o := _) rfl (fun K hK => ?_) AllReadyH.nil
          have f1 := (M5.alloc (Obj.cells #[Value.int .i64 x1] 3)).cells.2
          go_simp
          refine hK.out _ _ (trivial) (fun hHeld => ?_)
          clear hK K
          try simp only [Act.put, List.setIfInBounds_toArray, List.set_cons_zero, List.set_cons_succ, List.getElem_toArray, List.getElem_cons_succ, List.getElem_cons_zero]
          refine wpAnyH_ready (rs := [5]) (by kernel_rfl) (by simp) ?_
          refine AllReadyH.cons (o := _) rfl (fun K hK => ?_) AllReadyH.nil
          refine step_append_lies _ (by rfl) _ _ _ (by rfl) (G + 1) 3 i0 (.int .i64 0) 1 8 Tryz.underlying24 hi hz0 hz1 hz2 rfl (by decide) (Value.slice J ys.length k) ys.length _ (by rfl) (M5.alloc (Obj.cells #[Value.int .i64 x1] 3)).ownJ ⟨w5.heap.size, 0, none⟩ 1 1 [.int .i64 x1] (by rfl) (by rfl) (cell_one_new _ _ _) (by intro u hu; simp at hu; subst hu; rfl) (by omega) (by unfold maxLen; omega) (by omega) (by have := obj_lt M5.og; simp; omega) (w5.heap.size + 1) (by simp) ?_
          intro g cap w9 hown9 hgrow9 hlies9 hglt9
          obtain ⟨A2, c2, hA2, f7, u7, KM⟩ := NearSt.push (x := x1) (lit := Obj.cells #[Value.int .i64 x1] 3) M5 rfl hown9 hgrow9
          injection hA2 with hA2 _ hc2
          subst hA2 hc2
          refine hK.out _ _ (trivial) (fun hHeld => ?_)
          clear hK K
          try simp only [Act.put, List.setIfInBounds_toArray, List.set_cons_zero, List.set_cons_succ, List.getElem_toArray, List.getElem_cons_succ, List.getElem_cons_zero]
          refine wpAnyH_take (i := 6) (oi := _) (v := ?_) rfl (by kernel_rfl) (by kernel_rfl) (by kernel_rfl) (fun _ _ _ h => h) (Or.inl ⟨by rfl, ?_⟩) (by assumption) ?_
          rotate_left
          · intro w hSw
            try dsimp only at hSw
            go_simp
            all_goals with_reducible rfl
          try simp only [Act.put, List.setIfInBounds_toArray, List.set_cons_zero, List.set_cons_succ, List.getElem_toArray, List.getElem_cons_succ, List.getElem_cons_zero]
          refine wpAnyH_ready (rs := [7]) (by kernel_rfl) (by simp) ?_
          refine AllReadyH.cons (o := _) rfl (fun K hK => ?_) AllReadyH.nil
          go_simp
          refine hK.out _ _ (trivial) (fun hHeld => ?_)
          clear hK K
          try simp only [Act.put, List.setIfInBounds_toArray, List.set_cons_zero, List.set_cons_succ, List.getElem_toArray, List.getElem_cons_succ, List.getElem_cons_zero]
          refine wpAnyH_done (by kernel_rfl) ?_ _
          have HL := Lib.hid (show (ys ++ [x1]).length = ys.length + 1 by simp)
          have KM2 : NearSt w (w9.setCell ⟨G, 1, none⟩ (.slice (some ⟨g, 0, none⟩) (ys.length + 1) cap)) q G w.heap.size A c bs P pk p (some ⟨g, 0, none⟩) cap (ys ++ [x1]) := KM.out
          clear f7 u7 KM M5 f1 hown9 hgrow9 M0
          generalize w9.setCell ⟨G, 1, none⟩ (.slice (some ⟨g, 0, none⟩) (ys.length + 1) cap) = wq at KM2 ⊢
          have HFN := Lib.hid KM2.fin
          rw [HL.out] at HFN
          have g0 := KM2.cells.1
          have g1 := KM2.cells.2
          rw [HL.out] at g1
          have t0 := (obj_cell (i := 0) KM2.ob).trans rfl
          have t1 := (obj_cell (i := 1) KM2.ob).trans rfl
          have u0 := obj_frozen (i := 0) KM2.ob
          have u1 := obj_frozen (i := 1) KM2.ob
          have l0 := (obj_cell (i := 0) HFN.out.2.2.2).trans rfl
          have l2 := (obj_cell (i := 1) HFN.out.2.2.2).trans rfl
          go_wp2_with fail
          refine bodyPost_ret (v := .agg #[.slice P p.length pk, .slice (some ⟨g, 0, none⟩) (ys.length + 1) cap]) (by simp [results, Tryz.results26, go_sem, l0, l2]) rfl ?_
          exact ⟨P, pk, p, (some ⟨g, 0, none⟩), cap, (ys ++ [x1]), (by rw [HL.out]), hp4, by rw [HL.out]; omega, HPP.out, HFN.out.1, (by rw [HL.out]; exact HFN.out.2.1), HFN.out.2.2.1⟩
        · go_simp
          refine Calls.mono (l1Below_any _ q A c bs 5 (by omega) M0.dr.cur) ?_
          rintro e w5 ⟨x1, rfl, hx1, ka⟩
          have M5 := M0.drawn ka
          have f1 := M5.cells.2
          clear ka hx1
          go_wp2_with fail
          refine hK.out _ _ (trivial) (fun hHeld => ?_)
          clear hK K
          try simp only [Act.put, List.setIfInBounds_toArray, List.set_cons_zero, List.set_cons_succ, List.getElem_toArray, List.getElem_cons_succ, List.getElem_cons_zero]
          refine wpAnyH_ready (rs := [1, 4]) (by kernel_rfl) (by simp) ?_
          refine AllReadyH.cons (o := _) rfl (fun K hK => ?_) (AllReadyH.cons (o := _) rfl (fun K hK => ?_) AllReadyH.nil)
          · go_simp
            refine hK.out _ _ (trivial) (fun hHeld => ?_)
            clear hK K
            try simp only [Act.put, List.setIfInBounds_toArray, List.set_cons_zero, List.set_cons_succ, List.getElem_toArray, List.getElem_cons_succ, List.getElem_cons_zero]
            refine wpAnyH_ready (rs := [4]) (by kernel_rfl) (by simp) ?_
            refine AllReadyH.cons (o := _) rfl (fun K hK => ?_) AllReadyH.nil
            have f1 := (M5.alloc (Obj.cells #[Value.int .i64 x1] 3)).cells.2
            go_simp
            refine hK.out _ _ (trivial) (fun hHeld => ?_)
            clear hK K
            try simp only [Act.put, List.setIfInBounds_toArray, List.set_cons_zero, List.set_cons_succ, List.getElem_toArray, List.getElem_cons_succ, List.getElem_cons_zero]
            refine wpAnyH_ready (rs := [5]) (by kernel_rfl) (by simp) ?_
            refine AllReadyH.cons (o := _) rfl (fun K hK => ?_) AllReadyH.nil
            refine step_append_lies _ (by rfl) _ _ _ (by rfl) (G + 1) 3 i0 (.int .i64 0) 1 8 Tryz.underlying24 hi hz0 hz1 hz2 rfl (by decide) (Value.slice J ys.length k) ys.length _ (by rfl) (M5.alloc (Obj.cells #[Value.int .i64 x1] 3)).ownJ ⟨w5.heap.size, 0, none⟩ 1 1 [.int .i64 x1] (by rfl) (by rfl) (cell_one_new _ _ _) (by intro u hu; simp at hu; subst hu; rfl) (by omega) (by unfold maxLen; omega) (by omega) (by have := obj_lt M5.og; simp; omega) (w5.heap.size + 1) (by simp) ?_
            intro g cap w9 hown9 hgrow9 hlies9 hglt9
            obtain ⟨A2, c2, hA2, f7, u7, KM⟩ := NearSt.push (x := x1) (lit := Obj.cells #[Value.int .i64 x1] 3) M5 rfl hown9 hgrow9
            injection hA2 with hA2 _ hc2
            subst hA2 hc2
            refine hK.out _ _ (trivial) (fun hHeld => ?_)
            clear hK K
            try simp only [Act.put, List.setIfInBounds_toArray, List.set_cons_zero, List.set_cons_succ, List.getElem_toArray, List.getElem_cons_succ, List.getElem_cons_zero]
            refine wpAnyH_take (i := 6) (oi := _) (v := ?_) rfl (by kernel_rfl) (by kernel_rfl) (by kernel_rfl) (fun _ _ _ h => h) (Or.inl ⟨by rfl, ?_⟩) (by assumption) ?_
            rotate_left
            · intro w hSw
              try dsimp only at hSw
              go_simp
              all_goals with_reducible rfl
            try simp only [Act.put, List.setIfInBounds_toArray, List.set_cons_zero, List.set_cons_succ, List.getElem_toArray, List.getElem_cons_succ, List.getElem_cons_zero]
            refine wpAnyH_ready (rs := [7]) (by kernel_rfl) (by simp) ?_
            refine AllReadyH.cons (o := _) rfl (fun K hK => ?_) AllReadyH.nil
            go_simp
            refine hK.out _ _ (trivial) (fun hHeld => ?_)
            clear hK K
            try simp only [Act.put, List.setIfInBounds_toArray, List.set_cons_zero, List.set_cons_succ, List.getElem_toArray, List.getElem_cons_succ, List.getElem_cons_zero]
            refine wpAnyH_done (by kernel_rfl) ?_ _
            have HL := Lib.hid (show (ys ++ [x1]).length = ys.length + 1 by simp)
            have KM2 : NearSt w (w9.setCell ⟨G, 1, none⟩ (.slice (some ⟨g, 0, none⟩) (ys.length + 1) cap)) q G w.heap.size A c bs P pk p (some ⟨g, 0, none⟩) cap (ys ++ [x1]) := KM.out
            clear f7 u7 KM M5 f1 hown9 hgrow9 M0
            generalize w9.setCell ⟨G, 1, none⟩ (.slice (some ⟨g, 0, none⟩) (ys.length + 1) cap) = wq at KM2 ⊢
            have HFN := Lib.hid KM2.fin
            rw [HL.out] at HFN
            have g0 := KM2.cells.1
            have g1 := KM2.cells.2
            rw [HL.out] at g1
            have t0 := (obj_cell (i := 0) KM2.ob).trans rfl
            have t1 := (obj_cell (i := 1) KM2.ob).trans rfl
            have u0 := obj_frozen (i := 0) KM2.ob
            have u1 := obj_frozen (i := 1) KM2.ob
            have l0 := (obj_cell (i := 0) HFN.out.2.2.2).trans rfl
            have l2 := (obj_cell (i := 1) HFN.out.2.2.2).trans rfl
            go_wp2_with fail
            refine bodyPost_ret (v := .agg #[.slice P p.length pk, .slice (some ⟨g, 0, none⟩) (ys.length + 1) cap]) (by simp [results, Tryz.results26, go_sem, l0, l2]) rfl ?_
            exact ⟨P, pk, p, (some ⟨g, 0, none⟩), cap, (ys ++ [x1]), (by rw [HL.out]), hp4, by rw [HL.out]; omega, HPP.out, HFN.out.1, (by rw [HL.out]; exact HFN.out.2.1), HFN.out.2.2.1⟩
          · have f1 := (M5.alloc (Obj.cells #[Value.int .i64 x1] 3)).cells.2
            go_simp
            refine hK.out _ _ (trivial) (fun hHeld => ?_)
            clear hK K
            try simp only [Act.put, List.setIfInBounds_toArray, List.set_cons_zero, List.set_cons_succ, List.getElem_toArray, List.getElem_cons_succ, List.getElem_cons_zero]
            refine wpAnyH_ready (rs := [1]) (by kernel_rfl) (by simp) ?_
            refine AllReadyH.cons (o := _) rfl (fun K hK => ?_) AllReadyH.nil
            go_simp
            refine hK.out _ _ (trivial) (fun hHeld => ?_)
            clear hK K
            try simp only [Act.put, List.setIfInBounds_toArray, List.set_cons_zero, List.set_cons_succ, List.getElem_toArray, List.getElem_cons_succ, List.getElem_cons_zero]
            refine wpAnyH_ready (rs := [5]) (by kernel_rfl) (by simp) ?_
            refine AllReadyH.cons (o := _) rfl (fun K hK => ?_) AllReadyH.nil
            refine step_append_lies _ (by rfl) _ _ _ (by rfl) (G + 1) 3 i0 (.int .i64 0) 1 8 Tryz.underlying24 hi hz0 hz1 hz2 rfl (by decide) (Value.slice J ys.length k) ys.length _ (by rfl) (M5.alloc (Obj.cells #[Value.int .i64 x1] 3)).ownJ ⟨w5.heap.size, 0, none⟩ 1 1 [.int .i64 x1] (by rfl) (by rfl) (cell_one_new _ _ _) (by intro u hu; simp at hu; subst hu; rfl) (by omega) (by unfold maxLen; omega) (by omega) (by have := obj_lt M5.og; simp; omega) (w5.heap.size + 1) (by simp) ?_
            intro g cap w9 hown9 hgrow9 hlies9 hglt9
            obtain ⟨A2, c2, hA2, f7, u7, KM⟩ := NearSt.push (x := x1) (lit := Obj.cells #[Value.int .i64 x1] 3) M5 rfl hown9 hgrow9
            injection hA2 with hA2 _ hc2
            subst hA2 hc2
            refine hK.out _ _ (trivial) (fun hHeld => ?_)
            clear hK K
            try simp only [Act.put, List.setIfInBounds_toArray, List.set_cons_zero, List.set_cons_succ, List.getElem_toArray, List.getElem_cons_succ, List.getElem_cons_zero]
            refine wpAnyH_take (i := 6) (oi := _) (v := ?_) rfl (by kernel_rfl) (by kernel_rfl) (by kernel_rfl) (fun _ _ _ h => h) (Or.inl ⟨by rfl, ?_⟩) (by assumption) ?_
            rotate_left
            · intro w hSw
              try dsimp only at hSw
              go_simp
              all_goals with_reducible rfl
            try simp only [Act.put, List.setIfInBounds_toArray, List.set_cons_zero, List.set_cons_succ, List.getElem_toArray, List.getElem_cons_succ, List.getElem_cons_zero]
            refine wpAnyH_ready (rs := [7]) (by kernel_rfl) (by simp) ?_
            refine AllReadyH.cons (o := _) rfl (fun K hK => ?_) AllReadyH.nil
            go_simp
            refine hK.out _ _ (trivial) (fun hHeld => ?_)
            clear hK K
            try simp only [Act.put, List.setIfInBounds_toArray, List.set_cons_zero, List.set_cons_succ, List.getElem_toArray, List.getElem_cons_succ, List.getElem_cons_zero]
            refine wpAnyH_done (by kernel_rfl) ?_ _
            have HL := Lib.hid (show (ys ++ [x1]).length = ys.length + 1 by simp)
            have KM2 : NearSt w (w9.setCell ⟨G, 1, none⟩ (.slice (some ⟨g, 0, none⟩) (ys.length + 1) cap)) q G w.heap.size A c bs P pk p (some ⟨g, 0, none⟩) cap (ys ++ [x1]) := KM.out
            clear f7 u7 KM M5 f1 hown9 hgrow9 M0
            generalize w9.setCell ⟨G, 1, none⟩ (.slice (some ⟨g, 0, none⟩) (ys.length + 1) cap) = wq at KM2 ⊢
            have HFN := Lib.hid KM2.fin
            rw [HL.out] at HFN
            have g0 := KM2.cells.1
            have g1 := KM2.cells.2
            rw [HL.out] at g1
            have t0 := (obj_cell (i := 0) KM2.ob).trans rfl
            have t1 := (obj_cell (i := 1) KM2.ob).trans rfl
            have u0 := obj_frozen (i := 0) KM2.ob
            have u1 := obj_frozen (i := 1) KM2.ob
            have l0 := (obj_cell (i := 0) HFN.out.2.2.2).trans rfl
            have l2 := (obj_cell (i := 1) HFN.out.2.2.2).trans rfl
            go_wp2_with fail
            refine bodyPost_ret (v := .agg #[.slice P p.length pk, .slice (some ⟨g, 0, none⟩) (ys.length + 1) cap]) (by simp [results, Tryz.results26, go_sem, l0, l2]) rfl ?_
            exact ⟨P, pk, p, (some ⟨g, 0, none⟩), cap, (ys ++ [x1]), (by rw [HL.out]), hp4, by rw [HL.out]; omega, HPP.out, HFN.out.1, (by rw [HL.out]; exact HFN.out.2.1), HFN.out.2.2.1⟩
end Go.Proofs.YtfcgohhmpgffjaaGreatDoor

/- The draws of FnNears. -/
namespace Go.Proofs.YtfcgohhmpgffjaaGreatDoor
set_option maxRecDepth 100000
open Go Go.RowKit

set_option maxHeartbeats 800000 in
/-- One of a list of texts that is read. -/
theorem l1PickS_any (w : World) (q : Nat) (A : Option Addr) (c : Nat) (bs : List Int) (b : Nat) (n k : Nat) (xs : List ByteArray) (hnl : xs.length = n) (h0 : 0 < xs.length) (hl : xs.length ≤ 256) (hb : b ≠ q) (hbw : b < w.heap.size)
    (hr : ∀ j (h : j < xs.length), w.cell? ⟨b, j, none⟩ = some (.string xs[j])) (hc : Cur w q A c bs) :
    Calls Tryz.prog 61 #[.pointer (some ⟨q, 0, none⟩), .slice (some ⟨b, 0, none⟩) n k] w (fun en w' => ∃ t : ByteArray, en = .returned (.string t) ∧ t ∈ xs ∧ Drawn w w' q A c bs) := by
  subst hnl
  have HC := Lib.hid (l1Below_any w q A c bs (xs.length : Int) (by omega) hc)
  go_enter Tryz.func61, Tryz.ntmps61
  go_wp2_with fail
  (with_reducible refine HC.out.mono ?_)
  rintro e w1 ⟨x, rfl, hx, k1⟩
  obtain ⟨m, rfl⟩ := Int.eq_ofNat_of_zero_le hx.1
  have hm : m < xs.length := by have := hx.2.1 (by omega); omega
  have hcl : w1.cell? ⟨b, m, none⟩ = some (.string xs[m]) := by
    have h1 : w1.heap[b]? = w.heap[b]? := k1.span.block b hbw (by omega)
    rw [← hr m hm]
    exact World.cell?_of_block h1
  go_wp2_with fail
  go_ret
  exact ⟨_, rfl, List.getElem_mem hm, k1⟩
set_option maxHeartbeats 800000 in
theorem drawConsecutiveOf (A : Option Addr) (c : Nat) (bs : List Int) (w : World) (h : InY w A c bs) :
    Calls Tryz.prog 12 #[.slice A bs.length c] w (RetDL w fun ys => ys.length ≤ 9) := by
  have HC := Lib.hid (l1New_any A c bs w h.len h.rd)
  go_enter Tryz.func12, Tryz.ntmps12
  go_wp2_with fail
  (with_reducible refine HC.out.mono ?_)
  rintro e w1 ⟨q, rfl, hq, hc, hb⟩
  have hq1 := hc.lt
  have HO := Lib.hid (l1Once_any w1 q A c bs 4 (by omega) hc)
  clear HC
  go_wp2_with fail
  (with_reducible refine HO.out.mono ?_)
  rintro e w2 ⟨b, rfl, k1⟩
  clear HO
  rcases b with _ | _
  · have HO := Lib.hid (l1Below_any w2 q A c bs 5 (by omega) k1.cur)
    go_wp2_with fail
    (with_reducible refine HO.out.mono ?_)
    rintro e w3 ⟨x, rfl, hx, ka⟩
    have hx4 : 0 ≤ x ∧ x ≤ 4 := by have := hx.2.1 (by omega); omega
    have k2 := k1.trans ka
    obtain ⟨m, rfl⟩ := Int.eq_ofNat_of_zero_le hx4.1
    have HD := Lib.hid (l2Draw_any w3 q A c bs m (by omega) k2.cur)
    go_wp2_with fail
    (with_reducible refine HD.out.mono ?_)
    rintro e w4 ⟨D, k, xs, rfl, hl, ho, k3⟩
    have hl9 : xs.length ≤ 9 := by have := hl.length_eq; rw [upToL_length] at this; omega
    go_wp2_with fail
    go_ret
    exact ⟨D, k, xs, rfl, hl9, own_mono ho (by have := hb.size; have := k2.span.size; omega), hb.trans ((k2.trans k3).below hq hb.size)⟩
  · have HD := Lib.hid (l2Bent_any w2 q A c bs k1.cur)
    go_wp2_with fail
    (with_reducible refine HD.out.mono ?_)
    rintro e w3 ⟨D, k, xs, rfl, hl, ho, k2⟩
    go_wp2_with fail
    go_ret
    exact ⟨D, k, xs, rfl, hl, own_mono ho (by have := hb.size; have := k1.span.size; omega), hb.trans ((k1.trans k2).below hq hb.size)⟩
set_option maxHeartbeats 2000000 in
theorem drawCountNear (A : Option Addr) (c : Nat) (bs : List Int) (w : World) (h : InY w A c bs) :
    Calls Tryz.prog 5 #[.slice A bs.length c] w (fun en w' => ∃ (D : Option Addr) (dk : Nat) (d : List Int) (P : Option Addr) (pk : Nat) (p : List Int) (J : Option Addr) (k : Nat) (ys : List Int), en = .returned (.tuple #[.slice D d.length dk, .agg #[.slice P p.length pk, .slice J ys.length k]]) ∧
      d.length ≤ 9 ∧ p.length ≤ 4 ∧ ys.length ≤ 4 ∧ In w' D dk d ∧ InN w' P pk p J k ys ∧ Below w.heap.size w w') := by
  have hb0 := (Below.refl w.heap.size w).alloc (Nat.le_refl _) (Obj.cells #[Value.slice none 0 0, Value.slice none 0 0] 26)
  have ob := obj_new w (Obj.cells #[Value.slice none 0 0, Value.slice none 0 0] 26)
  have HC := Lib.hid (l1New_any A c bs _ h.len (h.next hb0).rd)
  go_enter Tryz.func5, Tryz.ntmps5
  go_wp2_with fail
  (with_reducible refine HC.out.mono ?_)
  rintro e w1 ⟨q, rfl, hq, hc, hb⟩
  have ob := obj_below ob hb (by simp)
  have hb0 := hb0.trans (hb.mono hb0.size)
  have hq0 : w.heap.size < q := by simp at hq; omega
  have hq1 := hc.lt
  have HD := Lib.hid (l2Bent_any w1 q A c bs hc)
  clear HC hb hq
  go_wp2_with fail
  (with_reducible refine HD.out.mono ?_)
  rintro e w2 ⟨D, dk, d, rfl, hd9, hoD, k1⟩
  have ob := obj_below ob (k1.below (B := q) (Nat.le_refl _) (Nat.le_of_lt hq1)) hq0
  have hsz1 := k1.span.size
  have HE := Lib.hid (l8Draw_any w2 q A c bs k1.cur)
  clear HD
  go_wp2_with fail
  (with_reducible refine HE.out.mono ?_)
  rintro e w3 ⟨P, pk, p, S, k, rs, rfl, hp4, hr4, hpp, hoP, hoR, k3⟩
  have hoD := own_drawn hoD k3 hq1
  have hq2 := k1.cur.lt
  have ob := obj_below ob (k3.below (B := q) (Nat.le_refl _) (Nat.le_of_lt hq2)) hq0
  have hb0 := hb0.trans ((k1.trans k3).below (by omega) hb0.size)
  have t0 := (obj_cell (i := 0) ob).trans rfl
  have t1 := (obj_cell (i := 1) ob).trans rfl
  have u0 := obj_frozen (i := 0) ob
  have u1 := obj_frozen (i := 1) ob
  have o1 := obj_set (i := 0) ob (Value.slice P p.length pk)
  have o2 := obj_set (i := 1) o1 (Value.slice S rs.length k)
  have l0 := (obj_cell (i := 0) o2).trans rfl
  have l1 := (obj_cell (i := 1) o2).trans rfl
  have hD := In.of_own (own_boxed (i := 1) (u := Value.slice S rs.length k) (own_boxed (i := 0) (u := Value.slice P p.length pk) hoD ob (by decide)) o1 (by decide)) (by omega)
  have hP := In.of_own (own_boxed (i := 1) (u := Value.slice S rs.length k) (own_boxed (i := 0) (u := Value.slice P p.length pk) hoP ob (by decide)) o1 (by decide)) (by omega)
  have hR := In.of_own (own_boxed (i := 1) (u := Value.slice S rs.length k) (own_boxed (i := 0) (u := Value.slice P p.length pk) hoR ob (by decide)) o1 (by decide)) (by omega)
  have hb9 := (hb0.setCell (p := ⟨w.heap.size, 0, none⟩) (Nat.le_refl _) (Value.slice P p.length pk)).setCell (p := ⟨w.heap.size, 1, none⟩) (Nat.le_refl _) (Value.slice S rs.length k)
  clear HE k3 o1 o2 ob hoP hoR hoD hpp k1
  go_wp2_with fail
  refine bodyPost_ret (v := .tuple #[.slice D d.length dk, .agg #[.slice P p.length pk, .slice S rs.length k]]) (by simp [results, Tryz.results5, go_sem, l0, l1]) rfl ?_
  exact ⟨D, dk, d, P, pk, p, S, k, rs, rfl, hd9, hp4, hr4, hD, ⟨hP, hR⟩, hb9⟩
end Go.Proofs.YtfcgohhmpgffjaaGreatDoor
