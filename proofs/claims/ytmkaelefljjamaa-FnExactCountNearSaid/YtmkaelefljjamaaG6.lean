/- CountNear, program and reference. -/
import Derived.Test.YtmkaelefljjamaaG5
import Derived.Test.YtmkaelefljjamaaK3
import Derived.Test.YtmkaelefljjamaaG1
namespace Go.Proofs.Ytmkaelefljjamaa
set_option maxRecDepth 100000
open Go Go.RowKit

/-- A joined place whose neighbor is not beside it. -/
def badJ (l : List Int) (i : Int) : Bool := !(nth l i == nth l (i - 1) + 1)
def nearFit (ys l : List Int) : Bool := !ys.any (badJ l)
def nearCnt (p xs ys : List Int) : Nat := ((occI p xs).filter (nearFit ys)).length
def cnG (p xs ys : List Int) : Int := if permB p = true ∧ nearB xs ys = true then (nearCnt p xs ys : Int) else -1
theorem nearB_range {xs ys : List Int} (h : nearB xs ys = true) : ∀ i ∈ ys, 1 ≤ i ∧ i < xs.length := fun i hi => by
  unfold nearB at h
  rw [Bool.and_eq_true] at h
  obtain ⟨k, hk, rfl⟩ := List.mem_iff_getElem.1 hi
  have := List.all_eq_true.1 h.2 k (List.mem_range.2 hk)
  simp only [joinAt, List.getElem?_eq_getElem hk, Option.getD_some, decide_eq_true_eq] at this
  omega
theorem nearB_permB {xs ys : List Int} (h : nearB xs ys = true) : permB xs = true := by
  unfold nearB at h
  rw [Bool.and_eq_true] at h
  exact h.1
theorem occI_le {p q : List Int} (hp8 : p.length ≤ 8) (hq8 : q.length ≤ 8) : (occI p q).length ≤ 16777216 := by
  unfold occI
  have h1 := List.length_filter_le (fun l => decide (patL (atL p l) = q)) (ascI p.length q.length)
  have h2 := ascI_le p.length q.length
  have h3 := pow_eight hp8 hq8
  omega
theorem occI_mem {p q l : List Int} (h : l ∈ occI p q) : l.length = q.length ∧ Asc p.length l := ascI_mem (List.mem_filter.1 h).1

set_option maxHeartbeats 1000000 in
theorem cn_cl (A : Option Addr) (c g : Nat) (l : List Int) (i : Int) (w : World) (hl : In w A c l) (hg : w.cell? ⟨g, 0, none⟩ = some (.slice A l.length c)) (h1 : 1 ≤ i) (h2 : i < l.length) (h8 : l.length ≤ 8) (hlim : ∀ x ∈ l, 1 ≤ x ∧ x ≤ 8) :
    Calls Try.prog 61 #[.int .i64 i, .pointer (some ⟨g, 0, none⟩)] w (Rb w (.bool (badJ l i))) := by
  obtain ⟨m, hm⟩ : ∃ m : Nat, i = (m : Int) + 1 := ⟨(i - 1).toNat, by omega⟩
  subst hm
  obtain ⟨b, off, rfl, _, hc⟩ := hl.rd (by omega)
  have c1 := hc (m + 1) (by omega)
  have c2 := hc m (by omega)
  have HB := Lib.hid (show badJ l ((m : Int) + 1) = !(l[m + 1]'(by omega) == l[m]'(by omega) + 1) by
    unfold badJ nth
    rw [show ((m : Int) + 1).toNat = m + 1 by omega, show ((m : Int) + 1 - 1).toNat = m by omega, List.getElem?_eq_getElem (show m + 1 < l.length by omega), List.getElem?_eq_getElem (show m < l.length by omega)]
    rfl)
  have e1 : IntKind.i64.wrap ((m : Int) + 1 - 1) = (m : Int) := by rw [Int.add_sub_cancel]; exact IntWalk.i64_in _ (by omega)
  have e2 : ((m : Int) + 1).toNat = m + 1 := by omega
  have e3 : 0 ≤ (m : Int) + 1 := by omega
  have e4 : (m : Int) + 1 < (l.length : Int) := by omega
  have e5 : (m : Int) < (l.length : Int) := by omega
  have b1 := hlim (l[m]'(by omega)) (List.getElem_mem _)
  have e6 : IntKind.i64.wrap (l[m]'(by omega) + 1) = l[m]'(by omega) + 1 := IntWalk.i64_in _ (by omega)
  clear hc
  go_enter Try.func61, Try.ntmps61
  go_wp2_with fail
  go_quiet (fail)
  go_wp2_with fail
  go_ret
  exact ⟨ret_bool (by rw [HB.out]; first | rfl | simp), below_dr (Below.refl _ _) (by first | with_reducible exact Dr.of _ _ | with_reducible exact Dr.of2 _ _ _ | with_reducible exact Dr.refl _ | with_reducible exact Dr.of3 _ _ _)⟩
theorem call_cn (args : Array Value) (w : World) : (callFunc 61 args).run Try.prog w = .ok (.enter 61 args) w := by kernel_rfl
set_option maxHeartbeats 4000000 in
theorem countNear_impl (A : Option Addr) (c : Nat) (p : List Int) (C D : Option Addr) (e f : Nat) (xs ys : List Int) (w : World) (hp : In w A c p) (hx : InN w C e xs D f ys) :
    Calls Try.prog 18 #[.slice A p.length c, .agg #[.slice C xs.length e, .slice D ys.length f]] w (Rb w (.int .i64 (cnG p xs ys))) := by
  have hmf : ∀ (fn : Fn) (first cap : Array Value) (w : World), (Instr.makeFunc fn first cap).run Try.prog w = .ok (.func fn first cap) w := fun _ _ _ _ => rfl
  go_enter Try.func18, Try.ntmps18
  have hb0 : Below w.heap.size w (w.alloc (Obj.cells #[Value.slice C xs.length e, Value.slice D ys.length f] 28)) := (Below.refl _ _).alloc (Nat.le_refl _) _
  have ob := obj_new w (Obj.cells #[Value.slice C xs.length e, Value.slice D ys.length f] 28)
  go_wp2_with fail
  generalize (w.alloc (Obj.cells #[Value.slice C xs.length e, Value.slice D ys.length f] 28)) = w0 at hb0 ob ⊢
  by_cases hP : permB p = true
  · have H1 := Lib.hid hP
    have hp8 := (permB_true hP).1
    clear hP
    (with_reducible refine (isPerm_ib A c p w0 true (hp.next hb0) H1.out).mono ?_)
    rintro e w1 ⟨rfl, hb1⟩
    have ob := obj_below ob hb1 (obj_lt ob)
    have hb := hb0.trans (hb1.mono hb0.size)
    have f0 : w1.cell? ⟨w.heap.size, 0, none⟩ = some (Value.slice C xs.length e) := (obj_cell ob).trans rfl
    have f1 : w1.cell? ⟨w.heap.size, 1, none⟩ = some (Value.slice D ys.length f) := (obj_cell ob).trans rfl
    go_wp2_with fail
    by_cases hN : nearB xs ys = true
    · have H2 := Lib.hid hN
      have hx8 := (permB_true (nearB_permB hN)).1
      have hrange := nearB_range hN
      have hly := hx.2.len
      clear hN
      (with_reducible refine (near_ib C D e f xs ys w1 true (hx.next hb) H2.out).mono ?_)
      rintro e w2 ⟨rfl, hb2⟩
      have ob := obj_below ob hb2 (obj_lt ob)
      have hb := hb.trans (hb2.mono hb.size)
      have f0 : w2.cell? ⟨w.heap.size, 0, none⟩ = some (Value.slice C xs.length e) := (obj_cell ob).trans rfl
      have HG := Lib.hid (show cnG p xs ys = (nearCnt p xs ys : Int) by unfold cnG; rw [if_pos ⟨H1.out, H2.out⟩])
      go_wp2_with fail
      (with_reducible refine (occurrences_impl A C c e p xs w2 (hp.next hb) (hx.1.next hb) hp8 hx8).mono ?_)
      rintro e w3 ⟨A3, c3, rs, rfl, hX, hO, hb3⟩
      have ob := obj_below ob hb3 (obj_lt ob)
      have hb := hb.trans (hb3.mono hb.size)
      have hRd := hO.read
      have hlen : rs.length ≤ 16777216 := by have h1 := occI_le hp8 hx8; have h2 := congrArg List.length hX; rw [List.length_map] at h2; omega
      have HX := Lib.hid hX
      have hob := obj_lt ob
      clear hX hO f0 f1 hb1 hb2
      go_wp2_with fail
      go_loopw [5, 21] (fun s i wr => ∃ k : Nat, k ≤ rs.length ∧ i = .int .i64 k ∧ s = .int .i64 (cntTo (fun r : Row => nearFit ys r.xs) rs k : Nat) ∧ Below w3.heap.size w3 wr) (fun _ i _ => rs.length - (intOf i).toNat)
      case atStart => exact ⟨0, Nat.zero_le _, rfl, rfl, Below.refl _ _⟩
      case round =>
        obtain ⟨k, hk, rfl, rfl, hb4⟩ := hrel
        have hle := cntTo_le (fun r : Row => nearFit ys r.xs) rs k
        have hsz4 := hb4.size
        rcases Nat.lt_or_ge k rs.length with hlt | hge
        · have hRd2 := hRd.below hb4
          obtain ⟨b, off, rfl, _, hc⟩ := hRd2.at (by omega)
          have cc := hc k hlt
          have hmem := occI_mem (map_memX HX.out (List.getElem_mem hlt))
          have hml : rs[k].xs.length = xs.length := hmem.1
          have hlim : ∀ x ∈ rs[k].xs, 1 ≤ x ∧ x ≤ 8 := fun x hx => by have := hmem.2.1 x hx; omega
          have hl8 : rs[k].xs.length ≤ 8 := by omega
          have hin := row_in hRd2 (List.getElem_mem hlt) (by omega) hsz4
          have hbA := (Below.refl wr.heap.size wr).alloc (Nat.le_refl _) (Obj.cells #[Value.slice rs[k].A rs[k].xs.length rs[k].c] 22)
          have hin2 := hin.next hbA
          have hcA := alloc_cell wr (Value.slice rs[k].A rs[k].xs.length rs[k].c) 22
          have hb5 := hb.trans (hb4.mono hb.size)
          have hy2 := (hx.2.next hb5).next hbA
          have ob4 := obj_alloc (obj_below ob hb4 hob) (Obj.cells #[Value.slice rs[k].A rs[k].xs.length rs[k].c] 22)
          have f1 : (wr.alloc (Obj.cells #[Value.slice rs[k].A rs[k].xs.length rs[k].c] 22)).cell? ⟨w.heap.size, 1, none⟩ = some (Value.slice D ys.length f) := (obj_cell ob4).trans rfl
          have HR := Lib.hid (show ∀ i ∈ ys, 1 ≤ i ∧ i < (rs[k].xs.length : Int) from fun i hi => by have := hrange i hi; omega)
          have HS := Lib.hid (cntTo_succ (fun r : Row => nearFit ys r.xs) rs k hlt)
          have hzA : (wr.alloc (Obj.cells #[Value.slice rs[k].A rs[k].xs.length rs[k].c] 22)).heap.size = wr.heap.size + 1 := by simp
          have HZ := Lib.hid hzA
          have hbw := hb4.trans (hbA.mono hsz4)
          clear hc hmem hml hin hRd2 hzA hbA
          go_wp2_with fail
          generalize (wr.alloc (Obj.cells #[Value.slice rs[k].A rs[k].xs.length rs[k].c] 22)) = wA at hin2 hcA hy2 ob4 f1 HZ hbw ⊢
          by_cases hH : nearFit ys rs[k].xs = true
          · have HF := Lib.hid (show ys.any (badJ rs[k].xs) = false by unfold nearFit at hH; simpa using hH)
            have HT := Lib.hid (show cntTo (fun r : Row => nearFit ys r.xs) rs (k + 1) = cntTo (fun r : Row => nearFit ys r.xs) rs k + 1 by rw [HS.out, if_pos hH])
            clear hH
            refine (containsFuncI1 D f ys.length ys 61 wr.heap.size (badJ rs[k].xs) wA rfl (by omega) hy2.rd (fun args w' => call_cn args w') (fun w' j hj hb => ?_) false HF.out).mono ?_
            · exact cn_cl rs[k].A rs[k].c _ rs[k].xs ys[j] w' (hin2.next hb) ((hb.cell (p := ⟨wr.heap.size, 0, none⟩) (by have := HZ.out; show wr.heap.size < wA.heap.size; omega)).trans hcA) (HR.out _ (List.getElem_mem hj)).1 (HR.out _ (List.getElem_mem hj)).2 hl8 hlim
            · rintro e w6 ⟨rfl, hb6⟩
              go_wp2_with fail
              go_roundw
              case rel => exact ⟨k + 1, by omega, by go_num, by rw [HT.out]; all_goals go_num, hbw.trans (hb6.mono hbw.size)⟩
              case measure => simp [intOf]; omega
          · have HF := Lib.hid (show ys.any (badJ rs[k].xs) = true by unfold nearFit at hH; simpa using hH)
            have HT := Lib.hid (show cntTo (fun r : Row => nearFit ys r.xs) rs (k + 1) = cntTo (fun r : Row => nearFit ys r.xs) rs k by rw [HS.out, if_neg hH, Nat.add_zero])
            clear hH
            refine (containsFuncI1 D f ys.length ys 61 wr.heap.size (badJ rs[k].xs) wA rfl (by omega) hy2.rd (fun args w' => call_cn args w') (fun w' j hj hb => ?_) true HF.out).mono ?_
            · exact cn_cl rs[k].A rs[k].c _ rs[k].xs ys[j] w' (hin2.next hb) ((hb.cell (p := ⟨wr.heap.size, 0, none⟩) (by have := HZ.out; show wr.heap.size < wA.heap.size; omega)).trans hcA) (HR.out _ (List.getElem_mem hj)).1 (HR.out _ (List.getElem_mem hj)).2 hl8 hlim
            · rintro e w6 ⟨rfl, hb6⟩
              go_wp2_with fail
              go_roundw
              case rel => exact ⟨k + 1, by omega, by go_num, by rw [HT.out], hbw.trans (hb6.mono hbw.size)⟩
              case measure => simp [intOf]; omega
        · obtain rfl : k = rs.length := by omega
          have HE := Lib.hid (show cntTo (fun r : Row => nearFit ys r.xs) rs rs.length = nearCnt p xs ys by
            rw [cntTo_all]; unfold nearCnt; rw [← HX.out, List.filter_map, List.length_map]; rfl)
          go_wp2_with fail
          go_ret
          exact ⟨ret_int (by rw [HG.out, HE.out]), hb.trans (hb4.mono hb.size)⟩
    · have hNf : nearB xs ys = false := by simpa using hN
      have HG := Lib.hid (show cnG p xs ys = -1 by unfold cnG; rw [if_neg]; exact fun h => hN h.2)
      (with_reducible refine (near_ib C D e f xs ys w1 false (hx.next hb) hNf).mono ?_)
      rintro e w2 ⟨rfl, hb2⟩
      clear hN hNf
      go_wp2_with fail
      go_ret
      exact ⟨ret_int (by rw [HG.out]), hb.trans (hb2.mono hb.size)⟩
  · have hPf : permB p = false := by simpa using hP
    have HG := Lib.hid (show cnG p xs ys = -1 by unfold cnG; rw [if_neg]; exact fun h => hP h.1)
    (with_reducible refine (isPerm_ib A c p w0 false (hp.next hb0) hPf).mono ?_)
    rintro e w1 ⟨rfl, hb1⟩
    clear hP hPf
    go_wp2_with fail
    go_ret
    exact ⟨ret_int (by rw [HG.out]), hb0.trans (hb1.mono hb0.size)⟩
set_option maxHeartbeats 1000000 in
theorem l8Fits_b (A D : Option Addr) (c f n : Nat) (l ys : List Int) (w : World) (b : Bool) (hn : l.length = n) (hl : Rd (Value.int .i64) w w.heap.size A l) (hy : Rd (Value.int .i64) w w.heap.size D ys) (hly : ys.length ≤ 1048576) (hr : ∀ i ∈ ys, 1 ≤ i ∧ i < l.length) (h8 : n ≤ 8) (hlim : ∀ x ∈ l, 1 ≤ x ∧ x ≤ 8) (hb : nearFit ys l = b) :
    Calls Try.prog 56 #[.slice A n c, .slice D ys.length f] w (Rq w (.bool b)) := by
  have HB := Lib.hid hb
  have HN := Lib.hid hn
  have hn2 : l.length ≤ n := by omega
  have hn3 : n ≤ l.length := by omega
  clear hb hn
  go_enter Try.func56, Try.ntmps56
  go_wp2_with fail
  go_loopw [5] (fun i wr => ∃ k : Nat, k ≤ ys.length ∧ i = .int .i64 k ∧ Hid ((ys.take k).any (badJ l) = false) ∧ Dr w wr) (fun i _ => ys.length - (intOf i).toNat)
  case atStart => exact ⟨0, Nat.zero_le _, rfl, Lib.hid rfl, Dr.refl _⟩
  case round =>
    obtain ⟨k, hk, rfl, HF, hd⟩ := hrel
    rcases Nat.lt_or_ge k ys.length with hlt | hge
    · have hyk := hr ys[k] (List.getElem_mem hlt)
      obtain ⟨m, hm⟩ : ∃ m : Nat, (m : Int) + 1 = ys[k] := ⟨(ys[k] - 1).toNat, by omega⟩
      have hm1 : m + 1 < l.length := by omega
      have hm0 : m < l.length := by omega
      obtain ⟨by_, oy, rfl, _, hcy⟩ := hy (by omega)
      obtain ⟨bl, ol, rfl, _, hcl⟩ := hl (by omega)
      have g1 : wr.cell? ⟨by_, oy + k, none⟩ = some (.int .i64 ys[k]) := (hd.cell _).trans (hcy k hlt)
      have g2 : wr.cell? ⟨bl, ol + (m + 1), none⟩ = some (.int .i64 (l[m + 1])) := (hd.cell _).trans (hcl (m + 1) (by omega))
      have g3 : wr.cell? ⟨bl, ol + m, none⟩ = some (.int .i64 (l[m])) := (hd.cell _).trans (hcl m (by omega))
      rw [← hm] at g1
      have HK := Lib.hid (show badJ l ys[k] = !(l[m + 1] == l[m] + 1) by
        unfold badJ nth
        rw [← hm, show ((m : Int) + 1).toNat = m + 1 by omega, show ((m : Int) + 1 - 1).toNat = m by omega, List.getElem?_eq_getElem (show m + 1 < l.length by omega), List.getElem?_eq_getElem (show m < l.length by omega)]
        rfl)
      have b1 := hlim l[m] (List.getElem_mem _)
      have e6 : IntKind.i64.wrap (l[m] + 1) = l[m] + 1 := IntWalk.i64_in _ (by omega)
      have e1 : IntKind.i64.wrap ((m : Int) + 1 - 1) = (m : Int) := by rw [Int.add_sub_cancel]; exact IntWalk.i64_in _ (by omega)
      have e2 : ((m : Int) + 1).toNat = m + 1 := by omega
      have e3 : 0 ≤ (m : Int) + 1 := by omega
      have e4 : (m : Int) + 1 < (n : Int) := by omega
      have e5 : (m : Int) < (n : Int) := by omega
      have e7 : (k : Int) < (ys.length : Int) := by omega
      clear hcy hcl hyk hm
      by_cases hh : badJ l ys[k] = true
      · have HT := Lib.hid (show nearFit ys l = false by unfold nearFit; rw [any_at hlt hh]; rfl)
        have hne : (l[m + 1] != l[m] + 1) = true := HK.out.symm.trans hh
        clear hh HK
        go_wp2_with fail
        go_quiet (fail)
        go_wp2_with fail
        go_ret
        exact ⟨ret_bool (by rw [← HB.out, HT.out]), (by first | with_reducible assumption | with_reducible exact hd | with_reducible exact Dr.drewN hd _ | with_reducible exact Dr.drewN (Dr.drewN hd _) _ | with_reducible exact Dr.drew hd)⟩
      · have hhf : badJ l ys[k] = false := by simpa using hh
        have HT := Lib.hid (show (ys.take (k + 1)).any (badJ l) = false from any_take_false HF.out hlt hhf)
        have hne : (l[m + 1] != l[m] + 1) = false := HK.out.symm.trans hhf
        clear hh hhf HK
        go_wp2_with fail
        go_quiet (fail)
        go_wp2_with fail
        go_roundw
        case rel => exact ⟨k + 1, by omega, by go_num, HT, (by first | with_reducible assumption | with_reducible exact hd | with_reducible exact Dr.drewN hd _ | with_reducible exact Dr.drewN (Dr.drewN hd _) _ | with_reducible exact Dr.drew hd)⟩
        case measure => simp [intOf]; omega
    · have HT := Lib.hid (show nearFit ys l = true by have := HF.out; rw [List.take_of_length_le hge] at this; unfold nearFit; rw [this]; rfl)
      go_wp2_with fail
      go_ret
      exact ⟨ret_bool (by rw [← HB.out, HT.out]), hd⟩

set_option maxHeartbeats 4000000 in
theorem countNear_spec (A : Option Addr) (c : Nat) (p : List Int) (C D : Option Addr) (e f : Nat) (xs ys : List Int) (w : World) (hp : In w A c p) (hx : InN w C e xs D f ys) :
    Calls Try.prog 15 #[.slice A p.length c, .agg #[.slice C xs.length e, .slice D ys.length f]] w (Rb w (.int .i64 (cnG p xs ys))) := by
  go_enter Try.func15, Try.ntmps15
  have hb0 : Below w.heap.size w (w.alloc (Obj.cells #[Value.slice C xs.length e, Value.slice D ys.length f] 28)) := (Below.refl _ _).alloc (Nat.le_refl _) _
  have ob := obj_new w (Obj.cells #[Value.slice C xs.length e, Value.slice D ys.length f] 28)
  go_wp2_with fail
  generalize (w.alloc (Obj.cells #[Value.slice C xs.length e, Value.slice D ys.length f] 28)) = w0 at hb0 ob ⊢
  by_cases hP : permB p = true
  · have H1 := Lib.hid hP
    have hp8 := (permB_true hP).1
    clear hP
    (with_reducible refine (isPerm_sb A c p w0 true (hp.next hb0) H1.out).mono ?_)
    rintro e w1 ⟨rfl, hd1⟩
    have ob := obj_dr ob hd1
    have hb := below_dr hb0 hd1
    have f0 : w1.cell? ⟨w.heap.size, 0, none⟩ = some (Value.slice C xs.length e) := (obj_cell ob).trans rfl
    have f1 : w1.cell? ⟨w.heap.size, 1, none⟩ = some (Value.slice D ys.length f) := (obj_cell ob).trans rfl
    go_wp2_with fail
    by_cases hN : nearB xs ys = true
    · have H2 := Lib.hid hN
      have hx8 := (permB_true (nearB_permB hN)).1
      have hrange := nearB_range hN
      have hly := hx.2.len
      have HXP := Lib.hid (nearB_permB hN)
      clear hN
      (with_reducible refine (near_sb C D e f xs ys w1 true (hx.next hb) H2.out).mono ?_)
      rintro e w2 ⟨rfl, hb2⟩
      have ob := obj_below ob hb2 (obj_lt ob)
      have hb := hb.trans (hb2.mono hb.size)
      have f0 : w2.cell? ⟨w.heap.size, 0, none⟩ = some (Value.slice C xs.length e) := (obj_cell ob).trans rfl
      have HG := Lib.hid (show cnG p xs ys = (nearCnt p xs ys : Int) by unfold cnG; rw [if_pos ⟨H1.out, H2.out⟩])
      go_wp2_with fail
      (with_reducible refine (occurrencesOf_spec A C c e p xs w2 (hp.next hb) (hx.1.next hb) H1.out HXP.out).mono ?_)
      rintro e w3 ⟨A3, c3, rs, rfl, hX, hO, hb3⟩
      rw [occ_eq H1.out HXP.out] at hX
      have ob := obj_below ob hb3 (obj_lt ob)
      have hb := hb.trans (hb3.mono hb.size)
      have hRd := hO.read
      have hlen : rs.length ≤ 16777216 := by have h1 := occI_le hp8 hx8; have h2 := congrArg List.length hX; rw [List.length_map] at h2; omega
      have HX := Lib.hid hX
      have hob := obj_lt ob
      clear hX hO f0 f1 hb2
      go_wp2_with fail
      go_loopw [5, 7] (fun s i wr => ∃ k : Nat, k ≤ rs.length ∧ i = .int .i64 k ∧ s = .int .i64 (cntTo (fun r : Row => nearFit ys r.xs) rs k : Nat) ∧ Dr w3 wr) (fun _ i _ => rs.length - (intOf i).toNat)
      case atStart => exact ⟨0, Nat.zero_le _, rfl, rfl, Dr.refl _⟩
      case round =>
        obtain ⟨k, hk, rfl, rfl, hd4⟩ := hrel
        have hle := cntTo_le (fun r : Row => nearFit ys r.xs) rs k
        rcases Nat.lt_or_ge k rs.length with hlt | hge
        · have hRd2 := hRd.dr hd4
          obtain ⟨b, off, rfl, _, hc⟩ := hRd2.at (by omega)
          have cc := hc k hlt
          have hmem := occI_mem (map_memX HX.out (List.getElem_mem hlt))
          have hml : rs[k].xs.length = xs.length := hmem.1
          have hlim : ∀ x ∈ rs[k].xs, 1 ≤ x ∧ x ≤ 8 := fun x hx => by have := hmem.2.1 x hx; omega
          have hl8 : rs[k].xs.length ≤ 8 := by omega
          have hszw : wr.heap.size = w3.heap.size := by rw [hd4.heap]
          have hin := row_in hRd2 (List.getElem_mem hlt) (by omega) (by rw [hszw]; exact Nat.le_refl _)
          have hy2 := ((hx.2.next hb).dr hd4).rd
          have f1 : wr.cell? ⟨w.heap.size, 1, none⟩ = some (Value.slice D ys.length f) := (obj_cell (obj_dr ob hd4)).trans rfl
          have HR := Lib.hid (show ∀ i ∈ ys, 1 ≤ i ∧ i < (rs[k].xs.length : Int) from fun i hi => by have := hrange i hi; omega)
          have HL := Lib.hid hlim
          have HS := Lib.hid (cntTo_succ (fun r : Row => nearFit ys r.xs) rs k hlt)
          have i0 : (0 : Int) ≤ (k : Int) := Int.natCast_nonneg _
          have i1 : (k : Int) < (rs.length : Int) := by omega
          have hrl := hin.rd
          clear hc hmem hml hin hRd2 hlim hszw
          by_cases hH : nearFit ys rs[k].xs = true
          · have HF := Lib.hid hH
            have HT := Lib.hid (show cntTo (fun r : Row => nearFit ys r.xs) rs (k + 1) = cntTo (fun r : Row => nearFit ys r.xs) rs k + 1 by rw [HS.out, if_pos hH])
            have e1 : IntKind.i64.wrap (((cntTo (fun r : Row => nearFit ys r.xs) rs k : Nat) : Int) + 1) = ((cntTo (fun r : Row => nearFit ys r.xs) rs k : Nat) : Int) + 1 := IntWalk.i64_in _ (by omega)
            clear hH
            go_wp2_with fail
            go_quiet ((first | (go_at_call 56; exact quiet_rq (l8Fits_b _ _ _ _ _ rs[k].xs ys _ true rfl (hrl.drewN _) (hy2.drewN _) hly HR.out hl8 HL.out HF.out)) | (go_at_call 55; exact quiet_eq (l1Bit_b true 1 _ rfl))))
            go_wp2_with fail
            go_roundw
            case rel => exact ⟨k + 1, by omega, by go_num, by rw [HT.out]; all_goals go_num, (by first | with_reducible assumption | with_reducible exact hd4 | with_reducible exact Dr.drewN hd4 _ | with_reducible exact Dr.drewN (Dr.drewN hd4 _) _ | with_reducible exact Dr.drew hd4)⟩
            case measure => simp [intOf]; omega
          · have hHf : nearFit ys rs[k].xs = false := by simpa using hH
            have HF := Lib.hid hHf
            have HT := Lib.hid (show cntTo (fun r : Row => nearFit ys r.xs) rs (k + 1) = cntTo (fun r : Row => nearFit ys r.xs) rs k by rw [HS.out, if_neg hH, Nat.add_zero])
            have e1 : IntKind.i64.wrap (((cntTo (fun r : Row => nearFit ys r.xs) rs k : Nat) : Int) + 0) = ((cntTo (fun r : Row => nearFit ys r.xs) rs k : Nat) : Int) := by rw [Int.add_zero]; exact IntWalk.i64_in _ (by omega)
            clear hH hHf
            go_wp2_with fail
            go_quiet ((first | (go_at_call 56; exact quiet_rq (l8Fits_b _ _ _ _ _ rs[k].xs ys _ false rfl (hrl.drewN _) (hy2.drewN _) hly HR.out hl8 HL.out HF.out)) | (go_at_call 55; exact quiet_eq (l1Bit_b false 0 _ rfl))))
            go_wp2_with fail
            go_roundw
            case rel => exact ⟨k + 1, by omega, by go_num, by rw [HT.out]; all_goals go_num, (by first | with_reducible assumption | with_reducible exact hd4 | with_reducible exact Dr.drewN hd4 _ | with_reducible exact Dr.drewN (Dr.drewN hd4 _) _ | with_reducible exact Dr.drew hd4)⟩
            case measure => simp [intOf]; omega
        · obtain rfl : k = rs.length := by omega
          have HE := Lib.hid (show cntTo (fun r : Row => nearFit ys r.xs) rs rs.length = nearCnt p xs ys by
            rw [cntTo_all]; unfold nearCnt; rw [← HX.out, List.filter_map, List.length_map]; rfl)
          go_wp2_with fail
          go_ret
          exact ⟨ret_int (by rw [HG.out, HE.out]), below_dr hb hd4⟩
    · have hNf : nearB xs ys = false := by simpa using hN
      have HG := Lib.hid (show cnG p xs ys = -1 by unfold cnG; rw [if_neg]; exact fun h => hN h.2)
      (with_reducible refine (near_sb C D e f xs ys w1 false (hx.next hb) hNf).mono ?_)
      rintro e w2 ⟨rfl, hb2⟩
      clear hN hNf
      go_wp2_with fail
      go_ret
      exact ⟨ret_int (by rw [HG.out]), hb.trans (hb2.mono hb.size)⟩
  · have hPf : permB p = false := by simpa using hP
    have HG := Lib.hid (show cnG p xs ys = -1 by unfold cnG; rw [if_neg]; exact fun h => hP h.1)
    (with_reducible refine (isPerm_sb A c p w0 false (hp.next hb0) hPf).mono ?_)
    rintro e w1 ⟨rfl, hd1⟩
    clear hP hPf
    go_wp2_with fail
    go_ret
    exact ⟨ret_int (by rw [HG.out]), below_dr hb0 hd1⟩
end Go.Proofs.Ytmkaelefljjamaa
