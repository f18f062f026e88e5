/- Several texts in one, each with its own head: B2, CS, OC3. No program of ours. -/
import Derived.StillTailTactics
import Derived.Deep.RegionHeld3
import Derived.Deep.CutRange
import Derived.Deep.DeepCutAuto
import Derived.Test.YthipikllgpnlhaaMMeshes10
/- CountMesh of the reference. -/
namespace Go.Proofs.Ythipikllgpnlhaa
set_option maxRecDepth 100000
open Go Go.RowKit

set_option maxHeartbeats 4000000 in
theorem l9Box_any (C D : Option Addr) (e f j : Nat) (p l : List Int) (w : World) (hp : In w C e p) (hl : In w D f l) (hp8 : p.length ≤ 8) (hl8 : l.length ≤ 8) (hm : ∀ x ∈ l, 1 ≤ x ∧ x ≤ p.length) (hj : j < p.length) :
    Calls Try.prog 147 #[.slice C p.length e, .slice D l.length f, .int .i64 ((j : Int) + 1)] w (Ret (Value.int .i64) 3 w [(colN l ((j : Int) + 1) : Int), (rowN p l p[j] : Int)]) := by
  go_enter Try.func147, Try.ntmps147
  go_wp2_with fail
  go_loopw [7, 8, 9] (fun x y i wr => ∃ u : Nat, u ≤ l.length ∧ i = .int .i64 u ∧ x = .int .i64 (cntTo (fun k => decide (k < (j : Int) + 1)) l u : Nat) ∧ y = .int .i64 (cntTo (fun k => decide (nth p (k - 1) < p[j])) l u : Nat) ∧ Dr w wr) (fun _ _ i _ => l.length - (intOf i).toNat)
  case atStart => exact ⟨0, Nat.zero_le _, rfl, rfl, rfl, Dr.refl _⟩
  case round =>
    obtain ⟨u, hu, rfl, rfl, rfl, hd⟩ := hrel
    have hx1 := cntTo_le (fun k => decide (k < (j : Int) + 1)) l u
    have hy1 := cntTo_le (fun k => decide (nth p (k - 1) < p[j])) l u
    rcases Nat.lt_or_ge u l.length with hul | hug
    · obtain ⟨bl, ol, rfl, _, hcl⟩ := (hl.dr hd).rd (by omega)
      obtain ⟨bp, op, rfl, _, hcp⟩ := (hp.dr hd).rd (by omega)
      have hxl := hm l[u] (List.getElem_mem hul)
      obtain ⟨cu, hcu⟩ : ∃ cu : Nat, (cu : Int) + 1 = l[u] := ⟨(l[u] - 1).toNat, by omega⟩
      have hcup : cu < p.length := by omega
      have g1 := hcl u hul
      have g2 := hcp cu hcup
      have g3 := hcp j hj
      rw [← hcu] at g1
      have HX := Lib.hid (show decide (l[u] < (j : Int) + 1) = decide ((cu : Int) + 1 < (j : Int) + 1) by rw [hcu])
      have HY := Lib.hid (show decide (nth p (l[u] - 1) < p[j]) = decide (p[cu] < p[j]) by
        rw [← hcu]; unfold nth; rw [Int.add_sub_cancel, Int.toNat_natCast, List.getElem?_eq_getElem hcup]; rfl)
      have e1 : IntKind.i64.wrap ((cu : Int) + 1 - 1) = (cu : Int) := by rw [Int.add_sub_cancel]; exact IntWalk.i64_in _ (by omega)
      have e2 : IntKind.i64.wrap ((j : Int) + 1 - 1) = (j : Int) := by rw [Int.add_sub_cancel]; exact IntWalk.i64_in _ (by omega)
      have e3 : (cu : Int) < (p.length : Int) := by omega
      have e4 : (j : Int) < (p.length : Int) := by omega
      have e5 : (u : Int) < (l.length : Int) := by omega
      have w1 : IntKind.i64.wrap (((cntTo (fun k => decide (nth p (k - 1) < p[j])) l u : Nat) : Int) + 1) = ((cntTo (fun k => decide (nth p (k - 1) < p[j])) l u : Nat) : Int) + 1 := IntWalk.i64_in _ (by omega)
      have w2 : IntKind.i64.wrap (((cntTo (fun k => decide (nth p (k - 1) < p[j])) l u : Nat) : Int) + 0) = ((cntTo (fun k => decide (nth p (k - 1) < p[j])) l u : Nat) : Int) := by rw [Int.add_zero]; exact IntWalk.i64_in _ (by omega)
      clear hcl hcp hxl hcu
      go_wp2_with fail
      by_cases hx : (cu : Int) + 1 < (j : Int) + 1
      case' pos =>
        have KX := Lib.hid (cntTo_yes (H := fun k => decide (k < (j : Int) + 1)) hul (by show decide (l[u] < (j : Int) + 1) = true; rw [HX.out]; exact decide_eq_true hx))
        (with_reducible refine (l1Bit_b _ 1 wr (by first | rw [if_pos (decide_eq_true hx)] | (simp; omega))).mono ?_)
        rintro e w' ⟨rfl, rfl⟩
        go_wp2_with fail
      case' neg =>
        have KX := Lib.hid (cntTo_no (H := fun k => decide (k < (j : Int) + 1)) hul (by show decide (l[u] < (j : Int) + 1) = false; rw [HX.out]; exact decide_eq_false hx))
        (with_reducible refine (l1Bit_b _ 0 wr (by first | (rw [decide_eq_false hx]; rfl) | (simp; omega))).mono ?_)
        rintro e w' ⟨rfl, rfl⟩
        go_wp2_with fail
      all_goals
        clear hx
        by_cases hy : p[cu] < p[j]
        · have KY := Lib.hid (cntTo_yes (H := fun k => decide (nth p (k - 1) < p[j])) hul (by show decide (nth p (l[u] - 1) < p[j]) = true; rw [HY.out]; exact decide_eq_true hy))
          have DY := Lib.hid (show (if decide (p[cu] < p[j]) = true then (1 : Int) else 0) = 1 by rw [if_pos (decide_eq_true hy)])
          clear hy
          go_quiet ((go_at_call 91; exact quiet_eq (l1Bit_b _ 1 _ DY.out)))
          go_wp2_with fail
          go_roundw
          case rel => exact ⟨u + 1, by omega, by go_num, by rw [KX.out]; all_goals go_num, by rw [KY.out]; all_goals go_num, (by first | with_reducible assumption | with_reducible exact hd | with_reducible exact Dr.drewN hd _ | with_reducible exact Dr.drewN (Dr.drewN hd _) _ | with_reducible exact Dr.drew hd)⟩
          case measure => simp [intOf]; omega
        · have KY := Lib.hid (cntTo_no (H := fun k => decide (nth p (k - 1) < p[j])) hul (by show decide (nth p (l[u] - 1) < p[j]) = false; rw [HY.out]; exact decide_eq_false hy))
          have DY := Lib.hid (show (if decide (p[cu] < p[j]) = true then (1 : Int) else 0) = 0 by rw [decide_eq_false hy]; rfl)
          clear hy
          go_quiet ((go_at_call 91; exact quiet_eq (l1Bit_b _ 0 _ DY.out)))
          go_wp2_with fail
          go_roundw
          case rel => exact ⟨u + 1, by omega, by go_num, by rw [KX.out]; all_goals go_num, by rw [KY.out]; all_goals go_num, (by first | with_reducible assumption | with_reducible exact hd | with_reducible exact Dr.drewN hd _ | with_reducible exact Dr.drewN (Dr.drewN hd _) _ | with_reducible exact Dr.drew hd)⟩
          case measure => simp [intOf]; omega
    · obtain rfl : u = l.length := by omega
      have KX := Lib.hid (colN_cnt l ((j : Int) + 1))
      have KY := Lib.hid (rowN_cnt p l p[j])
      rw [KX.out, KY.out]
      have hszd : w.heap.size = wr.heap.size := by rw [hd.heap]
      have HZ := Lib.hid hszd
      have hfin : (wr.alloc (Obj.cells #[.int .i64 (colN l ((j : Int) + 1) : Nat), .int .i64 (rowN p l p[j] : Nat)] 3)).ownsRow w.heap.size 3 1 (.slice (some ⟨wr.heap.size, 0, none⟩) 2 2) 2 ([(colN l ((j : Int) + 1) : Int), (rowN p l p[j] : Int)].map (Value.int .i64)) :=
        World.ownsRow_lit wr #[.int .i64 (colN l ((j : Int) + 1) : Nat), .int .i64 (rowN p l p[j] : Nat)] 2 (by omega) (by unfold maxLen; omega) rfl
      have hbf := (below_dr (Below.refl w.heap.size w) hd).alloc (by omega) (Obj.cells #[.int .i64 (colN l ((j : Int) + 1) : Nat), .int .i64 (rowN p l p[j] : Nat)] 3)
      clear hszd
      go_wp2_with fail
      go_ret
      exact ⟨_, 2, rfl, Nat.le_refl _, by unfold maxLen; omega, hfin, hbf⟩
set_option maxHeartbeats 8000000 in
theorem l9Fits_b (C D B : Option Addr) (e f k : Nat) (rs : List Row) (p l : List Int) (w : World) (b : Bool) (hp : In w C e p) (hl : In w D f l) (hr : InL w B k rs) (h2 : ∀ r ∈ rs, r.xs.length = 2) (hp8 : p.length ≤ 8) (hl8 : l.length ≤ 8)
    (hm : ∀ x ∈ l, 1 ≤ x ∧ x ≤ p.length) (hb : freeB p l (rs.map Row.xs) = b) :
    Calls Try.prog 128 #[.slice C p.length e, .slice D l.length f, .slice B rs.length k] w (Rb w (.bool b)) := by
  have HB := Lib.hid hb
  have hrl := hr.len
  have H22 := Lib.hid h2
  clear hb h2
  go_enter Try.func128, Try.ntmps128
  go_wp2_with fail
  go_loopw [7] (fun i wr => ∃ j : Nat, j ≤ p.length ∧ i = .int .i64 ((j : Int) + 1) ∧ Hid (freeTo p l (rs.map Row.xs) j = true) ∧ Below w.heap.size w wr) (fun i _ => p.length + 1 - (intOf i).toNat)
  case atStart => exact ⟨0, Nat.zero_le _, rfl, Lib.hid rfl, Below.refl _ _⟩
  case round =>
    obtain ⟨j, hj, rfl, HF, hb⟩ := hrel
    rcases Nat.lt_or_ge j p.length with hlt | hge
    · have hl1 := (hl.next hb).rd
      have HS := Lib.hid (freeTo_succ p l (rs.map Row.xs) j)
      have hnj : nth p (j : Int) = p[j] := by unfold nth; rw [Int.toNat_natCast, List.getElem?_eq_getElem hlt]; rfl
      have HNJ := Lib.hid hnj
      clear hnj
      go_wp2_with fail
      by_cases hmem : ((j : Int) + 1) ∈ l
      · have HT := Lib.hid (show freeTo p l (rs.map Row.xs) (j + 1) = true by rw [HS.out, HF.out]; unfold freeAt; rw [decide_eq_true hmem]; rfl)
        (with_reducible refine (l2Has_b D f l.length l ((j : Int) + 1) wr true rfl (by omega) hl1 (decide_eq_true hmem)).mono ?_)
        rintro e w' ⟨rfl, rfl⟩
        clear hmem
        go_wp2_with fail
        go_roundw
        case rel => exact ⟨j + 1, by omega, by go_num, HT, hb⟩
        case measure => simp [intOf]; omega
      · have HFA := Lib.hid (show freeAt p l (rs.map Row.xs) j = !shB (rs.map Row.xs) (colN l ((j : Int) + 1)) (rowN p l p[j]) by unfold freeAt; rw [decide_eq_false hmem, HNJ.out]; rfl)
        (with_reducible refine (l2Has_b D f l.length l ((j : Int) + 1) wr false rfl (by omega) hl1 (decide_eq_false hmem)).mono ?_)
        rintro e w' ⟨rfl, rfl⟩
        clear hmem
        go_wp2_with fail
        (with_reducible refine (l9Box_any C D _ f j p l wr (hp.next hb) (hl.next hb) hp8 hl8 hm hlt).mono ?_)
        rintro e w1 ⟨A1, c1, rfl, q1, q2, own1, hb1⟩
        have hbw := hb.trans (hb1.mono hb.size)
        have hrb := Rd.of_own own1
        obtain ⟨wo, rfl⟩ : ∃ wo : World, wo = wr := ⟨_, rfl⟩
        obtain ⟨bx, hbx⟩ : ∃ bx, bx = [(colN l ((j : Int) + 1) : Int), (rowN p l p[j] : Int)] := ⟨_, rfl⟩
        rw [← hbx] at hrb
        have HBX := Lib.hid hbx
        have HSH := Lib.hid (show shB (rs.map Row.xs) (colN l ((j : Int) + 1)) (rowN p l p[j]) = rs.any fun r : Row => decide (r.xs = bx) by
          unfold shB; rw [any_rows rs (fun s => decide (s = bx)), hbx])
        clear own1 q1 q2 hbx
        go_wp2_with fail
        go_loopw [9] (fun i wr => ∃ u : Nat, u ≤ rs.length ∧ i = .int .i64 u ∧ Hid ((rs.take u).any (fun r : Row => decide (r.xs = bx)) = false) ∧ Dr w1 wr) (fun i _ => rs.length - (intOf i).toNat)
        case atStart => exact ⟨0, Nat.zero_le _, rfl, Lib.hid rfl, Dr.refl _⟩
        case round =>
          obtain ⟨u, hu, rfl, HN, hd⟩ := hrel
          rcases Nat.lt_or_ge u rs.length with hul | hug
          · have hL := (hr.next hbw).dr hd
            obtain ⟨b', off, rfl, _, hc⟩ := hL.read.at (by omega)
            have cc := hc u hul
            have hrow := (hL.row (List.getElem_mem hul)).rd
            have hl22 : rs[u].xs.length ≤ 4611686018427387904 := by have := H22.out _ (List.getElem_mem hul); omega
            have hszd : wr.heap.size = w1.heap.size := by rw [hd.heap]
            have hrb2 : Rd (Value.int .i64) wr wr.heap.size A1 bx := (hrb.dr hd).more (by omega)
            have hbl := Lib.hid (show bx.length = 2 by rw [HBX.out]; rfl)
            clear hc hszd
            go_wp2_with fail
            by_cases he : rs[u].xs = bx
            · have HE := Lib.hid (show freeB p l (rs.map Row.xs) = false from freeTo_false hlt (by rw [HFA.out, HSH.out, any_at hul (decide_eq_true he)]; rfl))
              (with_reducible refine (l2Same_b rs[u].A A1 rs[u].c c1 rs[u].xs.length 2 rs[u].xs bx wr true rfl hbl.out hl22 hrow hrb2 (decide_eq_true he)).mono ?_)
              rintro e w2 ⟨rfl, hd2⟩
              clear he
              go_wp2_with fail
              go_ret
              exact ⟨ret_bool (by rw [← HB.out, HE.out]), below_dr (below_dr hbw hd) hd2⟩
            · have HT := Lib.hid (show (rs.take (u + 1)).any (fun r : Row => decide (r.xs = bx)) = false from any_take_false HN.out hul (decide_eq_false he))
              (with_reducible refine (l2Same_b rs[u].A A1 rs[u].c c1 rs[u].xs.length 2 rs[u].xs bx wr false rfl hbl.out hl22 hrow hrb2 (decide_eq_false he)).mono ?_)
              rintro e w2 ⟨rfl, hd2⟩
              clear he
              go_wp2_with fail
              go_roundw
              case rel => exact ⟨u + 1, by omega, by go_num, HT, hd.trans hd2⟩
              case measure => simp [intOf]; omega
          · have HT := Lib.hid (show freeTo p l (rs.map Row.xs) (j + 1) = true by
              have h1 := HN.out
              rw [List.take_of_length_le hug] at h1
              rw [HS.out, HF.out, HFA.out, HSH.out, h1]; rfl)
            have hbz := below_dr hbw hd
            go_wp2_with fail
            go_roundw
            case rel => exact ⟨j + 1, by omega, by go_num, HT, hbz⟩
            case measure => simp [intOf]; omega
    · obtain rfl : j = p.length := by omega
      go_wp2_with fail
      go_ret
      exact ⟨ret_bool (by rw [← HB.out]; exact HF.out.symm), hb⟩
set_option maxHeartbeats 8000000 in
theorem l9Count_any (C : Option Addr) (e : Nat) (p : List Int) (A B : Option Addr) (c k : Nat) (xs : List Int) (rs : List Row) (w : World) (hp : In w C e p) (h : InM w A c xs B k rs) (h2 : ∀ r ∈ rs, r.xs.length = 2) (hP : permB p = true) (hQ : permB xs = true) :
    Calls Try.prog 85 #[.slice C p.length e, .agg #[.slice A xs.length c, .slice B rs.length k]] w (Rb w (.int .i64 (cntM p xs (rs.map Row.xs) : Nat))) := by
  have hp8 := (permB_true hP).1
  have hx8 := (permB_true hQ).1
  have HOC := Lib.hid (occ_eq hP hQ)
  have H22 := Lib.hid h2
  clear hP hQ h2
  go_enter Try.func85, Try.ntmps85
  have hb0 : Below w.heap.size w (w.alloc (Obj.cells #[Value.slice A xs.length c, Value.slice B rs.length k] 27)) := (Below.refl _ _).alloc (Nat.le_refl _) _
  have ob := obj_new w (Obj.cells #[Value.slice A xs.length c, Value.slice B rs.length k] 27)
  have hz0 : (w.alloc (Obj.cells #[Value.slice A xs.length c, Value.slice B rs.length k] 27)).heap.size = w.heap.size + 1 := by simp
  have FR := Lib.hid (find_root C A e c p xs (w.alloc (Obj.cells #[Value.slice A xs.length c, Value.slice B rs.length k] 27)) (hp.next hb0) (h.1.next hb0) hp8 hx8)
  rw [hz0] at FR
  have HZ := Lib.hid hz0
  clear hz0
  go_wp2_with fail
  (with_reducible refine FR.out.mono ?_)
  rintro e w1 ⟨A3, c3, ls, rfl, hX, hO, hb1⟩
  rw [HOC.out] at hX
  have ob := obj_below ob hb1 (obj_lt ob)
  have hb := hb0.trans (hb1.mono hb0.size)
  have hRd := hO.read
  have hlen : ls.length ≤ 16777216 := by
    have h1 := List.length_filter_le (fun l => decide (patL (atL p l) = xs)) (ascI p.length xs.length)
    have h2 := ascI_le p.length xs.length
    have h3 := pow_eight hp8 hx8
    have h4 := congrArg List.length hX
    rw [List.length_map] at h4
    unfold occI at h4
    omega
  have HX := Lib.hid hX
  clear hX hO hb1 hb0 FR
  go_wp2_with fail
  go_loopw [5, 7] (fun s i wr => ∃ j : Nat, j ≤ ls.length ∧ i = .int .i64 j ∧ s = .int .i64 (cntTo (fun r : Row => freeB p r.xs (rs.map Row.xs)) ls j : Nat) ∧ wr.heap[w.heap.size]? = some (Obj.cells #[Value.slice A xs.length c, Value.slice B rs.length k] 27) ∧ Below w1.heap.size w1 wr) (fun _ i _ => ls.length - (intOf i).toNat)
  case atStart => exact ⟨0, Nat.zero_le _, rfl, rfl, ob, Below.refl _ _⟩
  case round =>
    clear ob
    obtain ⟨j, hj, rfl, rfl, ob, hb4⟩ := hrel
    have hle := cntTo_le (fun r : Row => freeB p r.xs (rs.map Row.xs)) ls j
    have hsz4 := hb4.size
    rcases Nat.lt_or_ge j ls.length with hlt | hge
    · have hbd : Below w1.heap.size w1 wr.drew := below_dr hb4 (Dr.refl _).drew
      have hRd2 : Read wr.drew wr.drew.heap.size ls [⟨A3, c3, ls.map Row.v⟩] := (hRd.below hbd).more hbd.size
      obtain ⟨b, off, rfl, _, hc⟩ := hRd2.at (by omega)
      have cc : wr.cell? ⟨b, off + j, none⟩ = some (Value.slice ls[j].A ls[j].xs.length ls[j].c) := hc j hlt
      have ccd := hc j hlt
      have hmem := ascI_mem (List.mem_filter.1 (map_memX HX.out (List.getElem_mem hlt))).1
      have hml : ls[j].xs.length = xs.length := hmem.1
      have hlim : ∀ x ∈ ls[j].xs, 1 ≤ x ∧ x ≤ p.length := fun x hx => by have := hmem.2.1 x hx; omega
      have hl8 : ls[j].xs.length ≤ 8 := by omega
      have hin := row_in hRd2 (List.getElem_mem hlt) (by omega) (Nat.le_refl _)
      have hb5 := hb.trans (hbd.mono hb.size)
      have f1 : wr.cell? ⟨w.heap.size, 1, none⟩ = some (Value.slice B rs.length k) := (obj_cell ob).trans rfl
      have f1d : wr.drew.cell? ⟨w.heap.size, 1, none⟩ = some (Value.slice B rs.length k) := (obj_cell ob).trans rfl
      have hM : InM wr.drew A c xs B k rs := h.next hb5
      have hp2 := hp.next hb5
      have obd : wr.drew.heap[w.heap.size]? = some (Obj.cells #[Value.slice A xs.length c, Value.slice B rs.length k] 27) := ob
      have i0 : (0 : Int) ≤ (j : Int) := Int.natCast_nonneg _
      have i1 : (j : Int) < (ls.length : Int) := by omega
      clear hc hmem hml
      by_cases hH : freeB p ls[j].xs (rs.map Row.xs) = true
      · have HT := Lib.hid (cntTo_yes (H := fun r : Row => freeB p r.xs (rs.map Row.xs)) hlt hH)
        have HHB := Lib.hid hH
        have e1 : IntKind.i64.wrap (((cntTo (fun r : Row => freeB p r.xs (rs.map Row.xs)) ls j : Nat) : Int) + 1) = ((cntTo (fun r : Row => freeB p r.xs (rs.map Row.xs)) ls j : Nat) : Int) + 1 := IntWalk.i64_in _ (by omega)
        clear hH
        go_wp2_with fail
        go_region_held3 (fun v => v.cell? ⟨b, off + j, none⟩ = some (Value.slice ls[j].A ls[j].xs.length ls[j].c) ∧ v.cell? ⟨w.heap.size, 1, none⟩ = some (Value.slice B rs.length k)) (first | exact ⟨ccd, f1d⟩ | exact ⟨cc2, f12⟩)
          ((first | (go_at_call 128; (with_reducible refine (l9Fits_b C ls[j].A B _ ls[j].c k rs p ls[j].xs wr.drew true hp2 hin hM.2 H22.out hp8 hl8 hlim HHB.out).mono ?_); rintro e w2 ⟨rfl, hb6⟩; have ob1 := obj_below obd hb6 (obj_lt obd); have f12 : w2.cell? ⟨w.heap.size, 1, none⟩ = some (Value.slice B rs.length k) := (obj_cell ob1).trans rfl; have cc2 := (hRd2.below hb6).cellAt j hlt) | (go_at_call 91; (with_reducible refine (l1Bit_b true 1 _ rfl).mono ?_); rintro e w' ⟨rfl, rfl⟩)))
        clear cc2 f12
        go_wp2_with fail
        go_roundw
        case rel => exact ⟨j + 1, by omega, by go_num, by rw [HT.out]; all_goals go_num, ob1, hbd.trans (hb6.mono hbd.size)⟩
        case measure => simp [intOf]; omega
      · have hHf : freeB p ls[j].xs (rs.map Row.xs) = false := by simpa using hH
        have HT := Lib.hid (cntTo_no (H := fun r : Row => freeB p r.xs (rs.map Row.xs)) hlt hHf)
        have HHB := Lib.hid hHf
        have e1 : IntKind.i64.wrap (((cntTo (fun r : Row => freeB p r.xs (rs.map Row.xs)) ls j : Nat) : Int) + 0) = ((cntTo (fun r : Row => freeB p r.xs (rs.map Row.xs)) ls j : Nat) : Int) := by rw [Int.add_zero]; exact IntWalk.i64_in _ (by omega)
        have e2 : IntKind.i64.wrap ((cntTo (fun r : Row => freeB p r.xs (rs.map Row.xs)) ls j : Nat) : Int) = ((cntTo (fun r : Row => freeB p r.xs (rs.map Row.xs)) ls j : Nat) : Int) := IntWalk.i64_in _ (by omega)
        clear hH hHf
        go_wp2_with fail
        go_region_held3 (fun v => v.cell? ⟨b, off + j, none⟩ = some (Value.slice ls[j].A ls[j].xs.length ls[j].c) ∧ v.cell? ⟨w.heap.size, 1, none⟩ = some (Value.slice B rs.length k)) (first | exact ⟨ccd, f1d⟩ | exact ⟨cc2, f12⟩)
          ((first | (go_at_call 128; (with_reducible refine (l9Fits_b C ls[j].A B _ ls[j].c k rs p ls[j].xs wr.drew false hp2 hin hM.2 H22.out hp8 hl8 hlim HHB.out).mono ?_); rintro e w2 ⟨rfl, hb6⟩; have ob1 := obj_below obd hb6 (obj_lt obd); have f12 : w2.cell? ⟨w.heap.size, 1, none⟩ = some (Value.slice B rs.length k) := (obj_cell ob1).trans rfl; have cc2 := (hRd2.below hb6).cellAt j hlt) | (go_at_call 91; (with_reducible refine (l1Bit_b false 0 _ rfl).mono ?_); rintro e w' ⟨rfl, rfl⟩)))
        clear cc2 f12
        go_wp2_with fail
        go_roundw
        case rel => exact ⟨j + 1, by omega, by go_num, by rw [HT.out]; all_goals go_num, ob1, hbd.trans (hb6.mono hbd.size)⟩
        case measure => simp [intOf]; omega
    · obtain rfl : j = ls.length := by omega
      have HE := Lib.hid (show cntTo (fun r : Row => freeB p r.xs (rs.map Row.xs)) ls ls.length = cntM p xs (rs.map Row.xs) by
        rw [cntTo_all]; unfold cntM; rw [← HX.out, List.filter_map, List.length_map]; rfl)
      go_wp2_with fail
      go_ret
      exact ⟨ret_int (by rw [HE.out]), hb.trans (hb4.mono hb.size)⟩
set_option maxHeartbeats 2000000 in
theorem countMesh_spec (C : Option Addr) (e : Nat) (p : List Int) (A B : Option Addr) (c k : Nat) (xs : List Int) (rs : List Row) (w : World) (hp : In w C e p) (h : InM w A c xs B k rs) :
    Calls Try.prog 15 #[.slice C p.length e, .agg #[.slice A xs.length c, .slice B rs.length k]] w (Rb w (.int .i64 (cmG p xs (rs.map Row.xs)))) := by
  go_enter Try.func15, Try.ntmps15
  have hb0 : Below w.heap.size w (w.alloc (Obj.cells #[Value.slice A xs.length c, Value.slice B rs.length k] 27)) := (Below.refl _ _).alloc (Nat.le_refl _) _
  have ob := obj_new w (Obj.cells #[Value.slice A xs.length c, Value.slice B rs.length k] 27)
  go_wp2_with fail
  generalize (w.alloc (Obj.cells #[Value.slice A xs.length c, Value.slice B rs.length k] 27)) = w0 at hb0 ob ⊢
  by_cases hP : permB p = true
  · have H1 := Lib.hid hP
    have hp8 := (permB_true hP).1
    (with_reducible refine (isPerm_sb C e p w0 true (hp.next hb0) hP).mono ?_)
    rintro e w1 ⟨rfl, hd1⟩
    have ob := obj_dr ob hd1
    have hb := below_dr hb0 hd1
    have f0 : w1.cell? ⟨w.heap.size, 0, none⟩ = some (Value.slice A xs.length c) := (obj_cell ob).trans rfl
    have f1 : w1.cell? ⟨w.heap.size, 1, none⟩ = some (Value.slice B rs.length k) := (obj_cell ob).trans rfl
    clear hP
    go_wp2_with fail
    by_cases hM : meshB xs (rs.map Row.xs) = true
    · have HG := Lib.hid (show cmG p xs (rs.map Row.xs) = (cntM p xs (rs.map Row.xs) : Int) by unfold cmG; rw [if_pos ⟨H1.out, hM⟩])
      have HM := Lib.hid hM
      have h2 := rows_two hM
      (with_reducible refine (mesh_sb A B c k xs rs w1 true (h.next hb) hM).mono ?_)
      rintro e w2 ⟨rfl, hb2⟩
      have ob := obj_below ob hb2 (obj_lt ob)
      have hb := hb.trans (hb2.mono hb.size)
      have f0 : w2.cell? ⟨w.heap.size, 0, none⟩ = some (Value.slice A xs.length c) := (obj_cell ob).trans rfl
      have f1 : w2.cell? ⟨w.heap.size, 1, none⟩ = some (Value.slice B rs.length k) := (obj_cell ob).trans rfl
      clear hM
      go_wp2_with fail
      (with_reducible refine (l9Count_any C _ p A B c k xs rs w2 (hp.next hb) (h.next hb) h2 H1.out (mesh_perm HM.out).1).mono ?_)
      rintro e w3 ⟨rfl, hb3⟩
      go_wp2_with fail
      go_ret
      exact ⟨ret_int (by rw [HG.out]), hb.trans (hb3.mono hb.size)⟩
    · have hMf : meshB xs (rs.map Row.xs) = false := by simpa using hM
      have HG := Lib.hid (show cmG p xs (rs.map Row.xs) = -1 by unfold cmG; rw [if_neg]; exact fun h => hM h.2)
      (with_reducible refine (mesh_sb A B c k xs rs w1 false (h.next hb) hMf).mono ?_)
      rintro e w2 ⟨rfl, hb2⟩
      clear hM hMf
      go_wp2_with fail
      go_ret
      exact ⟨ret_int (by rw [HG.out]), hb.trans (hb2.mono hb.size)⟩
  · have hPf : permB p = false := by simpa using hP
    have HG := Lib.hid (show cmG p xs (rs.map Row.xs) = -1 by unfold cmG; rw [if_neg]; exact fun h => hP h.1)
    (with_reducible refine (isPerm_sb C e p w0 false (hp.next hb0) hPf).mono ?_)
    rintro e w1 ⟨rfl, hd1⟩
    clear hP hPf
    go_wp2_with fail
    go_ret
    exact ⟨ret_int (by rw [HG.out]), below_dr hb0 hd1⟩
end Go.Proofs.Ythipikllgpnlhaa

/- CanShade, program and reference. -/
namespace Go.Proofs.Ythipikllgpnlhaa
set_option maxRecDepth 100000
open Go Go.RowKit

theorem shB_congr {X Y : List (List Int)} (h : ∀ s, s ∈ X ↔ s ∈ Y) (x y : Int) : shB X x y = shB Y x y := by
  unfold shB
  rw [Bool.eq_iff_iff, List.any_eq_true, List.any_eq_true]
  constructor
  · rintro ⟨s, hs, e⟩; exact ⟨s, (h s).1 hs, e⟩
  · rintro ⟨s, hs, e⟩; exact ⟨s, (h s).2 hs, e⟩
theorem cntM_congr {X Y : List (List Int)} (h : ∀ s, s ∈ X ↔ s ∈ Y) (p q : List Int) : cntM p q X = cntM p q Y := by
  unfold cntM
  congr 1
  apply List.filter_congr
  intro l _
  unfold freeB freeTo
  congr 1
  funext i
  unfold freeAt
  rw [shB_congr h]
theorem shB_mem (X : List (List Int)) (x y : Int) : shB X x y = decide ([x, y] ∈ X) := by
  unfold shB
  rw [Bool.eq_iff_iff, List.any_eq_true, decide_eq_true_eq]
  constructor
  · rintro ⟨s, hs, e⟩; rw [← of_decide_eq_true e]; exact hs
  · intro h; exact ⟨_, h, decide_eq_true rfl⟩

def inBox (n : Nat) (x y : Int) : Bool := decide (0 ≤ x ∧ x ≤ n ∧ 0 ≤ y ∧ y ≤ n)
def canAt (xs : List Int) (X Y : List (List Int)) (p : List Int) : Bool := decide (0 < cntM p xs X) == decide (0 < cntM p xs Y)
def canN (xs : List Int) (X Y : List (List Int)) (n : Nat) : Bool := (permsL n).all (canAt xs X Y)
def canTo (xs : List Int) (X Y : List (List Int)) (n : Nat) : Bool := (List.range n).all (canN xs X Y)
def csB (xs : List Int) (X : List (List Int)) (x y : Int) : Bool := meshB xs X && inBox xs.length x y && !shB X x y && canTo xs X (X ++ [[x, y]]) 6
theorem canTo_succ (xs : List Int) (X Y : List (List Int)) (n : Nat) : canTo xs X Y (n + 1) = (canTo xs X Y n && canN xs X Y n) := by simp [canTo, List.range_succ]
theorem canTo_false {xs : List Int} {X Y : List (List Int)} {n m : Nat} (h : n < m) (h1 : canN xs X Y n = false) : canTo xs X Y m = false := by
  unfold canTo
  rw [List.all_eq_false]
  exact ⟨n, List.mem_range.2 h, by simp [h1]⟩
theorem canTo_congr {xs : List Int} {X Y Z : List (List Int)} (h : ∀ s, s ∈ Y ↔ s ∈ Z) (n : Nat) : canTo xs X Y n = canTo xs X Z n := by
  unfold canTo canN
  congr 1
  funext k
  congr 1
  funext p
  unfold canAt
  rw [cntM_congr h]
theorem sizeR_two {rs : List Row} (h : ∀ r ∈ rs, r.xs.length = 2) : sizeR rs = 2 * rs.length := by
  induction rs with
  | nil => rfl
  | cons a t ih =>
    have h1 := h a (by simp)
    have h2 := ih (fun r hr => h r (by simp [hr]))
    simp only [sizeR, List.map_cons, List.sum_cons, List.length_cons] at h2 ⊢
    omega
section
variable {w wc w4 wx : World} {A B : Option Addr} {c k base : Nat} {xs : List Int} {rs : List Row} {x y : Int} {g bl cap n : Nat}
theorem more_leaf (hown4 : w4.ownsRow base 24 1 (.slice (some ⟨g, 0, none⟩) (rs.length + 1) cap) (rs.length + 1) (rs.map Row.v ++ [Value.slice (some ⟨bl, 0, none⟩) 2 2])) (hrow4 : w4.heap[bl]? = some (.cells #[.int .i64 x, .int .i64 y] 3 (0, 0)))
    (hR : Read wc wc.heap.size rs [⟨B, k, rs.map Row.v⟩]) (hB : Below wc.heap.size wc wx)
    (hk : ∀ (q : Nat) (cs : Array Value) (t : TypeId), t ≠ 27 → w4.heap[q]? = some (.cells cs t (0, 0)) → wx.heap[q]? = some (.cells cs t (0, 0))) :
    Read wx wx.heap.size (rs ++ [(⟨some ⟨bl, 0, none⟩, 2, [x, y]⟩ : Row)]) [⟨some ⟨g, 0, none⟩, cap, (rs ++ [(⟨some ⟨bl, 0, none⟩, 2, [x, y]⟩ : Row)]).map Row.v⟩] := by
  have hrx := hk _ _ _ (by decide) hrow4
  have hox : wx.ownsRow base 24 1 (.slice (some ⟨g, 0, none⟩) (rs.length + 1) cap) (rs.length + 1) (rs.map Row.v ++ [Value.slice (some ⟨bl, 0, none⟩) 2 2]) := by
    refine ⟨hown4.1, ?_⟩
    rcases hown4.2 with ⟨e, _⟩ | ⟨g', cap', cur, hv, hg, hh, r⟩
    · cases e
    · exact .inr ⟨g', cap', cur, hv, hg, hk _ _ _ (by decide) hh, r⟩
  have he : (rs ++ [(⟨some ⟨bl, 0, none⟩, 2, [x, y]⟩ : Row)]).map Row.v = rs.map Row.v ++ [Value.slice (some ⟨bl, 0, none⟩) 2 2] := by simp [Row.v]
  refine ⟨fun r hr => ?_, fun r hr => ?_, fun o ho => ?_, fun o ho => ?_⟩
  · rcases List.mem_append.1 hr with hr | hr
    · exact hR.cap r hr
    · obtain rfl := List.mem_singleton.1 hr
      exact Nat.le_refl _
  · rcases List.mem_append.1 hr with hr | hr
    · exact ((hR.rd r hr).below hB).more hB.size
    · obtain rfl := List.mem_singleton.1 hr
      refine fun _ => ⟨bl, 0, rfl, obj_lt hrx, fun j hj => ?_⟩
      rw [Nat.zero_add, obj_cell hrx]
      match j, hj with
      | 0, _ => rfl
      | 1, _ => rfl
  · obtain rfl := List.mem_singleton.1 ho
    have := (own_caps hox).1
    simpa using this
  · obtain rfl := List.mem_singleton.1 ho
    have hl : (rs.map Row.v ++ [Value.slice (some ⟨bl, 0, none⟩) 2 2]).length = rs.length + 1 := by simp
    have := Rd.of_own (f := id) (xs := rs.map Row.v ++ [Value.slice (some ⟨bl, 0, none⟩) 2 2]) (e := 24) (c := cap) (A := some ⟨g, 0, none⟩) (by rw [List.map_id, hl]; exact hox)
    simp only [he]
    exact this
/-- What CanShade's second mesh is, behind the statement that makes it. -/
def MoreAt (w : World) (A B : Option Addr) (c k : Nat) (xs : List Int) (rs : List Row) (x y : Int) (s7 : Value) (wx : World) : Prop :=
  ∃ (g : Nat) (A' : Option Addr) (c' : Nat) (ms : List Row), s7 = .pointer (some ⟨g, 0, none⟩) ∧ wx.heap[g]? = some (Obj.cells #[Value.slice A xs.length c, Value.slice A' ms.length c'] 27) ∧ (∀ s, s ∈ ms.map Row.xs ↔ s ∈ rs.map Row.xs ++ [[x, y]]) ∧ ms.length = rs.length + 1 ∧ Read wx wx.heap.size ms [⟨A', c', ms.map Row.v⟩] ∧ wx.heap[w.heap.size]? = some (Obj.cells #[Value.slice A xs.length c, Value.slice B rs.length k] 27) ∧ Below w.heap.size w wx
theorem leaf_alloc (hown4 : w4.ownsRow base 24 1 (.slice (some ⟨g, 0, none⟩) (rs.length + 1) cap) (rs.length + 1) (rs.map Row.v ++ [Value.slice (some ⟨bl, 0, none⟩) 2 2])) (hrow4 : w4.heap[bl]? = some (.cells #[.int .i64 x, .int .i64 y] 3 (0, 0)))
    (hR : Read wc wc.heap.size rs [⟨B, k, rs.map Row.v⟩]) (hb4 : Below wc.heap.size wc w4) (hb : Below w.heap.size w wc) (ob : wc.heap[w.heap.size]? = some (Obj.cells #[Value.slice A xs.length c, Value.slice B rs.length k] 27)) :
    MoreAt w A B c k xs rs x y (.pointer (some ⟨w4.heap.size, 0, none⟩)) (w4.alloc (Obj.cells #[Value.slice A xs.length c, Value.slice (some ⟨g, 0, none⟩) (rs.length + 1) cap] 27)) := by
  have hbx := hb4.alloc hb4.size (Obj.cells #[Value.slice A xs.length c, Value.slice (some ⟨g, 0, none⟩) (rs.length + 1) cap] 27)
  refine ⟨w4.heap.size, some ⟨g, 0, none⟩, cap, rs ++ [⟨some ⟨bl, 0, none⟩, 2, [x, y]⟩], rfl, ?_, fun s => by simp, by simp, more_leaf hown4 hrow4 hR hbx (fun q cs t _ h => obj_alloc h _), obj_alloc (obj_below ob hb4 (obj_lt ob)) _, hb.trans (hbx.mono hb.size)⟩
  rw [List.length_append]; exact obj_new _ _
theorem leaf_set {G : Nat} {z0 z1 : Value} (hz4 : w4.heap[G]? = some (.cells #[z0, z1] 27 (0, 0))) (hG : wc.heap.size ≤ G) (hown4 : w4.ownsRow base 24 1 (.slice (some ⟨g, 0, none⟩) (rs.length + 1) cap) (rs.length + 1) (rs.map Row.v ++ [Value.slice (some ⟨bl, 0, none⟩) 2 2])) (hrow4 : w4.heap[bl]? = some (.cells #[.int .i64 x, .int .i64 y] 3 (0, 0)))
    (hR : Read wc wc.heap.size rs [⟨B, k, rs.map Row.v⟩]) (hb4 : Below wc.heap.size wc w4) (hb : Below w.heap.size w wc) (ob : wc.heap[w.heap.size]? = some (Obj.cells #[Value.slice A xs.length c, Value.slice B rs.length k] 27)) :
    MoreAt w A B c k xs rs x y (.pointer (some ⟨G, 0, none⟩)) ((w4.setCell ⟨G, 0, none⟩ (Value.slice A xs.length c)).setCell ⟨G, 1, none⟩ (Value.slice (some ⟨g, 0, none⟩) (rs.length + 1) cap)) := by
  have hbx := (hb4.setCell (p := ⟨G, 0, none⟩) hG (Value.slice A xs.length c)).setCell (p := ⟨G, 1, none⟩) hG (Value.slice (some ⟨g, 0, none⟩) (rs.length + 1) cap)
  have hlt := obj_lt ob
  refine ⟨G, some ⟨g, 0, none⟩, cap, rs ++ [⟨some ⟨bl, 0, none⟩, 2, [x, y]⟩], rfl, ?_, fun s => by simp, by simp, more_leaf hown4 hrow4 hR hbx (fun q cs t ht h => ?_), obj_other (obj_other (obj_below ob hb4 hlt) (by omega) _) (by omega) _, hb.trans (hbx.mono hb.size)⟩
  · rw [List.length_append]; exact obj_set (i := 1) (obj_set (i := 0) hz4 _) _
  · have hne : G ≠ q := fun e => by
      subst e
      rw [hz4] at h
      injection h with h
      injection h with _ h2 _
      exact ht h2.symm
    exact obj_other (obj_other h hne _) hne _
end
set_option maxHeartbeats 8000000 in
theorem canShade_impl (A B : Option Addr) (c k : Nat) (xs : List Int) (rs : List Row) (x : Int) (wx : -9223372036854775808 ≤ x ∧ x ≤ 9223372036854775807) (y : Int) (wy : -9223372036854775808 ≤ y ∧ y ≤ 9223372036854775807) (w : World) (h : InM w A c xs B k rs) :
    Calls Try.prog 69 #[.agg #[.slice A xs.length c, .slice B rs.length k], .int .i64 x, .int .i64 y] w (Rb w (.bool (csB xs (rs.map Row.xs) x y))) := by
  obtain ⟨j0, hj, hy0, hy1, hy2⟩ := info_parts infoL
  go_enter Try.func69, Try.ntmps69
  have hb0 : Below w.heap.size w (w.alloc (Obj.cells #[Value.slice A xs.length c, Value.slice B rs.length k] 27)) := (Below.refl _ _).alloc (Nat.le_refl _) _
  have ob := obj_new w (Obj.cells #[Value.slice A xs.length c, Value.slice B rs.length k] 27)
  have f00 : (w.alloc (Obj.cells #[Value.slice A xs.length c, Value.slice B rs.length k] 27)).cell? ⟨w.heap.size, 0, none⟩ = some (Value.slice A xs.length c) := (obj_cell ob).trans rfl
  have f01 : (w.alloc (Obj.cells #[Value.slice A xs.length c, Value.slice B rs.length k] 27)).cell? ⟨w.heap.size, 1, none⟩ = some (Value.slice B rs.length k) := (obj_cell ob).trans rfl
  go_upto_region 1 with fail
  generalize (w.alloc (Obj.cells #[Value.slice A xs.length c, Value.slice B rs.length k] 27)) = w0 at hb0 ob f00 f01 ⊢
  go_cut [34] (fun s wq => s = .bool (!(meshB xs (rs.map Row.xs) && inBox xs.length x y && !shB (rs.map Row.xs) x y)) ∧ wq.heap[w.heap.size]? = some (Obj.cells #[Value.slice A xs.length c, Value.slice B rs.length k] 27) ∧ Below w.heap.size w wq)
  case first =>
    go_wp2_with fail
    by_cases hM : meshB xs (rs.map Row.xs) = true
    · have H1 := Lib.hid hM
      have H2 := Lib.hid (rows_two hM)
      (with_reducible refine (mesh_ib A B c k xs rs w0 true (h.next hb0) hM).mono ?_)
      rintro e w1 ⟨rfl, hb1⟩
      have ob := obj_below ob hb1 (obj_lt ob)
      have hb := hb0.trans (hb1.mono hb0.size)
      have f10 : w1.cell? ⟨w.heap.size, 0, none⟩ = some (Value.slice A xs.length c) := (obj_cell ob).trans rfl
      have f11 : w1.cell? ⟨w.heap.size, 1, none⟩ = some (Value.slice B rs.length k) := (obj_cell ob).trans rfl
      clear hM f00 f01
      by_cases hyx : y < x
      · have hxy : ¬ x < y := by omega
        by_cases h1 : y < 0
        · have d1 : decide (y < 0) = true := decide_eq_true h1
          have HI := Lib.hid (show inBox xs.length x y = false by unfold inBox; exact decide_eq_false (by omega))
          go_wp2_with fail
          go_meet
          case rel => exact ⟨by rw [H1.out, HI.out]; rfl, ob, hb⟩
        · have d1 : decide (y < 0) = false := decide_eq_false h1
          by_cases h2 : (xs.length : Int) < x
          · have d2 : decide ((xs.length : Int) < x) = true := decide_eq_true h2
            have HI := Lib.hid (show inBox xs.length x y = false by unfold inBox; exact decide_eq_false (by omega))
            go_wp2_with fail
            go_meet
            case rel => exact ⟨by rw [H1.out, HI.out]; rfl, ob, hb⟩
          · have d2 : decide ((xs.length : Int) < x) = false := decide_eq_false h2
            have HI := Lib.hid (show inBox xs.length x y = true by unfold inBox; exact decide_eq_true (by omega))
            go_wp2_with fail
            (with_reducible refine (isShaded_b A B c k xs rs x y w1 _ (h.next hb) H2.out rfl).mono ?_)
            rintro e w2 ⟨rfl, hb2⟩
            have ob := obj_below ob hb2 (obj_lt ob)
            go_wp2_with fail
            go_meet
            case rel => exact ⟨by rw [H1.out, HI.out]; simp, ob, hb.trans (hb2.mono hb.size)⟩
      · by_cases hxy : x < y
        · have hxy' := hxy
          by_cases h1 : x < 0
          · have d1 : decide (x < 0) = true := decide_eq_true h1
            have HI := Lib.hid (show inBox xs.length x y = false by unfold inBox; exact decide_eq_false (by omega))
            go_wp2_with fail
            go_meet
            case rel => exact ⟨by rw [H1.out, HI.out]; rfl, ob, hb⟩
          · have d1 : decide (x < 0) = false := decide_eq_false h1
            by_cases h2 : (xs.length : Int) < y
            · have d2 : decide ((xs.length : Int) < y) = true := decide_eq_true h2
              have HI := Lib.hid (show inBox xs.length x y = false by unfold inBox; exact decide_eq_false (by omega))
              go_wp2_with fail
              go_meet
              case rel => exact ⟨by rw [H1.out, HI.out]; rfl, ob, hb⟩
            · have d2 : decide ((xs.length : Int) < y) = false := decide_eq_false h2
              have HI := Lib.hid (show inBox xs.length x y = true by unfold inBox; exact decide_eq_true (by omega))
              go_wp2_with fail
              (with_reducible refine (isShaded_b A B c k xs rs x y w1 _ (h.next hb) H2.out rfl).mono ?_)
              rintro e w2 ⟨rfl, hb2⟩
              have ob := obj_below ob hb2 (obj_lt ob)
              go_wp2_with fail
              go_meet
              case rel => exact ⟨by rw [H1.out, HI.out]; simp, ob, hb.trans (hb2.mono hb.size)⟩
        · have hee : y = x := by omega
          subst hee
          by_cases h1 : y < 0
          · have d1 : decide (y < 0) = true := decide_eq_true h1
            have HI := Lib.hid (show inBox xs.length y y = false by unfold inBox; exact decide_eq_false (by omega))
            go_wp2_with fail
            go_meet
            case rel => exact ⟨by rw [H1.out, HI.out]; rfl, ob, hb⟩
          · have d1 : decide (y < 0) = false := decide_eq_false h1
            by_cases h2 : (xs.length : Int) < y
            · have d2 : decide ((xs.length : Int) < y) = true := decide_eq_true h2
              have HI := Lib.hid (show inBox xs.length y y = false by unfold inBox; exact decide_eq_false (by omega))
              go_wp2_with fail
              go_meet
              case rel => exact ⟨by rw [H1.out, HI.out]; rfl, ob, hb⟩
            · have d2 : decide ((xs.length : Int) < y) = false := decide_eq_false h2
              have HI := Lib.hid (show inBox xs.length y y = true by unfold inBox; exact decide_eq_true (by omega))
              go_wp2_with fail
              (with_reducible refine (isShaded_b A B c k xs rs y y w1 _ (h.next hb) H2.out rfl).mono ?_)
              rintro e w2 ⟨rfl, hb2⟩
              have ob := obj_below ob hb2 (obj_lt ob)
              go_wp2_with fail
              go_meet
              case rel => exact ⟨by rw [H1.out, HI.out]; simp, ob, hb.trans (hb2.mono hb.size)⟩
    · have hMf : meshB xs (rs.map Row.xs) = false := by simpa using hM
      have H1 := Lib.hid hMf
      (with_reducible refine (mesh_ib A B c k xs rs w0 false (h.next hb0) hMf).mono ?_)
      rintro e w1 ⟨rfl, hb1⟩
      have ob := obj_below ob hb1 (obj_lt ob)
      clear hM hMf f00 f01
      go_wp2_with fail
      go_meet
      case rel => exact ⟨by rw [H1.out]; rfl, ob, hb0.trans (hb1.mono hb0.size)⟩
  case rest =>
    obtain ⟨rfl, ob, hb⟩ := hcut
    by_cases hA : (meshB xs (rs.map Row.xs) && inBox xs.length x y && !shB (rs.map Row.xs) x y) = true
    · have HA := Lib.hid hA
      have hM : meshB xs (rs.map Row.xs) = true := by rw [Bool.and_eq_true, Bool.and_eq_true] at hA; exact hA.1.1
      have hx4 := (mesh_perm hM).2
      have HP1 := Lib.hid (mesh_perm hM).1
      have H2 := Lib.hid (rows_two hM)
      have hl25 := mesh_len hM
      rw [List.length_map] at hl25
      rw [hA]
      have HG := Lib.hid (show csB xs (rs.map Row.xs) x y = canTo xs (rs.map Row.xs) (rs.map Row.xs ++ [[x, y]]) 6 by unfold csB; rw [HA.out, Bool.true_and])
      clear hA hM
      go_upto_region 3 with fail
      have f10 : wc.cell? ⟨w.heap.size, 0, none⟩ = some (Value.slice A xs.length c) := (obj_cell ob).trans rfl
      have f11 : wc.cell? ⟨w.heap.size, 1, none⟩ = some (Value.slice B rs.length k) := (obj_cell ob).trans rfl
      have hbs := hb.size
      have hblt := obj_lt ob
      have hr0 : Rd Row.v wc wc.heap.size B rs := read_rows (h.next hb).2.read
      have hrn : rs.length ≤ 1048576 := by omega
      have KB : ∀ (v v' : World), (v.cell? ⟨w.heap.size, 0, none⟩ = some (Value.slice A xs.length c) ∧ v.cell? ⟨w.heap.size, 1, none⟩ = some (Value.slice B rs.length k) ∧ Below wc.heap.size wc v) → Below v.heap.size v v' → (v'.cell? ⟨w.heap.size, 0, none⟩ = some (Value.slice A xs.length c) ∧ v'.cell? ⟨w.heap.size, 1, none⟩ = some (Value.slice B rs.length k) ∧ Below wc.heap.size wc v') := fun v v' hv hvv => by
        have hs := hv.2.2.size
        exact ⟨(hvv.cell (p := ⟨w.heap.size, 0, none⟩) (by show w.heap.size < v.heap.size; omega)).trans hv.1, (hvv.cell (p := ⟨w.heap.size, 1, none⟩) (by show w.heap.size < v.heap.size; omega)).trans hv.2.1, hv.2.2.trans (hvv.mono hs)⟩
      have RB : ∀ (v : World), (v.cell? ⟨w.heap.size, 0, none⟩ = some (Value.slice A xs.length c) ∧ v.cell? ⟨w.heap.size, 1, none⟩ = some (Value.slice B rs.length k) ∧ Below wc.heap.size wc v) → Rd Row.v v v.heap.size B rs := fun v hv => (hr0.below hv.2.2).more hv.2.2.size
      have SB : ∀ (v : World), (v.cell? ⟨w.heap.size, 0, none⟩ = some (Value.slice A xs.length c) ∧ v.cell? ⟨w.heap.size, 1, none⟩ = some (Value.slice B rs.length k) ∧ Below wc.heap.size wc v) → wc.heap.size ≤ v.heap.size := fun v hv => hv.2.2.size
      have KG : ∀ (v v' : World) (row : Option Nat), (v.cell? ⟨w.heap.size, 0, none⟩ = some (Value.slice A xs.length c) ∧ v.cell? ⟨w.heap.size, 1, none⟩ = some (Value.slice B rs.length k) ∧ Below wc.heap.size wc v) → v.grownBy v' row → (∀ g, row = some g → wc.heap.size ≤ g) → (v'.cell? ⟨w.heap.size, 0, none⟩ = some (Value.slice A xs.length c) ∧ v'.cell? ⟨w.heap.size, 1, none⟩ = some (Value.slice B rs.length k) ∧ Below wc.heap.size wc v') := fun v v' row hv hg hr => by
        have hs := hv.2.2.size
        exact ⟨(World.cell?_of_block (a := ⟨w.heap.size, 0, none⟩) (hg.block _ (show w.heap.size < v.heap.size by omega) (fun e => by have : wc.heap.size ≤ w.heap.size := hr _ e.symm; omega))).trans hv.1, (World.cell?_of_block (a := ⟨w.heap.size, 1, none⟩) (hg.block _ (show w.heap.size < v.heap.size by omega) (fun e => by have : wc.heap.size ≤ w.heap.size := hr _ e.symm; omega))).trans hv.2.1, hv.2.2.grown hg hs hr⟩
      have KS : ∀ (v : World) (G : Nat) (a b : Value), (v.cell? ⟨w.heap.size, 0, none⟩ = some (Value.slice A xs.length c) ∧ v.cell? ⟨w.heap.size, 1, none⟩ = some (Value.slice B rs.length k) ∧ Below wc.heap.size wc v) → wc.heap.size ≤ G → (((v.setCell ⟨G, 0, none⟩ a).setCell ⟨G, 1, none⟩ b).cell? ⟨w.heap.size, 0, none⟩ = some (Value.slice A xs.length c) ∧ ((v.setCell ⟨G, 0, none⟩ a).setCell ⟨G, 1, none⟩ b).cell? ⟨w.heap.size, 1, none⟩ = some (Value.slice B rs.length k) ∧ Below wc.heap.size wc ((v.setCell ⟨G, 0, none⟩ a).setCell ⟨G, 1, none⟩ b)) := fun v G a b hv hG => by
        refine ⟨?_, ?_, (hv.2.2.setCell (p := ⟨G, 0, none⟩) hG a).setCell (p := ⟨G, 1, none⟩) hG b⟩
        · refine ((World.cell?_setCell_other _ _ _ _ (fun e => by injection e with e; omega)).trans (World.cell?_setCell_other _ _ _ _ (fun e => by injection e with e; omega))).trans hv.1
        · refine ((World.cell?_setCell_other _ _ _ _ (fun e => by injection e with e; omega)).trans (World.cell?_setCell_other _ _ _ _ (fun e => by injection e with e; omega))).trans hv.2.1
      have KSH := Lib.hid KS
      have KGH := Lib.hid KG
      have KBH := Lib.hid KB
      have RBH := Lib.hid RB
      have SBH := Lib.hid SB
      clear KB RB SB KG KS
      have hR0 := (h.next hb).2.read
      go_cut [7] (fun s7 wx => MoreAt w A B c k xs rs x y s7 wx)
      case first =>
        have hS0 : wc.drew.cell? ⟨w.heap.size, 0, none⟩ = some (Value.slice A xs.length c) ∧ wc.drew.cell? ⟨w.heap.size, 1, none⟩ = some (Value.slice B rs.length k) ∧ Below wc.heap.size wc wc.drew := ⟨f10, f11, below_dr (Below.refl _ _) (Dr.refl _).drew⟩
        go_region_held3 (fun v => v.cell? ⟨w.heap.size, 0, none⟩ = some (Value.slice A xs.length c) ∧ v.cell? ⟨w.heap.size, 1, none⟩ = some (Value.slice B rs.length k) ∧ Below wc.heap.size wc v)
          (first
            | exact hS0
            | exact hS4
            | exact KSH.out _ _ _ _ hS4 hG
            | exact KBH.out _ _ (by assumption) hbq
            | exact KBH.out _ _ (by assumption) ((Below.refl _ _).alloc (Nat.le_refl _) _))
          ((first
            | (go_at_call 117
               (with_reducible refine (cloneL_any B k rs _ hrn (RBH.out _ (by assumption))).mono ?_)
               rintro e wq ⟨A', c', rfl, ownq0, hbq⟩
               have ownq := own_mono ownq0 (SBH.out _ (by assumption))
               clear ownq0)
            | (refine step_append_liesX _ (by rfl) _ _ _ (by rfl) wc.heap.size 24 j0 (.slice none 0 0) 1 24 Try.underlying25 hj hy0 hy1 hy2 rfl (by decide) (Value.slice A' rs.length c') rs.length (rs.map Row.v) (by rfl) (by ((repeat (first | exact ownq | refine World.ownsRow.alloc ?_ _ | fail)); first | done | fail)) _ _ _ [_] (by rfl) (by rfl) (World.news_of_block (cs := #[_]) (t := 24) (fr := (0, 0)) (by ((repeat (first | exact obj_newH (by (simp; first | done | fail)) | refine obj_belowS ?_ hbq | refine obj_alloc ?_ _ | fail)); first | done | fail))) (by intro u hu; simp at hu; subst hu; rfl) (by omega) (by unfold maxLen; omega) (by omega) (by have := SBH.out _ (by assumption); omega) _ (by rfl) ?_
               intro g cap w4 hownV hown4 hgrow4 hat4 hlt4
               have hS4 := KGH.out _ _ _ (by assumption) hgrow4 (fun q hq => (hownV.lt q hq).1)
               have hrow4 := rowfact (cs := #[.int .i64 x, .int .i64 y]) (t := 3) hown4 hgrow4 hownV (by decide) (by ((repeat (first | exact obj_newH (by (simp; first | done | fail)) | refine obj_belowS ?_ hbq | refine obj_alloc ?_ _ | fail)); first | done | fail))
               try (first
                 | (have hz4 := obj_grownT (G := wc.heap.size) (cs := #[.slice none 0 0, .slice none 0 0]) (t := 27) (by ((repeat (first | exact obj_newH (by (simp; first | done | fail)) | refine obj_belowS ?_ hbq | refine obj_alloc ?_ _ | fail)); first | done | fail)) hownV (by decide) hgrow4; have hG : wc.heap.size ≤ wc.heap.size := by (first | omega | (have h1 := hbq.size; simp at h1 ⊢; omega)))
                 | (have hz4 := obj_grownT (G := wc.heap.size + 1) (cs := #[.slice none 0 0, .slice none 0 0]) (t := 27) (by ((repeat (first | exact obj_newH (by (simp; first | done | fail)) | refine obj_belowS ?_ hbq | refine obj_alloc ?_ _ | fail)); first | done | fail)) hownV (by decide) hgrow4; have hG : wc.heap.size ≤ wc.heap.size + 1 := by (first | omega | (have h1 := hbq.size; simp at h1 ⊢; omega)))
                 | (have hz4 := obj_grownT (G := wc.heap.size + 2) (cs := #[.slice none 0 0, .slice none 0 0]) (t := 27) (by ((repeat (first | exact obj_newH (by (simp; first | done | fail)) | refine obj_belowS ?_ hbq | refine obj_alloc ?_ _ | fail)); first | done | fail)) hownV (by decide) hgrow4; have hG : wc.heap.size ≤ wc.heap.size + 2 := by (first | omega | (have h1 := hbq.size; simp at h1 ⊢; omega)))
                 | (have hz4 := obj_grownT (G := wq.heap.size) (cs := #[.slice none 0 0, .slice none 0 0]) (t := 27) (by ((repeat (first | exact obj_newH (by (simp; first | done | fail)) | refine obj_belowS ?_ hbq | refine obj_alloc ?_ _ | fail)); first | done | fail)) hownV (by decide) hgrow4; have hG : wc.heap.size ≤ wq.heap.size := by (first | omega | (have h1 := hbq.size; simp at h1 ⊢; omega)))
                 | (have hz4 := obj_grownT (G := wq.heap.size + 1) (cs := #[.slice none 0 0, .slice none 0 0]) (t := 27) (by ((repeat (first | exact obj_newH (by (simp; first | done | fail)) | refine obj_belowS ?_ hbq | refine obj_alloc ?_ _ | fail)); first | done | fail)) hownV (by decide) hgrow4; have hG : wc.heap.size ≤ wq.heap.size + 1 := by (first | omega | (have h1 := hbq.size; simp at h1 ⊢; omega)))
                 | (have hz4 := obj_grownT (G := wq.heap.size + 2) (cs := #[.slice none 0 0, .slice none 0 0]) (t := 27) (by ((repeat (first | exact obj_newH (by (simp; first | done | fail)) | refine obj_belowS ?_ hbq | refine obj_alloc ?_ _ | fail)); first | done | fail)) hownV (by decide) hgrow4; have hG : wc.heap.size ≤ wq.heap.size + 2 := by (first | omega | (have h1 := hbq.size; simp at h1 ⊢; omega)))
                 | fail)
               try (have cz0 := obj_cell (i := 0) hz4; have cz1 := obj_cell (i := 1) hz4; have fz0 := obj_frozen (i := 0) hz4; have fz1 := obj_frozen (i := 1) hz4))
            | fail))
        all_goals
          go_wp2_with fail
          go_meet
          case rel => first | exact leaf_alloc hown4 hrow4 hR0 hS4.2.2 hb ob | exact leaf_set hz4 hG hown4 hrow4 hR0 hS4.2.2 hb ob
      case rest =>
        obtain ⟨g1, A', c', ms, rfl, ob1, hms, hml, hRm, ob, hb⟩ := hcut
        have HMS := Lib.hid hms
        have H2m := Lib.hid (show ∀ r ∈ ms, r.xs.length = 2 from fun r hr => by
          rcases List.mem_append.1 ((hms _).1 (List.mem_map.2 ⟨r, hr, rfl⟩)) with h1 | h1
          · obtain ⟨q, hq, he⟩ := List.mem_map.1 h1
            rw [← he]; exact H2.out q hq
          · rw [List.mem_singleton.1 h1]; rfl)
        have hM0 := h.next hb
        have hM1 : InM wc A c xs A' c' ms := ⟨hM0.1, ⟨by rw [sizeR_two H2m.out]; omega, hRm⟩⟩
        have HCN := Lib.hid (fun p => cntM_congr (X := ms.map Row.xs) hms p xs)
        clear hms hRm hml
        go_wp2_with fail
        go_loopw [46] (fun i wr => ∃ n : Nat, n ≤ 6 ∧ i = .int .i64 n ∧ Hid (canTo xs (rs.map Row.xs) (rs.map Row.xs ++ [[x, y]]) n = true) ∧ wr.heap[w.heap.size]? = some (Obj.cells #[Value.slice A xs.length c, Value.slice B rs.length k] 27) ∧ wr.heap[g1]? = some (Obj.cells #[Value.slice A xs.length c, Value.slice A' ms.length c'] 27) ∧ Below wc.heap.size wc wr) (fun i _ => 6 - (intOf i).toNat)
        case atStart => exact ⟨0, Nat.zero_le _, rfl, Lib.hid rfl, ob, ob1, Below.refl _ _⟩
        case round =>
          clear ob ob1
          obtain ⟨n, hn, rfl, HT, ob, ob1, hbr⟩ := hrel
          rcases Nat.lt_or_ge n 6 with hlt | hge
          · have hn6 : n ≤ 6 := hn
            have HCS := Lib.hid (canTo_succ xs (rs.map Row.xs) (rs.map Row.xs ++ [[x, y]]) n)
            go_wp2_with fail
            (with_reducible refine (perms_impl n wr hn6).mono ?_)
            rintro e w1 ⟨A1, c1, ps, rfl, hX, hO, hb1⟩
            have ob := obj_below ob hb1 (obj_lt ob)
            have ob1 := obj_below ob1 hb1 (obj_lt ob1)
            have hbw := hbr.trans (hb1.mono hbr.size)
            have hRp := hO.read
            have hpl : ps.length ≤ 46656 := by have h1 := permsL_le hn6; rw [← hX, List.length_map] at h1; exact h1
            have HX := Lib.hid hX
            clear hX hO hb1
            go_wp2_with fail
            go_loopw [52] (fun i wr => ∃ j : Nat, j ≤ ps.length ∧ i = .int .i64 j ∧ Hid ((ps.take j).all (fun r : Row => canAt xs (rs.map Row.xs) (rs.map Row.xs ++ [[x, y]]) r.xs) = true) ∧ wr.heap[w.heap.size]? = some (Obj.cells #[Value.slice A xs.length c, Value.slice B rs.length k] 27) ∧ wr.heap[g1]? = some (Obj.cells #[Value.slice A xs.length c, Value.slice A' ms.length c'] 27) ∧ Below w1.heap.size w1 wr) (fun i _ => ps.length - (intOf i).toNat)
            case atStart => exact ⟨0, Nat.zero_le _, rfl, Lib.hid rfl, ob, ob1, Below.refl _ _⟩
            case round =>
              clear ob ob1
              obtain ⟨j, hj, rfl, HJ, ob, ob1, hbj⟩ := hrel
              rcases Nat.lt_or_ge j ps.length with hjl | hjg
              · have hRp2 := hRp.below hbj
                obtain ⟨bp, op, rfl, _, hcp⟩ := hRp2.at (by omega)
                have cp := hcp j hjl
                have hpm := map_memX HX.out (List.getElem_mem hjl)
                have hp8 : ps[j].xs.length ≤ 8 := by have := (permsI_mem hpm).1; omega
                have hbd : Below wr.heap.size wr wr.drew := below_dr (Below.refl _ _) (Dr.refl _).drew
                have hbD := (hbw.trans (hbj.mono hbw.size))
                have hin := row_in ((hRp2.dr (w' := wr.drew) (Dr.refl _).drew)) (List.getElem_mem hjl) (by omega) hbj.size
                have hM0d := hM0.next (hbD.trans (hbd.mono hbD.size))
                have hM1d := hM1.next (hbD.trans (hbd.mono hbD.size))
                have HALL := Lib.hid (show ∀ b : Bool, canAt xs (rs.map Row.xs) (rs.map Row.xs ++ [[x, y]]) ps[j].xs = b → (ps.take (j + 1)).all (fun r : Row => canAt xs (rs.map Row.xs) (rs.map Row.xs ++ [[x, y]]) r.xs) = b from fun b hb => by rw [List.take_succ_eq_append_getElem hjl, List.all_append, HJ.out, ← hb]; simp)
                have HCA := Lib.hid (show canAt xs (rs.map Row.xs) (rs.map Row.xs ++ [[x, y]]) ps[j].xs = (decide (0 < cntM ps[j].xs xs (rs.map Row.xs)) == decide (0 < cntM ps[j].xs xs (ms.map Row.xs))) by unfold canAt; rw [HCN.out])
                clear hcp hpm
                go_upto_region 10 with fail
                go_cut [64] (fun s wq => s = .bool (!canAt xs (rs.map Row.xs) (rs.map Row.xs ++ [[x, y]]) ps[j].xs) ∧ wq.heap[w.heap.size]? = some (Obj.cells #[Value.slice A xs.length c, Value.slice B rs.length k] 27) ∧ wq.heap[g1]? = some (Obj.cells #[Value.slice A xs.length c, Value.slice A' ms.length c'] 27) ∧ Below wr.heap.size wr wq)
                case first =>
                  have ob0d : wr.drew.heap[w.heap.size]? = some (Obj.cells #[Value.slice A xs.length c, Value.slice B rs.length k] 27) := ob
                  have ob1d : wr.drew.heap[g1]? = some (Obj.cells #[Value.slice A xs.length c, Value.slice A' ms.length c'] 27) := ob1
                  have d00 : wr.drew.cell? ⟨w.heap.size, 0, none⟩ = some (Value.slice A xs.length c) := (obj_cell ob0d).trans rfl
                  have d01 : wr.drew.cell? ⟨w.heap.size, 1, none⟩ = some (Value.slice B rs.length k) := (obj_cell ob0d).trans rfl
                  have d10 : wr.drew.cell? ⟨g1, 0, none⟩ = some (Value.slice A xs.length c) := (obj_cell ob1d).trans rfl
                  have d11 : wr.drew.cell? ⟨g1, 1, none⟩ = some (Value.slice A' ms.length c') := (obj_cell ob1d).trans rfl
                  have hx8 : xs.length ≤ 8 := by omega
                  by_cases ha : 0 < cntM ps[j].xs xs (rs.map Row.xs)
                  · have ea : decide (0 < cntM ps[j].xs xs (rs.map Row.xs)) = true := decide_eq_true ha
                    have ea' : decide (((cntM ps[j].xs xs (rs.map Row.xs) : Nat) : Int) > 0) = true := decide_eq_true (by omega)
                    by_cases hb' : 0 < cntM ps[j].xs xs (ms.map Row.xs)
                    · have eb : decide (0 < cntM ps[j].xs xs (ms.map Row.xs)) = true := decide_eq_true hb'
                      have eb' : decide (((cntM ps[j].xs xs (ms.map Row.xs) : Nat) : Int) > 0) = true := decide_eq_true (by omega)
                      have HCB := Lib.hid (show canAt xs (rs.map Row.xs) ((rs.map Row.xs) ++ [[x, y]]) ps[j].xs = true by rw [HCA.out, ea, eb]; rfl)
                      clear ha hb'
                      go_region_held3 (fun v => v.cell? ⟨w.heap.size, 0, none⟩ = some (Value.slice A xs.length c) ∧ v.cell? ⟨w.heap.size, 1, none⟩ = some (Value.slice B rs.length k) ∧ v.cell? ⟨g1, 0, none⟩ = some (Value.slice A xs.length c) ∧ v.cell? ⟨g1, 1, none⟩ = some (Value.slice A' ms.length c')) (first | exact ⟨d00, d01, d10, d11⟩ | exact ⟨e00, e01, e10, e11⟩ | exact ⟨f00, f01, f10, f11⟩) ((first | (go_at_call 75; (with_reducible refine (count_impl A B c k xs rs ps[j].A ps[j].c ps[j].xs wr.drew hM0d H2.out hin hp8 hx8).mono ?_); rintro e w2 ⟨rfl, hb2⟩; have ob02 := obj_below ob0d hb2 (obj_lt ob0d); have ob12 := obj_below ob1d hb2 (obj_lt ob1d); have e00 : w2.cell? ⟨w.heap.size, 0, none⟩ = some (Value.slice A xs.length c) := (obj_cell ob02).trans rfl; have e01 : w2.cell? ⟨w.heap.size, 1, none⟩ = some (Value.slice B rs.length k) := (obj_cell ob02).trans rfl; have e10 : w2.cell? ⟨g1, 0, none⟩ = some (Value.slice A xs.length c) := (obj_cell ob12).trans rfl; have e11 : w2.cell? ⟨g1, 1, none⟩ = some (Value.slice A' ms.length c') := (obj_cell ob12).trans rfl) | (go_at_call 75; (with_reducible refine (count_impl A A' c c' xs ms ps[j].A ps[j].c ps[j].xs wr.drew hM1d H2m.out hin hp8 hx8).mono ?_); rintro e w2 ⟨rfl, hb2⟩; have ob02 := obj_below ob0d hb2 (obj_lt ob0d); have ob12 := obj_below ob1d hb2 (obj_lt ob1d); have e00 : w2.cell? ⟨w.heap.size, 0, none⟩ = some (Value.slice A xs.length c) := (obj_cell ob02).trans rfl; have e01 : w2.cell? ⟨w.heap.size, 1, none⟩ = some (Value.slice B rs.length k) := (obj_cell ob02).trans rfl; have e10 : w2.cell? ⟨g1, 0, none⟩ = some (Value.slice A xs.length c) := (obj_cell ob12).trans rfl; have e11 : w2.cell? ⟨g1, 1, none⟩ = some (Value.slice A' ms.length c') := (obj_cell ob12).trans rfl) | (go_at_call 75; (with_reducible refine (count_impl A B c k xs rs ps[j].A ps[j].c ps[j].xs w2 (hM0d.next hb2) H2.out (hin.next hb2) hp8 hx8).mono ?_); rintro e w3 ⟨rfl, hb3⟩; have ob03 := obj_below ob02 hb3 (obj_lt ob02); have ob13 := obj_below ob12 hb3 (obj_lt ob12); have f00 : w3.cell? ⟨w.heap.size, 0, none⟩ = some (Value.slice A xs.length c) := (obj_cell ob03).trans rfl; have f01 : w3.cell? ⟨w.heap.size, 1, none⟩ = some (Value.slice B rs.length k) := (obj_cell ob03).trans rfl; have f10 : w3.cell? ⟨g1, 0, none⟩ = some (Value.slice A xs.length c) := (obj_cell ob13).trans rfl; have f11 : w3.cell? ⟨g1, 1, none⟩ = some (Value.slice A' ms.length c') := (obj_cell ob13).trans rfl) | (go_at_call 75; (with_reducible refine (count_impl A A' c c' xs ms ps[j].A ps[j].c ps[j].xs w2 (hM1d.next hb2) H2m.out (hin.next hb2) hp8 hx8).mono ?_); rintro e w3 ⟨rfl, hb3⟩; have ob03 := obj_below ob02 hb3 (obj_lt ob02); have ob13 := obj_below ob12 hb3 (obj_lt ob12); have f00 : w3.cell? ⟨w.heap.size, 0, none⟩ = some (Value.slice A xs.length c) := (obj_cell ob03).trans rfl; have f01 : w3.cell? ⟨w.heap.size, 1, none⟩ = some (Value.slice B rs.length k) := (obj_cell ob03).trans rfl; have f10 : w3.cell? ⟨g1, 0, none⟩ = some (Value.slice A xs.length c) := (obj_cell ob13).trans rfl; have f11 : w3.cell? ⟨g1, 1, none⟩ = some (Value.slice A' ms.length c') := (obj_cell ob13).trans rfl) | fail))
                      all_goals
                        go_wp2_with fail
                        go_meet
                        case rel => exact ⟨by rw [HCB.out]; rfl, ob03, ob13, (hbd.trans (hb2.mono hbd.size)).trans (hb3.mono (hbd.trans (hb2.mono hbd.size)).size)⟩
                    · have eb : decide (0 < cntM ps[j].xs xs (ms.map Row.xs)) = false := decide_eq_false hb'
                      have eb' : decide (((cntM ps[j].xs xs (ms.map Row.xs) : Nat) : Int) > 0) = false := decide_eq_false (by omega)
                      have HCB := Lib.hid (show canAt xs (rs.map Row.xs) ((rs.map Row.xs) ++ [[x, y]]) ps[j].xs = false by rw [HCA.out, ea, eb]; rfl)
                      clear ha hb'
                      go_region_held3 (fun v => v.cell? ⟨w.heap.size, 0, none⟩ = some (Value.slice A xs.length c) ∧ v.cell? ⟨w.heap.size, 1, none⟩ = some (Value.slice B rs.length k) ∧ v.cell? ⟨g1, 0, none⟩ = some (Value.slice A xs.length c) ∧ v.cell? ⟨g1, 1, none⟩ = some (Value.slice A' ms.length c')) (first | exact ⟨d00, d01, d10, d11⟩ | exact ⟨e00, e01, e10, e11⟩ | exact ⟨f00, f01, f10, f11⟩) ((first | (go_at_call 75; (with_reducible refine (count_impl A B c k xs rs ps[j].A ps[j].c ps[j].xs wr.drew hM0d H2.out hin hp8 hx8).mono ?_); rintro e w2 ⟨rfl, hb2⟩; have ob02 := obj_below ob0d hb2 (obj_lt ob0d); have ob12 := obj_below ob1d hb2 (obj_lt ob1d); have e00 : w2.cell? ⟨w.heap.size, 0, none⟩ = some (Value.slice A xs.length c) := (obj_cell ob02).trans rfl; have e01 : w2.cell? ⟨w.heap.size, 1, none⟩ = some (Value.slice B rs.length k) := (obj_cell ob02).trans rfl; have e10 : w2.cell? ⟨g1, 0, none⟩ = some (Value.slice A xs.length c) := (obj_cell ob12).trans rfl; have e11 : w2.cell? ⟨g1, 1, none⟩ = some (Value.slice A' ms.length c') := (obj_cell ob12).trans rfl) | (go_at_call 75; (with_reducible refine (count_impl A A' c c' xs ms ps[j].A ps[j].c ps[j].xs wr.drew hM1d H2m.out hin hp8 hx8).mono ?_); rintro e w2 ⟨rfl, hb2⟩; have ob02 := obj_below ob0d hb2 (obj_lt ob0d); have ob12 := obj_below ob1d hb2 (obj_lt ob1d); have e00 : w2.cell? ⟨w.heap.size, 0, none⟩ = some (Value.slice A xs.length c) := (obj_cell ob02).trans rfl; have e01 : w2.cell? ⟨w.heap.size, 1, none⟩ = some (Value.slice B rs.length k) := (obj_cell ob02).trans rfl; have e10 : w2.cell? ⟨g1, 0, none⟩ = some (Value.slice A xs.length c) := (obj_cell ob12).trans rfl; have e11 : w2.cell? ⟨g1, 1, none⟩ = some (Value.slice A' ms.length c') := (obj_cell ob12).trans rfl) | (go_at_call 75; (with_reducible refine (count_impl A B c k xs rs ps[j].A ps[j].c ps[j].xs w2 (hM0d.next hb2) H2.out (hin.next hb2) hp8 hx8).mono ?_); rintro e w3 ⟨rfl, hb3⟩; have ob03 := obj_below ob02 hb3 (obj_lt ob02); have ob13 := obj_below ob12 hb3 (obj_lt ob12); have f00 : w3.cell? ⟨w.heap.size, 0, none⟩ = some (Value.slice A xs.length c) := (obj_cell ob03).trans rfl; have f01 : w3.cell? ⟨w.heap.size, 1, none⟩ = some (Value.slice B rs.length k) := (obj_cell ob03).trans rfl; have f10 : w3.cell? ⟨g1, 0, none⟩ = some (Value.slice A xs.length c) := (obj_cell ob13).trans rfl; have f11 : w3.cell? ⟨g1, 1, none⟩ = some (Value.slice A' ms.length c') := (obj_cell ob13).trans rfl) | (go_at_call 75; (with_reducible refine (count_impl A A' c c' xs ms ps[j].A ps[j].c ps[j].xs w2 (hM1d.next hb2) H2m.out (hin.next hb2) hp8 hx8).mono ?_); rintro e w3 ⟨rfl, hb3⟩; have ob03 := obj_below ob02 hb3 (obj_lt ob02); have ob13 := obj_below ob12 hb3 (obj_lt ob12); have f00 : w3.cell? ⟨w.heap.size, 0, none⟩ = some (Value.slice A xs.length c) := (obj_cell ob03).trans rfl; have f01 : w3.cell? ⟨w.heap.size, 1, none⟩ = some (Value.slice B rs.length k) := (obj_cell ob03).trans rfl; have f10 : w3.cell? ⟨g1, 0, none⟩ = some (Value.slice A xs.length c) := (obj_cell ob13).trans rfl; have f11 : w3.cell? ⟨g1, 1, none⟩ = some (Value.slice A' ms.length c') := (obj_cell ob13).trans rfl) | fail))
                      all_goals
                        go_wp2_with fail
                        go_meet
                        case rel => exact ⟨by rw [HCB.out]; rfl, ob03, ob13, (hbd.trans (hb2.mono hbd.size)).trans (hb3.mono (hbd.trans (hb2.mono hbd.size)).size)⟩
                  · have ea : decide (0 < cntM ps[j].xs xs (rs.map Row.xs)) = false := decide_eq_false ha
                    have ea' : decide (((cntM ps[j].xs xs (rs.map Row.xs) : Nat) : Int) > 0) = false := decide_eq_false (by omega)
                    by_cases hb' : 0 < cntM ps[j].xs xs (ms.map Row.xs)
                    · have eb : decide (0 < cntM ps[j].xs xs (ms.map Row.xs)) = true := decide_eq_true hb'
                      have eb' : decide (((cntM ps[j].xs xs (ms.map Row.xs) : Nat) : Int) > 0) = true := decide_eq_true (by omega)
                      have HCB := Lib.hid (show canAt xs (rs.map Row.xs) ((rs.map Row.xs) ++ [[x, y]]) ps[j].xs = false by rw [HCA.out, ea, eb]; rfl)
                      clear ha hb'
                      go_region_held3 (fun v => v.cell? ⟨w.heap.size, 0, none⟩ = some (Value.slice A xs.length c) ∧ v.cell? ⟨w.heap.size, 1, none⟩ = some (Value.slice B rs.length k) ∧ v.cell? ⟨g1, 0, none⟩ = some (Value.slice A xs.length c) ∧ v.cell? ⟨g1, 1, none⟩ = some (Value.slice A' ms.length c')) (first | exact ⟨d00, d01, d10, d11⟩ | exact ⟨e00, e01, e10, e11⟩ | exact ⟨f00, f01, f10, f11⟩) ((first | (go_at_call 75; (with_reducible refine (count_impl A B c k xs rs ps[j].A ps[j].c ps[j].xs wr.drew hM0d H2.out hin hp8 hx8).mono ?_); rintro e w2 ⟨rfl, hb2⟩; have ob02 := obj_below ob0d hb2 (obj_lt ob0d); have ob12 := obj_below ob1d hb2 (obj_lt ob1d); have e00 : w2.cell? ⟨w.heap.size, 0, none⟩ = some (Value.slice A xs.length c) := (obj_cell ob02).trans rfl; have e01 : w2.cell? ⟨w.heap.size, 1, none⟩ = some (Value.slice B rs.length k) := (obj_cell ob02).trans rfl; have e10 : w2.cell? ⟨g1, 0, none⟩ = some (Value.slice A xs.length c) := (obj_cell ob12).trans rfl; have e11 : w2.cell? ⟨g1, 1, none⟩ = some (Value.slice A' ms.length c') := (obj_cell ob12).trans rfl) | (go_at_call 75; (with_reducible refine (count_impl A A' c c' xs ms ps[j].A ps[j].c ps[j].xs wr.drew hM1d H2m.out hin hp8 hx8).mono ?_); rintro e w2 ⟨rfl, hb2⟩; have ob02 := obj_below ob0d hb2 (obj_lt ob0d); have ob12 := obj_below ob1d hb2 (obj_lt ob1d); have e00 : w2.cell? ⟨w.heap.size, 0, none⟩ = some (Value.slice A xs.length c) := (obj_cell ob02).trans rfl; have e01 : w2.cell? ⟨w.heap.size, 1, none⟩ = some (Value.slice B rs.length k) := (obj_cell ob02).trans rfl; have e10 : w2.cell? ⟨g1, 0, none⟩ = some (Value.slice A xs.length c) := (obj_cell ob12).trans rfl; have e11 : w2.cell? ⟨g1, 1, none⟩ = some (Value.slice A' ms.length c') := (obj_cell ob12).trans rfl) | (go_at_call 75; (with_reducible refine (count_impl A B c k xs rs ps[j].A ps[j].c ps[j].xs w2 (hM0d.next hb2) H2.out (hin.next hb2) hp8 hx8).mono ?_); rintro e w3 ⟨rfl, hb3⟩; have ob03 := obj_below ob02 hb3 (obj_lt ob02); have ob13 := obj_below ob12 hb3 (obj_lt ob12); have f00 : w3.cell? ⟨w.heap.size, 0, none⟩ = some (Value.slice A xs.length c) := (obj_cell ob03).trans rfl; have f01 : w3.cell? ⟨w.heap.size, 1, none⟩ = some (Value.slice B rs.length k) := (obj_cell ob03).trans rfl; have f10 : w3.cell? ⟨g1, 0, none⟩ = some (Value.slice A xs.length c) := (obj_cell ob13).trans rfl; have f11 : w3.cell? ⟨g1, 1, none⟩ = some (Value.slice A' ms.length c') := (obj_cell ob13).trans rfl) | (go_at_call 75; (with_reducible refine (count_impl A A' c c' xs ms ps[j].A ps[j].c ps[j].xs w2 (hM1d.next hb2) H2m.out (hin.next hb2) hp8 hx8).mono ?_); rintro e w3 ⟨rfl, hb3⟩; have ob03 := obj_below ob02 hb3 (obj_lt ob02); have ob13 := obj_below ob12 hb3 (obj_lt ob12); have f00 : w3.cell? ⟨w.heap.size, 0, none⟩ = some (Value.slice A xs.length c) := (obj_cell ob03).trans rfl; have f01 : w3.cell? ⟨w.heap.size, 1, none⟩ = some (Value.slice B rs.length k) := (obj_cell ob03).trans rfl; have f10 : w3.cell? ⟨g1, 0, none⟩ = some (Value.slice A xs.length c) := (obj_cell ob13).trans rfl; have f11 : w3.cell? ⟨g1, 1, none⟩ = some (Value.slice A' ms.length c') := (obj_cell ob13).trans rfl) | fail))
                      all_goals
                        go_wp2_with fail
                        go_meet
                        case rel => exact ⟨by rw [HCB.out]; rfl, ob03, ob13, (hbd.trans (hb2.mono hbd.size)).trans (hb3.mono (hbd.trans (hb2.mono hbd.size)).size)⟩
                    · have eb : decide (0 < cntM ps[j].xs xs (ms.map Row.xs)) = false := decide_eq_false hb'
                      have eb' : decide (((cntM ps[j].xs xs (ms.map Row.xs) : Nat) : Int) > 0) = false := decide_eq_false (by omega)
                      have HCB := Lib.hid (show canAt xs (rs.map Row.xs) ((rs.map Row.xs) ++ [[x, y]]) ps[j].xs = true by rw [HCA.out, ea, eb]; rfl)
                      clear ha hb'
                      go_region_held3 (fun v => v.cell? ⟨w.heap.size, 0, none⟩ = some (Value.slice A xs.length c) ∧ v.cell? ⟨w.heap.size, 1, none⟩ = some (Value.slice B rs.length k) ∧ v.cell? ⟨g1, 0, none⟩ = some (Value.slice A xs.length c) ∧ v.cell? ⟨g1, 1, none⟩ = some (Value.slice A' ms.length c')) (first | exact ⟨d00, d01, d10, d11⟩ | exact ⟨e00, e01, e10, e11⟩ | exact ⟨f00, f01, f10, f11⟩) ((first | (go_at_call 75; (with_reducible refine (count_impl A B c k xs rs ps[j].A ps[j].c ps[j].xs wr.drew hM0d H2.out hin hp8 hx8).mono ?_); rintro e w2 ⟨rfl, hb2⟩; have ob02 := obj_below ob0d hb2 (obj_lt ob0d); have ob12 := obj_below ob1d hb2 (obj_lt ob1d); have e00 : w2.cell? ⟨w.heap.size, 0, none⟩ = some (Value.slice A xs.length c) := (obj_cell ob02).trans rfl; have e01 : w2.cell? ⟨w.heap.size, 1, none⟩ = some (Value.slice B rs.length k) := (obj_cell ob02).trans rfl; have e10 : w2.cell? ⟨g1, 0, none⟩ = some (Value.slice A xs.length c) := (obj_cell ob12).trans rfl; have e11 : w2.cell? ⟨g1, 1, none⟩ = some (Value.slice A' ms.length c') := (obj_cell ob12).trans rfl) | (go_at_call 75; (with_reducible refine (count_impl A A' c c' xs ms ps[j].A ps[j].c ps[j].xs wr.drew hM1d H2m.out hin hp8 hx8).mono ?_); rintro e w2 ⟨rfl, hb2⟩; have ob02 := obj_below ob0d hb2 (obj_lt ob0d); have ob12 := obj_below ob1d hb2 (obj_lt ob1d); have e00 : w2.cell? ⟨w.heap.size, 0, none⟩ = some (Value.slice A xs.length c) := (obj_cell ob02).trans rfl; have e01 : w2.cell? ⟨w.heap.size, 1, none⟩ = some (Value.slice B rs.length k) := (obj_cell ob02).trans rfl; have e10 : w2.cell? ⟨g1, 0, none⟩ = some (Value.slice A xs.length c) := (obj_cell ob12).trans rfl; have e11 : w2.cell? ⟨g1, 1, none⟩ = some (Value.slice A' ms.length c') := (obj_cell ob12).trans rfl) | (go_at_call 75; (with_reducible refine (count_impl A B c k xs rs ps[j].A ps[j].c ps[j].xs w2 (hM0d.next hb2) H2.out (hin.next hb2) hp8 hx8).mono ?_); rintro e w3 ⟨rfl, hb3⟩; have ob03 := obj_below ob02 hb3 (obj_lt ob02); have ob13 := obj_below ob12 hb3 (obj_lt ob12); have f00 : w3.cell? ⟨w.heap.size, 0, none⟩ = some (Value.slice A xs.length c) := (obj_cell ob03).trans rfl; have f01 : w3.cell? ⟨w.heap.size, 1, none⟩ = some (Value.slice B rs.length k) := (obj_cell ob03).trans rfl; have f10 : w3.cell? ⟨g1, 0, none⟩ = some (Value.slice A xs.length c) := (obj_cell ob13).trans rfl; have f11 : w3.cell? ⟨g1, 1, none⟩ = some (Value.slice A' ms.length c') := (obj_cell ob13).trans rfl) | (go_at_call 75; (with_reducible refine (count_impl A A' c c' xs ms ps[j].A ps[j].c ps[j].xs w2 (hM1d.next hb2) H2m.out (hin.next hb2) hp8 hx8).mono ?_); rintro e w3 ⟨rfl, hb3⟩; have ob03 := obj_below ob02 hb3 (obj_lt ob02); have ob13 := obj_below ob12 hb3 (obj_lt ob12); have f00 : w3.cell? ⟨w.heap.size, 0, none⟩ = some (Value.slice A xs.length c) := (obj_cell ob03).trans rfl; have f01 : w3.cell? ⟨w.heap.size, 1, none⟩ = some (Value.slice B rs.length k) := (obj_cell ob03).trans rfl; have f10 : w3.cell? ⟨g1, 0, none⟩ = some (Value.slice A xs.length c) := (obj_cell ob13).trans rfl; have f11 : w3.cell? ⟨g1, 1, none⟩ = some (Value.slice A' ms.length c') := (obj_cell ob13).trans rfl) | fail))
                      all_goals
                        go_wp2_with fail
                        go_meet
                        case rel => exact ⟨by rw [HCB.out]; rfl, ob03, ob13, (hbd.trans (hb2.mono hbd.size)).trans (hb3.mono (hbd.trans (hb2.mono hbd.size)).size)⟩
                case rest =>
                  obtain ⟨rfl, ob, ob1, hbq⟩ := hcut
                  have hbj2 := hbj.trans (hbq.mono hbj.size)
                  by_cases hca : canAt xs (rs.map Row.xs) (rs.map Row.xs ++ [[x, y]]) ps[j].xs = true
                  · have HJ2 := Lib.hid (HALL.out true hca)
                    rw [hca]
                    clear hca
                    go_wp2_with fail
                    go_roundw
                    case rel => exact ⟨j + 1, by omega, by go_num, HJ2, ob, ob1, hbj2⟩
                    case measure => simp [intOf]; omega
                  · have hcaf : canAt xs (rs.map Row.xs) (rs.map Row.xs ++ [[x, y]]) ps[j].xs = false := by simpa using hca
                    have HF := Lib.hid (show canTo xs (rs.map Row.xs) (rs.map Row.xs ++ [[x, y]]) 6 = false from canTo_false hlt (by
                      unfold canN
                      rw [← HX.out, List.all_map, List.all_eq_false]
                      exact ⟨ps[j], List.getElem_mem hjl, by simp [hcaf]⟩))
                    rw [hcaf]
                    clear hca hcaf
                    go_wp2_with fail
                    go_ret
                    exact ⟨ret_bool (by rw [HG.out, HF.out]), (hb.trans (hbw.mono hb.size)).trans (hbj2.mono (by have h1 := hb.size; have h2 := hbw.size; omega))⟩
              · obtain rfl : j = ps.length := by omega
                have HN := Lib.hid (show canTo xs (rs.map Row.xs) (rs.map Row.xs ++ [[x, y]]) (n + 1) = true by
                  rw [HCS.out, HT.out, Bool.true_and]
                  unfold canN
                  have h1 := HJ.out
                  rw [List.take_length] at h1
                  rw [← HX.out, List.all_map]; exact h1)
                have hb2 := hbw.trans (hbj.mono hbw.size)
                go_wp2_with fail
                go_roundw
                case rel => exact ⟨n + 1, by omega, by go_num, HN, ob, ob1, hb2⟩
                case measure => simp [intOf]; omega
          · obtain rfl : n = 6 := by omega
            go_wp2_with fail
            go_ret
            exact ⟨ret_bool (by rw [HG.out, HT.out]), hb.trans (hbr.mono hb.size)⟩
    · have hAf : (meshB xs (rs.map Row.xs) && inBox xs.length x y && !shB (rs.map Row.xs) x y) = false := by simpa using hA
      have HG := Lib.hid (show csB xs (rs.map Row.xs) x y = false by unfold csB; rw [hAf, Bool.false_and])
      rw [hAf]
      clear hA hAf
      go_wp2_with fail
      go_ret
      exact ⟨ret_bool HG.out.symm, hb⟩
end Go.Proofs.Ythipikllgpnlhaa

/- Plain maths of meshes: columns for joined places, the inverse; a count is at most that of the pattern. -/
namespace Go.Proofs.Ythipikllgpnlhaa
set_option maxRecDepth 100000

theorem nth_at1 (p : List Int) (x : Int) : nth p (x - 1) = at1 p x := rfl
theorem len_mem {α : Type} [DecidableEq α] {X Y : List α} (hX : X.Nodup) (hY : Y.Nodup) (h : ∀ x, x ∈ X ↔ x ∈ Y) : X.length = Y.length := by
  have h1 := nodup_sub_len X Y hX fun x hx => (h x).1 hx
  have h2 := nodup_sub_len Y X hY fun x hx => (h x).2 hx
  omega
theorem Inc.nodup {l : List Int} (h : Inc l) : l.Nodup := by
  rw [List.nodup_iff_pairwise_ne]
  exact (inc_pair.1 h).imp fun h => by omega
theorem free_iff {p l : List Int} {X : List (List Int)} : freeB p l X = true ↔ ∀ a : Int, 1 ≤ a → a ≤ p.length → a ∈ l ∨ shB X (colN l a) (rowN p l (at1 p a)) = false := by
  unfold freeB freeTo
  rw [List.all_eq_true]
  have key : ∀ i : Nat, freeAt p l X i = true ↔ (((i : Int) + 1) ∈ l ∨ shB X (colN l ((i : Int) + 1)) (rowN p l (at1 p ((i : Int) + 1))) = false) := by
    intro i
    unfold freeAt
    rw [Bool.or_eq_true, decide_eq_true_eq, Bool.not_eq_true']
    rw [show nth p (i : Int) = at1 p ((i : Int) + 1) by unfold nth at1; rw [show (i : Int) + 1 - 1 = (i : Int) by omega]]
  constructor
  · intro h a h1 h2
    have := (key (a - 1).toNat).1 (h (a - 1).toNat (List.mem_range.2 (by omega)))
    rwa [show (((a - 1).toNat : Int) + 1) = a by omega] at this
  · intro h i hi
    have hi := List.mem_range.1 hi
    exact (key i).2 (h ((i : Int) + 1) (by omega) (by omega))
theorem mem_ofF {m : Nat} {f : Int → Int} {v : Int} : v ∈ ofF m f ↔ ∃ i : Int, 1 ≤ i ∧ i ≤ m ∧ f i = v := by
  constructor
  · intro h
    obtain ⟨x, h1, h2, rfl⟩ := mem_at1 h
    rw [ofF_length] at h2
    exact ⟨x, h1, h2, (at1_ofF h1 h2).symm⟩
  · rintro ⟨i, h1, h2, rfl⟩
    rw [← at1_ofF (f := f) h1 h2]
    exact at1_mem h1 (by rw [ofF_length]; exact h2)
theorem invPl_mem {p q l : List Int} (hq : permB q = true) (h : Occ p q l) {v : Int} : v ∈ invPl p q l ↔ ∃ x ∈ l, at1 p x = v := by
  have hl := h.len
  constructor
  · intro hv
    obtain ⟨i, h1, h2, rfl⟩ := mem_ofF.1 hv
    have := (at_inv hq h1 h2).2
    exact ⟨_, at1_mem this.1 (by omega), rfl⟩
  · rintro ⟨x, hx, rfl⟩
    obtain ⟨i, h1, h2, rfl⟩ := mem_at1 hx
    rw [← invPl_at hq h1 (by omega)]
    have hr := perm_rng hq h1 (by omega)
    have := at1_mem (p := invPl p q l) hr.1 (by rw [invPl, ofF_length]; exact hr.2)
    exact this
theorem invPl_filter {p q l : List Int} (hp : permB p = true) (hq : permB q = true) (h : Occ p q l) (H H' : Int → Bool) (hH : ∀ x ∈ l, H' (at1 p x) = H x) : ((invPl p q l).filter H').length = (l.filter H).length := by
  have h1 := (occ_inverse hp hq h).inc.nodup
  have hr := rng_mem.1 h.rng
  rw [show (l.filter H).length = ((l.filter H).map (at1 p)).length by rw [List.length_map]]
  refine len_mem (h1.filter _) (nodup_map_inj _ _ (h.inc.nodup.filter _) fun a ha b hb e => ?_) fun v => ?_
  · exact perm_inj hp (hr a (List.mem_filter.1 ha).1) (hr b (List.mem_filter.1 hb).1) e
  · rw [List.mem_filter, invPl_mem hq h, List.mem_map]
    constructor
    · rintro ⟨⟨x, hx, rfl⟩, hv⟩
      exact ⟨x, List.mem_filter.2 ⟨hx, by rw [← hH x hx]; exact hv⟩, rfl⟩
    · rintro ⟨x, hx, rfl⟩
      obtain ⟨hx, hv⟩ := List.mem_filter.1 hx
      exact ⟨⟨x, hx, rfl⟩, by rw [hH x hx]; exact hv⟩
theorem shB_swap {X : List (List Int)} (h2 : ∀ s ∈ X, s.length = 2) (x y : Int) : shB (imTo X X.length) y x = shB X x y := by
  rw [shB_mem, shB_mem, decide_eq_decide]
  unfold imTo
  rw [ordL_mem, List.take_length]
  unfold swL
  rw [List.mem_map]
  constructor
  · rintro ⟨s, hs, e⟩
    match s, h2 s hs with
    | [a, b], _ =>
      simp [swp] at e
      obtain ⟨rfl, rfl⟩ := e
      exact hs
  · intro hs
    exact ⟨_, hs, by simp [swp]⟩
theorem free_inverse {p q l : List Int} {X : List (List Int)} (hp : permB p = true) (hq : permB q = true) (h2 : ∀ s ∈ X, s.length = 2) (h : Occ p q l) : freeB (invL p) (invPl p q l) (imTo X X.length) = freeB p l X := by
  have hr := rng_mem.1 h.rng
  have hlen := invL_length p
  have key : ∀ a : Int, 1 ≤ a → a ≤ p.length → ((at1 p a ∈ invPl p q l ∨ shB (imTo X X.length) (colN (invPl p q l) (at1 p a)) (rowN (invL p) (invPl p q l) (at1 (invL p) (at1 p a))) = false) ↔ (a ∈ l ∨ shB X (colN l a) (rowN p l (at1 p a)) = false)) := by
    intro a h1 ha
    have e1 : colN (invPl p q l) (at1 p a) = rowN p l (at1 p a) := by
      unfold colN rowN
      exact invPl_filter hp hq h _ _ fun x _ => rfl
    have e2 : rowN (invL p) (invPl p q l) (at1 (invL p) (at1 p a)) = colN l a := by
      unfold colN rowN
      refine invPl_filter hp hq h _ _ fun x hx => ?_
      have hx := hr x hx
      rw [nth_at1, inv_at hp h1 ha, inv_at hp hx.1 hx.2]
    rw [e1, e2, shB_swap h2, invPl_mem hq h]
    constructor
    · rintro (⟨x, hx, e⟩ | h3)
      · have hxr := hr x hx
        have := perm_inj hp hxr ⟨h1, ha⟩ e
        subst this
        exact .inl hx
      · exact .inr h3
    · rintro (h3 | h3)
      · exact .inl ⟨a, h3, rfl⟩
      · exact .inr h3
  rw [Bool.eq_iff_iff, free_iff, free_iff]
  constructor
  · intro hf a h1 ha
    have hr := perm_rng hp h1 ha
    exact (key a h1 ha).1 (hf _ hr.1 (by omega))
  · intro hf v h1 hv
    obtain ⟨a, ha1, ha2, rfl⟩ := perm_onto hp h1 (by omega)
    exact (key a ha1 ha2).2 (hf a ha1 ha2)
theorem swL_mesh {xs : List Int} {X : List (List Int)} (hM : meshB xs X = true) : imTo (imTo X X.length) (imTo X X.length).length = X := by
  have h2 := mesh_two hM
  refine srt_ext (ordL_srt _) (mesh_srt hM) fun s => ?_
  unfold imTo
  rw [ordL_mem, List.take_length]
  constructor
  · intro hs
    obtain ⟨t, ht, rfl⟩ := List.mem_map.1 hs
    rw [ordL_mem, List.take_length] at ht
    obtain ⟨u, hu, rfl⟩ := List.mem_map.1 ht
    match u, h2 u hu with
    | [a, b], _ => simpa [swp] using hu
  · intro hs
    match s, h2 s hs with
    | [a, b], _ =>
      refine List.mem_map.2 ⟨[b, a], ?_, by simp [swp]⟩
      rw [ordL_mem, List.take_length]
      exact List.mem_map.2 ⟨[a, b], hs, by simp [swp]⟩
theorem cntM_inverse {p q : List Int} {X : List (List Int)} (hp : permB p = true) (hM : meshB q X = true) : cntM (invL p) (invL q) (imTo X X.length) = cntM p q X := by
  have hq := (mesh_perm hM).1
  have h2 := mesh_two hM
  have hp' := perm_inv hp
  have hq' := perm_inv hq
  have h2' : ∀ s ∈ imTo X X.length, s.length = 2 := imTo_two X X.length
  unfold cntM
  refine len_of_inj ((occI_nodup _ _).filter _) ((occI_nodup _ _).filter _) (invPl (invL p) (invL q)) (invPl p q) (fun l hl => ?_) (fun l hl k hk e => ?_) (fun l hl => ?_) (fun l hl k hk e => ?_)
  · obtain ⟨hl, hf⟩ := List.mem_filter.1 hl
    have ho := (occ_iff hp' hq').1 hl
    have h := occ_inverse hp' hq' ho
    rw [inv_inv hp, inv_inv hq] at h
    refine List.mem_filter.2 ⟨(occ_iff hp hq).2 h, ?_⟩
    have := free_inverse hp' hq' h2' ho
    rw [inv_inv hp, swL_mesh hM] at this
    rw [this]; exact hf
  · exact invPl_inj hp' hq' ((occ_iff hp' hq').1 (List.mem_filter.1 hl).1) ((occ_iff hp' hq').1 (List.mem_filter.1 hk).1) e
  · obtain ⟨hl, hf⟩ := List.mem_filter.1 hl
    have ho := (occ_iff hp hq).1 hl
    refine List.mem_filter.2 ⟨(occ_iff hp' hq').2 (occ_inverse hp hq ho), ?_⟩
    rw [free_inverse hp hq h2 ho]; exact hf
  · exact invPl_inj hp hq ((occ_iff hp hq).1 (List.mem_filter.1 hl).1) ((occ_iff hp hq).1 (List.mem_filter.1 hk).1) e
/-- The inverse of a mesh is a mesh. -/
theorem mesh_of_srt {q : List Int} {X : List (List Int)} (hq : permB q = true) (h4 : q.length ≤ 4) (hs : Srt X) (hb : ∀ s ∈ X, boxOk q.length s = true) : meshB q X = true := by
  unfold meshB meshTo
  rw [Bool.and_eq_true, Bool.and_eq_true, List.all_eq_true]
  refine ⟨⟨hq, decide_eq_true h4⟩, fun i hi => ?_⟩
  have hi := List.mem_range.1 hi
  unfold meshAt
  rw [List.getElem?_eq_getElem hi, Bool.and_eq_true, Bool.or_eq_true, decide_eq_true_eq, decide_eq_true_eq]
  refine ⟨hb _ (List.getElem_mem hi), ?_⟩
  rcases Nat.eq_zero_or_pos i with h0 | h0
  · exact .inl h0
  · right
    rw [List.getElem?_eq_getElem (by omega)]
    have := List.pairwise_iff_getElem.1 hs (i - 1) i (by omega) hi (by omega)
    have e1 := boxOk_two (hb _ (List.getElem_mem (show i - 1 < X.length by omega)))
    have e2 := boxOk_two (hb _ (List.getElem_mem hi))
    unfold before at this
    rw [if_pos (by rw [e1, e2])] at this
    exact of_decide_eq_true this
theorem mesh_inverse {q : List Int} {X : List (List Int)} (hM : meshB q X = true) : meshB (invL q) (imTo X X.length) = true := by
  have hq := mesh_perm hM
  refine mesh_of_srt (perm_inv hq.1) (by rw [invL_length]; exact hq.2) (ordL_srt _) fun s hs => ?_
  unfold imTo at hs
  rw [ordL_mem, List.take_length] at hs
  obtain ⟨t, ht, rfl⟩ := List.mem_map.1 hs
  obtain ⟨i, hi, rfl⟩ := List.mem_iff_getElem.1 ht
  have h1 := (mesh_at hM i hi).1
  have h2 := mesh_two hM _ ht
  rw [invL_length]
  match hx : X[i], h2 with
  | [a, b], _ =>
    rw [hx] at h1
    simp only [boxOk, decide_eq_true_eq] at h1
    simp only [swp, boxOk, List.getElem?_cons_zero, List.getElem?_cons_succ, Option.getD_some, decide_eq_true_eq]
    omega
theorem colN_at {l : List Int} (h : Inc l) {a i : Int} (h1 : 1 ≤ i) (h2 : i ≤ l.length) : i ≤ colN l a ↔ at1 l i < a := by
  have hn := h.nodup
  constructor
  · intro hi
    apply Classical.byContradiction
    intro hlt
    have hsub : ∀ x ∈ l.filter (fun k => decide (k < a)), x ∈ l.take (i - 1).toNat := fun x hx => by
      obtain ⟨hx, hxa⟩ := List.mem_filter.1 hx
      have hxa := of_decide_eq_true hxa
      obtain ⟨j, hj1, hj2, rfl⟩ := mem_at1 hx
      have hji : j < i := by
        rcases Int.lt_or_le j i with h3 | h3
        · exact h3
        · have : at1 l i ≤ at1 l j := by
            rcases Int.lt_or_eq_of_le h3 with h4 | h4
            · have := h i j h1 h4 hj2; omega
            · subst h4; exact Int.le_refl _
          omega
      obtain ⟨c, hc, e1, e2⟩ := at1_nat hj1 hj2
      rw [e2, List.mem_take_iff_getElem]
      exact ⟨c, by omega, rfl⟩
    have := nodup_sub_len _ _ (hn.filter _) hsub
    rw [List.length_take] at this
    unfold colN at hi
    omega
  · intro hlt
    have hsub : ∀ x ∈ l.take i.toNat, x ∈ l.filter (fun k => decide (k < a)) := fun x hx => by
      rw [List.mem_take_iff_getElem] at hx
      obtain ⟨c, hc, rfl⟩ := hx
      refine List.mem_filter.2 ⟨List.getElem_mem _, decide_eq_true ?_⟩
      have hcl : c < l.length := by omega
      have e : at1 l ((c : Int) + 1) = l[c] := at1_get hcl
      rw [← e]
      rcases Int.lt_or_eq_of_le (show (c : Int) + 1 ≤ i by omega) with h4 | h4
      · have := h _ _ (by omega) h4 h2; omega
      · rw [h4]; exact hlt
    have := nodup_sub_len (l.take i.toNat) _ (by rw [List.nodup_iff_pairwise_ne] at hn ⊢; exact hn.sublist (List.take_sublist _ _)) hsub
    rw [List.length_take] at this
    unfold colN
    omega
theorem boxes_sh {m : Nat} {ys : List Int} {x : Int} {y : Nat} (hy : y ≤ m) : shB (boxesL m ys) x y = decide (x ∈ ys) := by
  rw [shB_mem, decide_eq_decide]
  unfold boxesL boxesTo
  rw [List.mem_flatMap]
  constructor
  · rintro ⟨i, hi, h⟩
    obtain ⟨z, _, e⟩ := List.mem_map.1 h
    simp at e
    rw [← e.1]; exact hi
  · intro h
    exact ⟨x, h, List.mem_map.2 ⟨y, List.mem_range.2 (by omega), rfl⟩⟩
theorem free_near {p q l ys : List Int} (hj : ∀ i ∈ ys, 1 ≤ i ∧ i < q.length) (h : Occ p q l) : freeB p l (boxesL q.length ys) = nearFit ys l := by
  have hl := h.len
  have hrow : ∀ v, rowN p l v ≤ q.length := fun v => by unfold rowN; rw [← hl]; exact List.length_filter_le _ _
  rw [Bool.eq_iff_iff, free_iff]
  unfold nearFit
  rw [Bool.not_eq_true', List.any_eq_false]
  have hbad : ∀ i : Int, badJ l i = true ↔ at1 l (i + 1) ≠ at1 l i + 1 := by
    intro i
    unfold badJ
    rw [show nth l i = at1 l (i + 1) by unfold nth at1; rw [show i + 1 - 1 = i by omega], nth_at1]
    simp
  constructor
  · intro hf i hi hb
    rw [hbad] at hb
    have hr := hj i hi
    have h1 := h.inc i (i + 1) hr.1 (by omega) (by omega)
    have hrl := h.rng i hr.1 (by omega)
    have hru := h.rng (i + 1) (by omega) (by omega)
    have hc : colN l (at1 l i + 1) = i.toNat := by
      have a := (colN_at h.inc (a := at1 l i + 1) hr.1 (by omega)).2 (by omega)
      have b := (not_congr (colN_at h.inc (a := at1 l i + 1) (i := i + 1) (by omega) (by omega))).2 (by omega)
      omega
    rcases hf (at1 l i + 1) (by omega) (by omega) with h3 | h3
    · obtain ⟨j, hj1, hj2, e⟩ := mem_at1 h3
      have a := (h.inc.lt (i := i) (j := j) ⟨hr.1, by omega⟩ ⟨hj1, hj2⟩).1 (by omega)
      have b := (h.inc.lt (i := j) (j := i + 1) ⟨hj1, hj2⟩ ⟨by omega, by omega⟩).1 (by omega)
      omega
    · rw [boxes_sh (hrow _), hc, decide_eq_false_iff_not] at h3
      exact h3 (by rw [show ((i.toNat : Nat) : Int) = i by omega]; exact hi)
  · intro hn a h1 ha
    by_cases hal : a ∈ l
    · exact .inl hal
    · right
      rw [boxes_sh (hrow _), decide_eq_false_iff_not]
      intro hc
      have hr := hj _ hc
      have hg := fun hb => hn _ hc ((hbad _).2 hb)
      have e : at1 l ((colN l a : Int) + 1) = at1 l (colN l a : Int) + 1 := Classical.byContradiction hg
      have a1 := (colN_at h.inc (a := a) hr.1 (by omega)).1 (Int.le_refl _)
      have a2 := (not_congr (colN_at h.inc (a := a) (i := (colN l a : Int) + 1) (by omega) (by omega))).1 (by omega)
      have : a = at1 l ((colN l a : Int) + 1) := by omega
      exact hal (by rw [this]; exact at1_mem (by omega) (by omega))
theorem cntM_near {p q ys : List Int} (hp : permB p = true) (hN : nearB q ys = true) : cntM p q (boxesL q.length ys) = nearCnt p q ys := by
  have hq := nearB_permB hN
  unfold cntM nearCnt
  rw [List.filter_congr fun l hl => free_near (nearB_range hN) ((occ_iff hp hq).1 hl)]
theorem joined_pair {q ys : List Int} (hN : nearB q ys = true) : ys.Pairwise (· < ·) := by
  unfold nearB joinTo at hN
  rw [Bool.and_eq_true, List.all_eq_true] at hN
  have hst : ∀ j (hj : j + 1 < ys.length), ys[j] < ys[j + 1] := fun j hj => by
    have := hN.2 (j + 1) (List.mem_range.2 hj)
    unfold joinAt at this
    rw [List.getElem?_eq_getElem hj, Nat.add_sub_cancel, List.getElem?_eq_getElem (show j < ys.length by omega)] at this
    simp only [Option.getD_some, decide_eq_true_eq] at this
    omega
  rw [List.pairwise_iff_getElem]
  intro i j hi hj hij
  induction j with
  | zero => omega
  | succ j ih =>
    by_cases e : i = j
    · subst e; exact hst i hj
    · have := ih (by omega) (by omega)
      have := hst j hj
      omega
theorem mesh_boxes {q ys : List Int} (hN : nearB q ys = true) (h4 : q.length ≤ 4) : meshB q (boxesL q.length ys) = true := by
  have hq := nearB_permB hN
  have hj := nearB_range hN
  refine mesh_of_srt hq h4 ?_ fun s hs => ?_
  · unfold Srt boxesL
    rw [List.pairwise_flatMap]
    refine ⟨fun i hi => ?_, (joined_pair hN).imp fun {a b} hab x hx y hy => ?_⟩
    · unfold boxesTo
      rw [List.pairwise_map]
      have := List.pairwise_lt_range (n := q.length + 1)
      exact this.imp fun {a b} hab => by
        have h1 : cmpL [i, (a : Int)] [i, (b : Int)] < 0 := by
          simp only [cmpL]
          repeat' split
          all_goals omega
        unfold before
        rw [if_pos (show [i, (a : Int)].length = [i, (b : Int)].length from rfl)]
        exact decide_eq_true h1
    · obtain ⟨u, _, rfl⟩ := List.mem_map.1 hx
      obtain ⟨v, _, rfl⟩ := List.mem_map.1 hy
      have h1 : cmpL [a, (u : Int)] [b, (v : Int)] < 0 := by
        simp only [cmpL]
        repeat' split
        all_goals omega
      unfold before
      rw [if_pos (show [a, (u : Int)].length = [b, (v : Int)].length from rfl)]
      exact decide_eq_true h1
  · obtain ⟨i, hi, h⟩ := List.mem_flatMap.1 hs
    obtain ⟨z, hz, rfl⟩ := List.mem_map.1 h
    have hz := List.mem_range.1 hz
    have := hj i hi
    simp only [boxOk, decide_eq_true_eq]
    omega
theorem cntM_le_occ {p q : List Int} (X : List (List Int)) (hp : permB p = true) (hq : permB q = true) : cntM p q X ≤ (occL p q).length := by
  rw [occ_eq hp hq]
  exact List.length_filter_le _ _
end Go.Proofs.Ythipikllgpnlhaa
