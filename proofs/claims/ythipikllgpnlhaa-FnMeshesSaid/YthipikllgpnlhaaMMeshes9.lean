/- Several texts in one, each with its own head: B2, D4, DM, D7. No program of ours. -/
import Derived.StillTailTactics
import Derived.Deep.RegionHeld3
import Derived.Test.YthipikllgpnlhaaMMeshes8
/- CountMesh of the reference. -/
namespace Go.Proofs.Ythipikllgpnlhaa
set_option maxRecDepth 100000
open Go Go.RowKit

set_option maxHeartbeats 4000000 in
theorem l9Box_any (C D : Option Addr) (e f j : Nat) (p l : List Int) (w : World) (hp : In w C e p) (hl : In w D f l) (hp8 : p.length ≤ 8) (hl8 : l.length ≤ 8) (hm : ∀ x ∈ l, 1 ≤ x ∧ x ≤ p.length) (hj : j < p.length) :
    Calls Try.prog 147 #[.slice C p.length e, .slice D l.length f, .int .i64 ((j : Int) + 1)] w (Ret (Value.int .i64) 3 w [(colN l ((j : Int) + 1) : Int), (rowN p l p[j] : Int)]) := by
  go_enter Try.func147, Try.ntmps147
  go_wp2_with fail
  go_loopw [7, 8, 9] (fun x y i wr => ∃ u : Nat, u ≤ l.length ∧ i = .int .i64 u ∧ x = .int .i64 (cntTo (fun k => decide (k < (j : Int) + 1)) l u : Nat) ∧ y = .int .i64 (cntTo (fun k => decide (nth p (k - 1) < p[j])) l u : Nat) ∧ Dr w wr) (fun _ _ i _ => l.length - (intOf i).toNat)
  case atStart => exact ⟨0, Nat.zero_le _, rfl, rfl, rfl, Dr.refl _⟩
  case round =>
    obtain ⟨u, hu, rfl, rfl, rfl, hd⟩ := hrel
    have hx1 := cntTo_le (fun k => decide (k < (j : Int) + 1)) l u
    have hy1 := cntTo_le (fun k => decide (nth p (k - 1) < p[j])) l u
    rcases Nat.lt_or_ge u l.length with hul | hug
    · obtain ⟨bl, ol, rfl, _, hcl⟩ := (hl.dr hd).rd (by omega)
      obtain ⟨bp, op, rfl, _, hcp⟩ := (hp.dr hd).rd (by omega)
      have hxl := hm l[u] (List.getElem_mem hul)
      obtain ⟨cu, hcu⟩ : ∃ cu : Nat, (cu : Int) + 1 = l[u] := ⟨(l[u] - 1).toNat, by omega⟩
      have hcup : cu < p.length := by omega
      have g1 := hcl u hul
      have g2 := hcp cu hcup
      have g3 := hcp j hj
      rw [← hcu] at g1
      have HX := Lib.hid (show decide (l[u] < (j : Int) + 1) = decide ((cu : Int) + 1 < (j : Int) + 1) by rw [hcu])
      have HY := Lib.hid (show decide (nth p (l[u] - 1) < p[j]) = decide (p[cu] < p[j]) by
        rw [← hcu]; unfold nth; rw [Int.add_sub_cancel, Int.toNat_natCast, List.getElem?_eq_getElem hcup]; rfl)
      have e1 : IntKind.i64.wrap ((cu : Int) + 1 - 1) = (cu : Int) := by rw [Int.add_sub_cancel]; exact IntWalk.i64_in _ (by omega)
      have e2 : IntKind.i64.wrap ((j : Int) + 1 - 1) = (j : Int) := by rw [Int.add_sub_cancel]; exact IntWalk.i64_in _ (by omega)
      have e3 : (cu : Int) < (p.length : Int) := by omega
      have e4 : (j : Int) < (p.length : Int) := by omega
      have e5 : (u : Int) < (l.length : Int) := by omega
      have w1 : IntKind.i64.wrap (((cntTo (fun k => decide (nth p (k - 1) < p[j])) l u : Nat) : Int) + 1) = ((cntTo (fun k => decide (nth p (k - 1) < p[j])) l u : Nat) : Int) + 1 := IntWalk.i64_in _ (by omega)
      have w2 : IntKind.i64.wrap (((cntTo (fun k => decide (nth p (k - 1) < p[j])) l u : Nat) : Int) + 0) = ((cntTo (fun k => decide (nth p (k - 1) < p[j])) l u : Nat) : Int) := by rw [Int.add_zero]; exact IntWalk.i64_in _ (by omega)
      clear hcl hcp hxl hcu
      go_wp2_with fail
      by_cases hx : (cu : Int) + 1 < (j : Int) + 1
      case' pos =>
        have KX := Lib.hid (cntTo_yes (H := fun k => decide (k < (j : Int) + 1)) hul (by show decide (l[u] < (j : Int) + 1) = true; rw [HX.out]; exact decide_eq_true hx))
        (with_reducible refine (l1Bit_b _ 1 wr (by first | rw [if_pos (decide_eq_true hx)] | (simp; omega))).mono ?_)
        rintro e w' ⟨rfl, rfl⟩
        go_wp2_with fail
      case' neg =>
        have KX := Lib.hid (cntTo_no (H := fun k => decide (k < (j : Int) + 1)) hul (by show decide (l[u] < (j : Int) + 1) = false; rw [HX.out]; exact decide_eq_false hx))
        (with_reducible refine (l1Bit_b _ 0 wr (by first | (rw [decide_eq_false hx]; rfl) | (simp; omega))).mono ?_)
        rintro e w' ⟨rfl, rfl⟩
        go_wp2_with fail
      all_goals
        clear hx
        by_cases hy : p[cu] < p[j]
        · have KY := Lib.hid (cntTo_yes (H := fun k => decide (nth p (k - 1) < p[j])) hul (by show decide (nth p (l[u] - 1) < p[j]) = true; rw [HY.out]; exact decide_eq_true hy))
          have DY := Lib.hid (show (if decide (p[cu] < p[j]) = true then (1 : Int) else 0) = 1 by rw [if_pos (decide_eq_true hy)])
          clear hy
          go_quiet ((go_at_call 91; exact quiet_eq (l1Bit_b _ 1 _ DY.out)))
          go_wp2_with fail
          go_roundw
          case rel => exact ⟨u + 1, by omega, by go_num, by rw [KX.out]; all_goals go_num, by rw [KY.out]; all_goals go_num, (by first | with_reducible assumption | with_reducible exact hd | with_reducible exact Dr.drewN hd _ | with_reducible exact Dr.drewN (Dr.drewN hd _) _ | with_reducible exact Dr.drew hd)⟩
          case measure => simp [intOf]; omega
        · have KY := Lib.hid (cntTo_no (H := fun k => decide (nth p (k - 1) < p[j])) hul (by show decide (nth p (l[u] - 1) < p[j]) = false; rw [HY.out]; exact decide_eq_false hy))
          have DY := Lib.hid (show (if decide (p[cu] < p[j]) = true then (1 : Int) else 0) = 0 by rw [decide_eq_false hy]; rfl)
          clear hy
          go_quiet ((go_at_call 91; exact quiet_eq (l1Bit_b _ 0 _ DY.out)))
          go_wp2_with fail
          go_roundw
          case rel => exact ⟨u + 1, by omega, by go_num, by rw [KX.out]; all_goals go_num, by rw [KY.out]; all_goals go_num, (by first | with_reducible assumption | with_reducible exact hd | with_reducible exact Dr.drewN hd _ | with_reducible exact Dr.drewN (Dr.drewN hd _) _ | with_reducible exact Dr.drew hd)⟩
          case measure => simp [intOf]; omega
    · obtain rfl : u = l.length := by omega
      have KX := Lib.hid (colN_cnt l ((j : Int) + 1))
      have KY := Lib.hid (rowN_cnt p l p[j])
      rw [KX.out, KY.out]
      have hszd : w.heap.size = wr.heap.size := by rw [hd.heap]
      have HZ := Lib.hid hszd
      have hfin : (wr.alloc (Obj.cells #[.int .i64 (colN l ((j : Int) + 1) : Nat), .int .i64 (rowN p l p[j] : Nat)] 3)).ownsRow w.heap.size 3 1 (.slice (some ⟨wr.heap.size, 0, none⟩) 2 2) 2 ([(colN l ((j : Int) + 1) : Int), (rowN p l p[j] : Int)].map (Value.int .i64)) :=
        World.ownsRow_lit wr #[.int .i64 (colN l ((j : Int) + 1) : Nat), .int .i64 (rowN p l p[j] : Nat)] 2 (by omega) (by unfold maxLen; omega) rfl
      have hbf := (below_dr (Below.refl w.heap.size w) hd).alloc (by omega) (Obj.cells #[.int .i64 (colN l ((j : Int) + 1) : Nat), .int .i64 (rowN p l p[j] : Nat)] 3)
      clear hszd
      go_wp2_with fail
      go_ret
      exact ⟨_, 2, rfl, Nat.le_refl _, by unfold maxLen; omega, hfin, hbf⟩
set_option maxHeartbeats 8000000 in
theorem l9Fits_b (C D B : Option Addr) (e f k : Nat) (rs : List Row) (p l : List Int) (w : World) (b : Bool) (hp : In w C e p) (hl : In w D f l) (hr : InL w B k rs) (h2 : ∀ r ∈ rs, r.xs.length = 2) (hp8 : p.length ≤ 8) (hl8 : l.length ≤ 8)
    (hm : ∀ x ∈ l, 1 ≤ x ∧ x ≤ p.length) (hb : freeB p l (rs.map Row.xs) = b) :
    Calls Try.prog 128 #[.slice C p.length e, .slice D l.length f, .slice B rs.length k] w (Rb w (.bool b)) := by
  have HB := Lib.hid hb
  have hrl := hr.len
  have H22 := Lib.hid h2
  clear hb h2
  go_enter Try.func128, Try.ntmps128
  go_wp2_with fail
  go_loopw [7] (fun i wr => ∃ j : Nat, j ≤ p.length ∧ i = .int .i64 ((j : Int) + 1) ∧ Hid (freeTo p l (rs.map Row.xs) j = true) ∧ Below w.heap.size w wr) (fun i _ => p.length + 1 - (intOf i).toNat)
  case atStart => exact ⟨0, Nat.zero_le _, rfl, Lib.hid rfl, Below.refl _ _⟩
  case round =>
    obtain ⟨j, hj, rfl, HF, hb⟩ := hrel
    rcases Nat.lt_or_ge j p.length with hlt | hge
    · have hl1 := (hl.next hb).rd
      have HS := Lib.hid (freeTo_succ p l (rs.map Row.xs) j)
      have hnj : nth p (j : Int) = p[j] := by unfold nth; rw [Int.toNat_natCast, List.getElem?_eq_getElem hlt]; rfl
      have HNJ := Lib.hid hnj
      clear hnj
      go_wp2_with fail
      by_cases hmem : ((j : Int) + 1) ∈ l
      · have HT := Lib.hid (show freeTo p l (rs.map Row.xs) (j + 1) = true by rw [HS.out, HF.out]; unfold freeAt; rw [decide_eq_true hmem]; rfl)
        (with_reducible refine (l2Has_b D f l.length l ((j : Int) + 1) wr true rfl (by omega) hl1 (decide_eq_true hmem)).mono ?_)
        rintro e w' ⟨rfl, rfl⟩
        clear hmem
        go_wp2_with fail
        go_roundw
        case rel => exact ⟨j + 1, by omega, by go_num, HT, hb⟩
        case measure => simp [intOf]; omega
      · have HFA := Lib.hid (show freeAt p l (rs.map Row.xs) j = !shB (rs.map Row.xs) (colN l ((j : Int) + 1)) (rowN p l p[j]) by unfold freeAt; rw [decide_eq_false hmem, HNJ.out]; rfl)
        (with_reducible refine (l2Has_b D f l.length l ((j : Int) + 1) wr false rfl (by omega) hl1 (decide_eq_false hmem)).mono ?_)
        rintro e w' ⟨rfl, rfl⟩
        clear hmem
        go_wp2_with fail
        (with_reducible refine (l9Box_any C D _ f j p l wr (hp.next hb) (hl.next hb) hp8 hl8 hm hlt).mono ?_)
        rintro e w1 ⟨A1, c1, rfl, q1, q2, own1, hb1⟩
        have hbw := hb.trans (hb1.mono hb.size)
        have hrb := Rd.of_own own1
        obtain ⟨wo, rfl⟩ : ∃ wo : World, wo = wr := ⟨_, rfl⟩
        obtain ⟨bx, hbx⟩ : ∃ bx, bx = [(colN l ((j : Int) + 1) : Int), (rowN p l p[j] : Int)] := ⟨_, rfl⟩
        rw [← hbx] at hrb
        have HBX := Lib.hid hbx
        have HSH := Lib.hid (show shB (rs.map Row.xs) (colN l ((j : Int) + 1)) (rowN p l p[j]) = rs.any fun r : Row => decide (r.xs = bx) by
          unfold shB; rw [any_rows rs (fun s => decide (s = bx)), hbx])
        clear own1 q1 q2 hbx
        go_wp2_with fail
        go_loopw [9] (fun i wr => ∃ u : Nat, u ≤ rs.length ∧ i = .int .i64 u ∧ Hid ((rs.take u).any (fun r : Row => decide (r.xs = bx)) = false) ∧ Dr w1 wr) (fun i _ => rs.length - (intOf i).toNat)
        case atStart => exact ⟨0, Nat.zero_le _, rfl, Lib.hid rfl, Dr.refl _⟩
        case round =>
          obtain ⟨u, hu, rfl, HN, hd⟩ := hrel
          rcases Nat.lt_or_ge u rs.length with hul | hug
          · have hL := (hr.next hbw).dr hd
            obtain ⟨b', off, rfl, _, hc⟩ := hL.read.at (by omega)
            have cc := hc u hul
            have hrow := (hL.row (List.getElem_mem hul)).rd
            have hl22 : rs[u].xs.length ≤ 4611686018427387904 := by have := H22.out _ (List.getElem_mem hul); omega
            have hszd : wr.heap.size = w1.heap.size := by rw [hd.heap]
            have hrb2 : Rd (Value.int .i64) wr wr.heap.size A1 bx := (hrb.dr hd).more (by omega)
            have hbl := Lib.hid (show bx.length = 2 by rw [HBX.out]; rfl)
            clear hc hszd
            go_wp2_with fail
            by_cases he : rs[u].xs = bx
            · have HE := Lib.hid (show freeB p l (rs.map Row.xs) = false from freeTo_false hlt (by rw [HFA.out, HSH.out, any_at hul (decide_eq_true he)]; rfl))
              (with_reducible refine (l2Same_b rs[u].A A1 rs[u].c c1 rs[u].xs.length 2 rs[u].xs bx wr true rfl hbl.out hl22 hrow hrb2 (decide_eq_true he)).mono ?_)
              rintro e w2 ⟨rfl, hd2⟩
              clear he
              go_wp2_with fail
              go_ret
              exact ⟨ret_bool (by rw [← HB.out, HE.out]), below_dr (below_dr hbw hd) hd2⟩
            · have HT := Lib.hid (show (rs.take (u + 1)).any (fun r : Row => decide (r.xs = bx)) = false from any_take_false HN.out hul (decide_eq_false he))
              (with_reducible refine (l2Same_b rs[u].A A1 rs[u].c c1 rs[u].xs.length 2 rs[u].xs bx wr false rfl hbl.out hl22 hrow hrb2 (decide_eq_false he)).mono ?_)
              rintro e w2 ⟨rfl, hd2⟩
              clear he
              go_wp2_with fail
              go_roundw
              case rel => exact ⟨u + 1, by omega, by go_num, HT, hd.trans hd2⟩
              case measure => simp [intOf]; omega
          · have HT := Lib.hid (show freeTo p l (rs.map Row.xs) (j + 1) = true by
              have h1 := HN.out
              rw [List.take_of_length_le hug] at h1
              rw [HS.out, HF.out, HFA.out, HSH.out, h1]; rfl)
            have hbz := below_dr hbw hd
            go_wp2_with fail
            go_roundw
            case rel => exact ⟨j + 1, by omega, by go_num, HT, hbz⟩
            case measure => simp [intOf]; omega
    · obtain rfl : j = p.length := by omega
      go_wp2_with fail
      go_ret
      exact ⟨ret_bool (by rw [← HB.out]; exact HF.out.symm), hb⟩
set_option maxHeartbeats 8000000 in
theorem l9Count_any (C : Option Addr) (e : Nat) (p : List Int) (A B : Option Addr) (c k : Nat) (xs : List Int) (rs : List Row) (w : World) (hp : In w C e p) (h : InM w A c xs B k rs) (h2 : ∀ r ∈ rs, r.xs.length = 2) (hP : permB p = true) (hQ : permB xs = true) :
    Calls Try.prog 85 #[.slice C p.length e, .agg #[.slice A xs.length c, .slice B rs.length k]] w (Rb w (.int .i64 (cntM p xs (rs.map Row.xs) : Nat))) := by
  have hp8 := (permB_true hP).1
  have hx8 := (permB_true hQ).1
  have HOC := Lib.hid (occ_eq hP hQ)
  have H22 := Lib.hid h2
  clear hP hQ h2
  go_enter Try.func85, Try.ntmps85
  have hb0 : Below w.heap.size w (w.alloc (Obj.cells #[Value.slice A xs.length c, Value.slice B rs.length k] 27)) := (Below.refl _ _).alloc (Nat.le_refl _) _
  have ob := obj_new w (Obj.cells #[Value.slice A xs.length c, Value.slice B rs.length k] 27)
  have hz0 : (w.alloc (Obj.cells #[Value.slice A xs.length c, Value.slice B rs.length k] 27)).heap.size = w.heap.size + 1 := by simp
  have FR := Lib.hid (find_root C A e c p xs (w.alloc (Obj.cells #[Value.slice A xs.length c, Value.slice B rs.length k] 27)) (hp.next hb0) (h.1.next hb0) hp8 hx8)
  rw [hz0] at FR
  have HZ := Lib.hid hz0
  clear hz0
  go_wp2_with fail
  (with_reducible refine FR.out.mono ?_)
  rintro e w1 ⟨A3, c3, ls, rfl, hX, hO, hb1⟩
  rw [HOC.out] at hX
  have ob := obj_below ob hb1 (obj_lt ob)
  have hb := hb0.trans (hb1.mono hb0.size)
  have hRd := hO.read
  have hlen : ls.length ≤ 16777216 := by
    have h1 := List.length_filter_le (fun l => decide (patL (atL p l) = xs)) (ascI p.length xs.length)
    have h2 := ascI_le p.length xs.length
    have h3 := pow_eight hp8 hx8
    have h4 := congrArg List.length hX
    rw [List.length_map] at h4
    unfold occI at h4
    omega
  have HX := Lib.hid hX
  clear hX hO hb1 hb0 FR
  go_wp2_with fail
  go_loopw [5, 7] (fun s i wr => ∃ j : Nat, j ≤ ls.length ∧ i = .int .i64 j ∧ s = .int .i64 (cntTo (fun r : Row => freeB p r.xs (rs.map Row.xs)) ls j : Nat) ∧ wr.heap[w.heap.size]? = some (Obj.cells #[Value.slice A xs.length c, Value.slice B rs.length k] 27) ∧ Below w1.heap.size w1 wr) (fun _ i _ => ls.length - (intOf i).toNat)
  case atStart => exact ⟨0, Nat.zero_le _, rfl, rfl, ob, Below.refl _ _⟩
  case round =>
    clear ob
    obtain ⟨j, hj, rfl, rfl, ob, hb4⟩ := hrel
    have hle := cntTo_le (fun r : Row => freeB p r.xs (rs.map Row.xs)) ls j
    have hsz4 := hb4.size
    rcases Nat.lt_or_ge j ls.length with hlt | hge
    · have hbd : Below w1.heap.size w1 wr.drew := below_dr hb4 (Dr.refl _).drew
      have hRd2 : Read wr.drew wr.drew.heap.size ls [⟨A3, c3, ls.map Row.v⟩] := (hRd.below hbd).more hbd.size
      obtain ⟨b, off, rfl, _, hc⟩ := hRd2.at (by omega)
      have cc : wr.cell? ⟨b, off + j, none⟩ = some (Value.slice ls[j].A ls[j].xs.length ls[j].c) := hc j hlt
      have ccd := hc j hlt
      have hmem := ascI_mem (List.mem_filter.1 (map_memX HX.out (List.getElem_mem hlt))).1
      have hml : ls[j].xs.length = xs.length := hmem.1
      have hlim : ∀ x ∈ ls[j].xs, 1 ≤ x ∧ x ≤ p.length := fun x hx => by have := hmem.2.1 x hx; omega
      have hl8 : ls[j].xs.length ≤ 8 := by omega
      have hin := row_in hRd2 (List.getElem_mem hlt) (by omega) (Nat.le_refl _)
      have hb5 := hb.trans (hbd.mono hb.size)
      have f1 : wr.cell? ⟨w.heap.size, 1, none⟩ = some (Value.slice B rs.length k) := (obj_cell ob).trans rfl
      have f1d : wr.drew.cell? ⟨w.heap.size, 1, none⟩ = some (Value.slice B rs.length k) := (obj_cell ob).trans rfl
      have hM : InM wr.drew A c xs B k rs := h.next hb5
      have hp2 := hp.next hb5
      have obd : wr.drew.heap[w.heap.size]? = some (Obj.cells #[Value.slice A xs.length c, Value.slice B rs.length k] 27) := ob
      have i0 : (0 : Int) ≤ (j : Int) := Int.natCast_nonneg _
      have i1 : (j : Int) < (ls.length : Int) := by omega
      clear hc hmem hml
      by_cases hH : freeB p ls[j].xs (rs.map Row.xs) = true
      · have HT := Lib.hid (cntTo_yes (H := fun r : Row => freeB p r.xs (rs.map Row.xs)) hlt hH)
        have HHB := Lib.hid hH
        have e1 : IntKind.i64.wrap (((cntTo (fun r : Row => freeB p r.xs (rs.map Row.xs)) ls j : Nat) : Int) + 1) = ((cntTo (fun r : Row => freeB p r.xs (rs.map Row.xs)) ls j : Nat) : Int) + 1 := IntWalk.i64_in _ (by omega)
        clear hH
        go_wp2_with fail
        go_region_held3 (fun v => v.cell? ⟨b, off + j, none⟩ = some (Value.slice ls[j].A ls[j].xs.length ls[j].c) ∧ v.cell? ⟨w.heap.size, 1, none⟩ = some (Value.slice B rs.length k)) (first | exact ⟨ccd, f1d⟩ | exact ⟨cc2, f12⟩)
          ((first | (go_at_call 128; (with_reducible refine (l9Fits_b C ls[j].A B _ ls[j].c k rs p ls[j].xs wr.drew true hp2 hin hM.2 H22.out hp8 hl8 hlim HHB.out).mono ?_); rintro e w2 ⟨rfl, hb6⟩; have ob1 := obj_below obd hb6 (obj_lt obd); have f12 : w2.cell? ⟨w.heap.size, 1, none⟩ = some (Value.slice B rs.length k) := (obj_cell ob1).trans rfl; have cc2 := (hRd2.below hb6).cellAt j hlt) | (go_at_call 91; (with_reducible refine (l1Bit_b true 1 _ rfl).mono ?_); rintro e w' ⟨rfl, rfl⟩)))
        clear cc2 f12
        go_wp2_with fail
        go_roundw
        case rel => exact ⟨j + 1, by omega, by go_num, by rw [HT.out]; all_goals go_num, ob1, hbd.trans (hb6.mono hbd.size)⟩
        case measure => simp [intOf]; omega
      · have hHf : freeB p ls[j].xs (rs.map Row.xs) = false := by simpa using hH
        have HT := Lib.hid (cntTo_no (H := fun r : Row => freeB p r.xs (rs.map Row.xs)) hlt hHf)
        have HHB := Lib.hid hHf
        have e1 : IntKind.i64.wrap (((cntTo (fun r : Row => freeB p r.xs (rs.map Row.xs)) ls j : Nat) : Int) + 0) = ((cntTo (fun r : Row => freeB p r.xs (rs.map Row.xs)) ls j : Nat) : Int) := by rw [Int.add_zero]; exact IntWalk.i64_in _ (by omega)
        have e2 : IntKind.i64.wrap ((cntTo (fun r : Row => freeB p r.xs (rs.map Row.xs)) ls j : Nat) : Int) = ((cntTo (fun r : Row => freeB p r.xs (rs.map Row.xs)) ls j : Nat) : Int) := IntWalk.i64_in _ (by omega)
        clear hH hHf
        go_wp2_with fail
        go_region_held3 (fun v => v.cell? ⟨b, off + j, none⟩ = some (Value.slice ls[j].A ls[j].xs.length ls[j].c) ∧ v.cell? ⟨w.heap.size, 1, none⟩ = some (Value.slice B rs.length k)) (first | exact ⟨ccd, f1d⟩ | exact ⟨cc2, f12⟩)
          ((first | (go_at_call 128; (with_reducible refine (l9Fits_b C ls[j].A B _ ls[j].c k rs p ls[j].xs wr.drew false hp2 hin hM.2 H22.out hp8 hl8 hlim HHB.out).mono ?_); rintro e w2 ⟨rfl, hb6⟩; have ob1 := obj_below obd hb6 (obj_lt obd); have f12 : w2.cell? ⟨w.heap.size, 1, none⟩ = some (Value.slice B rs.length k) := (obj_cell ob1).trans rfl; have cc2 := (hRd2.below hb6).cellAt j hlt) | (go_at_call 91; (with_reducible refine (l1Bit_b false 0 _ rfl).mono ?_); rintro e w' ⟨rfl, rfl⟩)))
        clear cc2 f12
        go_wp2_with fail
        go_roundw
        case rel => exact ⟨j + 1, by omega, by go_num, by rw [HT.out]; all_goals go_num, ob1, hbd.trans (hb6.mono hbd.size)⟩
        case measure => simp [intOf]; omega
    · obtain rfl : j = ls.length := by omega
      have HE := Lib.hid (show cntTo (fun r : Row => freeB p r.xs (rs.map Row.xs)) ls ls.length = cntM p xs (rs.map Row.xs) by
        rw [cntTo_all]; unfold cntM; rw [← HX.out, List.filter_map, List.length_map]; rfl)
      go_wp2_with fail
      go_ret
      exact ⟨ret_int (by rw [HE.out]), hb.trans (hb4.mono hb.size)⟩
set_option maxHeartbeats 2000000 in
theorem countMesh_spec (C : Option Addr) (e : Nat) (p : List Int) (A B : Option Addr) (c k : Nat) (xs : List Int) (rs : List Row) (w : World) (hp : In w C e p) (h : InM w A c xs B k rs) :
    Calls Try.prog 15 #[.slice C p.length e, .agg #[.slice A xs.length c, .slice B rs.length k]] w (Rb w (.int .i64 (cmG p xs (rs.map Row.xs)))) := by
  go_enter Try.func15, Try.ntmps15
  have hb0 : Below w.heap.size w (w.alloc (Obj.cells #[Value.slice A xs.length c, Value.slice B rs.length k] 27)) := (Below.refl _ _).alloc (Nat.le_refl _) _
  have ob := obj_new w (Obj.cells #[Value.slice A xs.length c, Value.slice B rs.length k] 27)
  go_wp2_with fail
  generalize (w.alloc (Obj.cells #[Value.slice A xs.length c, Value.slice B rs.length k] 27)) = w0 at hb0 ob ⊢
  by_cases hP : permB p = true
  · have H1 := Lib.hid hP
    have hp8 := (permB_true hP).1
    (with_reducible refine (isPerm_sb C e p w0 true (hp.next hb0) hP).mono ?_)
    rintro e w1 ⟨rfl, hd1⟩
    have ob := obj_dr ob hd1
    have hb := below_dr hb0 hd1
    have f0 : w1.cell? ⟨w.heap.size, 0, none⟩ = some (Value.slice A xs.length c) := (obj_cell ob).trans rfl
    have f1 : w1.cell? ⟨w.heap.size, 1, none⟩ = some (Value.slice B rs.length k) := (obj_cell ob).trans rfl
    clear hP
    go_wp2_with fail
    by_cases hM : meshB xs (rs.map Row.xs) = true
    · have HG := Lib.hid (show cmG p xs (rs.map Row.xs) = (cntM p xs (rs.map Row.xs) : Int) by unfold cmG; rw [if_pos ⟨H1.out, hM⟩])
      have HM := Lib.hid hM
      have h2 := rows_two hM
      (with_reducible refine (mesh_sb A B c k xs rs w1 true (h.next hb) hM).mono ?_)
      rintro e w2 ⟨rfl, hb2⟩
      have ob := obj_below ob hb2 (obj_lt ob)
      have hb := hb.trans (hb2.mono hb.size)
      have f0 : w2.cell? ⟨w.heap.size, 0, none⟩ = some (Value.slice A xs.length c) := (obj_cell ob).trans rfl
      have f1 : w2.cell? ⟨w.heap.size, 1, none⟩ = some (Value.slice B rs.length k) := (obj_cell ob).trans rfl
      clear hM
      go_wp2_with fail
      (with_reducible refine (l9Count_any C _ p A B c k xs rs w2 (hp.next hb) (h.next hb) h2 H1.out (mesh_perm HM.out).1).mono ?_)
      rintro e w3 ⟨rfl, hb3⟩
      go_wp2_with fail
      go_ret
      exact ⟨ret_int (by rw [HG.out]), hb.trans (hb3.mono hb.size)⟩
    · have hMf : meshB xs (rs.map Row.xs) = false := by simpa using hM
      have HG := Lib.hid (show cmG p xs (rs.map Row.xs) = -1 by unfold cmG; rw [if_neg]; exact fun h => hM h.2)
      (with_reducible refine (mesh_sb A B c k xs rs w1 false (h.next hb) hMf).mono ?_)
      rintro e w2 ⟨rfl, hb2⟩
      clear hM hMf
      go_wp2_with fail
      go_ret
      exact ⟨ret_int (by rw [HG.out]), hb.trans (hb2.mono hb.size)⟩
  · have hPf : permB p = false := by simpa using hP
    have HG := Lib.hid (show cmG p xs (rs.map Row.xs) = -1 by unfold cmG; rw [if_neg]; exact fun h => hP h.1)
    (with_reducible refine (isPerm_sb C e p w0 false (hp.next hb0) hPf).mono ?_)
    rintro e w1 ⟨rfl, hd1⟩
    clear hP hPf
    go_wp2_with fail
    go_ret
    exact ⟨ret_int (by rw [HG.out]), below_dr hb0 hd1⟩
end Go.Proofs.Ythipikllgpnlhaa

/- The draws of FnRuns: pairs of lists, numbers. -/
namespace Go.Proofs.Ythipikllgpnlhaa
set_option maxRecDepth 100000
open Go Go.RowKit

/-- Two lists were drawn, both read. -/
def RetII (w : World) (ok : List Int → List Int → Prop) (en : Ending) (w' : World) : Prop :=
  ∃ D k xs E m ys, en = .returned (.tuple #[.slice D xs.length k, .slice E ys.length m]) ∧ ok xs ys ∧ In w' D k xs ∧ In w' E m ys ∧ Below w.heap.size w w'
theorem In.of_own {w : World} {base e c : Nat} {A : Option Addr} {xs : List Int} (h : w.ownsRow base e 1 (.slice A xs.length c) xs.length (xs.map (Value.int .i64))) (hl : xs.length ≤ 1048576) : In w A c xs := ⟨hl, (own_caps h).1, Rd.of_own h⟩
set_option maxHeartbeats 2000000 in
theorem l7Case_any (A : Option Addr) (c : Nat) (bs : List Int) (w : World) (h : InY w A c bs) :
    Calls Try.prog 102 #[.slice A bs.length c] w (RetII w fun xs ys => xs.length ≤ 9 ∧ ys.length ≤ 9) := by
  have HC := Lib.hid (l1New_any A c bs w h.len h.rd)
  go_enter Try.func102, Try.ntmps102
  go_wp2_with fail
  (with_reducible refine HC.out.mono ?_)
  rintro e w1 ⟨q, rfl, hq, hc, hb⟩
  have HD := Lib.hid (l2Bent_any w1 q A c bs hc)
  clear HC
  go_wp2_with fail
  (with_reducible refine HD.out.mono ?_)
  rintro e w2 ⟨D, k, xs, rfl, hl, ho, k1⟩
  have HO := Lib.hid (l1Once_any w2 q A c bs 14 (by omega) k1.cur)
  clear HD
  go_wp2_with fail
  (with_reducible refine HO.out.mono ?_)
  rintro e w3 ⟨b, rfl, kb⟩
  have hq1 := hc.lt
  have ho := own_drawn ho kb hq1
  have k2 := k1.trans kb
  have hsz := k2.span.size
  clear HO k1 kb
  rcases b with _ | _
  · have kA := k2.next (((Below.refl w3.heap.size w3).alloc (Nat.le_refl _) (.cells #[.int .i64 0, .int .i64 1, .int .i64 2, .int .i64 3, .int .i64 3, .int .i64 4] 3)).mono hsz) hq1
    have hoA := own_below ho ((Below.refl w3.heap.size w3).alloc (Nat.le_refl _) (.cells #[.int .i64 0, .int .i64 1, .int .i64 2, .int .i64 3, .int .i64 3, .int .i64 4] 3))
    have HP := Lib.hid (l1PickInt_any _ q A c bs w3.heap.size 6 6 [0, 1, 2, 3, 3, 4] rfl (by decide) (by decide) (by omega) (by simp) (fun j hj => (obj_cell (obj_new w3 _)).trans (by
      have hj : j < 6 := hj
      rcases j with _ | _ | _ | _ | _ | _ | j
      all_goals first | rfl | omega)) kA.cur)
    go_wp2_with fail
    (with_reducible refine HP.out.mono ?_)
    rintro e w4 ⟨x, rfl, hx, k3⟩
    have hx8 : 0 ≤ x ∧ x ≤ 4 := by simp at hx; omega
    obtain ⟨n, rfl⟩ := Int.eq_ofNat_of_zero_le hx8.1
    have ho := own_drawn hoA k3 hq1
    have k4 := kA.trans k3
    have HD := Lib.hid (l2Draw_any w4 q A c bs n (by omega) k4.cur)
    clear HP hx
    go_wp2_with fail
    (with_reducible refine HD.out.mono ?_)
    rintro e w5 ⟨E, m, ys, rfl, hp, ho2, k5⟩
    have hyl : ys.length = n := by rw [hp.length_eq, upToL_length]
    have ho := own_drawn ho k5 hq1
    have HR := Lib.hid (show ys.length ≤ 9 by omega)
    have k6 := k4.trans k5
    clear hyl hp
    go_wp2_with fail
    go_ret2
    exact ⟨D, k, xs, E, m, ys, rfl, ⟨hl, HR.out⟩, In.of_own ho (by omega), In.of_own ho2 (by have := HR.out; omega), hb.trans (k6.below hq hb.size)⟩
  · have HD := Lib.hid (l2Bent_any w3 q A c bs k2.cur)
    go_wp2_with fail
    (with_reducible refine HD.out.mono ?_)
    rintro e w4 ⟨E, m, ys, rfl, hl2, ho2, k4⟩
    have ho := own_drawn ho k4 hq1
    go_wp2_with fail
    go_ret2
    exact ⟨D, k, xs, E, m, ys, rfl, ⟨hl, hl2⟩, In.of_own ho (by omega), In.of_own ho2 (by omega), hb.trans ((k2.trans k4).below hq hb.size)⟩
set_option maxHeartbeats 800000 in
theorem drawCountRuns (A : Option Addr) (c : Nat) (bs : List Int) (w : World) (h : InY w A c bs) :
    Calls Try.prog 48 #[.slice A bs.length c] w (RetII w fun xs ys => xs.length ≤ 9 ∧ ys.length ≤ 9) := by
  have HC := Lib.hid (l7Case_any A c bs w h)
  go_enter Try.func48, Try.ntmps48
  go_wp2_with fail
  (with_reducible refine HC.out.mono ?_)
  rintro e w1 ⟨D, k, xs, E, m, ys, rfl, hok, h1, h2, hb⟩
  go_wp2_with fail
  go_ret2
  exact ⟨D, k, xs, E, m, ys, rfl, hok, h1, h2, hb⟩
set_option maxHeartbeats 800000 in
theorem drawOverlaps (A : Option Addr) (c : Nat) (bs : List Int) (w : World) (h : InY w A c bs) :
    Calls Try.prog 50 #[.slice A bs.length c] w (RetDL w fun ys => ys.length ≤ 9) := by
  have HC := Lib.hid (l1New_any A c bs w h.len h.rd)
  go_enter Try.func50, Try.ntmps50
  go_wp2_with fail
  (with_reducible refine HC.out.mono ?_)
  rintro e w1 ⟨q, rfl, hq, hc, hb⟩
  have HD := Lib.hid (l2Bent_any w1 q A c bs hc)
  go_wp2_with fail
  (with_reducible refine HD.out.mono ?_)
  rintro e w2 ⟨D, k, ys, rfl, hl, ho, k1⟩
  go_wp2_with fail
  go_ret
  exact ⟨D, k, ys, rfl, hl, own_mono ho hb.size, hb.trans (k1.below hq hb.size)⟩
set_option maxHeartbeats 800000 in
theorem drawAlternatingN (A : Option Addr) (c : Nat) (bs : List Int) (w : World) (h : InY w A c bs) :
    Calls Try.prog 53 #[.slice A bs.length c] w fun en w' => ∃ x : Int, en = .returned (.int .i64 x) ∧ -1 ≤ x ∧ x ≤ 13 ∧ Below w.heap.size w w' := by
  have HC := Lib.hid (l1New_any A c bs w h.len h.rd)
  go_enter Try.func53, Try.ntmps53
  go_wp2_with fail
  (with_reducible refine HC.out.mono ?_)
  rintro e w1 ⟨q, rfl, hq, hc, hb⟩
  have HD := Lib.hid (l1Below_any w1 q A c bs 15 (by omega) hc)
  go_wp2_with fail
  (with_reducible refine HD.out.mono ?_)
  rintro e w2 ⟨x, rfl, hx, k1⟩
  have e1 : IntKind.i64.wrap (x - 1) = x - 1 := IntWalk.i64_in _ (by omega)
  go_wp2_with fail
  go_ret
  exact ⟨x - 1, by first | rfl | (simp only [e1]), by omega, by omega, hb.trans (k1.below hq hb.size)⟩
set_option maxHeartbeats 800000 in
theorem drawAvoidRuns (A : Option Addr) (c : Nat) (bs : List Int) (w : World) (h : InY w A c bs) :
    Calls Try.prog 49 #[.slice A bs.length c] w fun en w' => ∃ (x : Int) (E : Option Addr) (m : Nat) (ys : List Int), en = .returned (.tuple #[.int .i64 x, .slice E ys.length m]) ∧ -1 ≤ x ∧ x ≤ 5 ∧ ys.length ≤ 4 ∧ ys.Perm (upToL ys.length) ∧
      In w' E m ys ∧ Below w.heap.size w w' := by
  have HC := Lib.hid (l1New_any A c bs w h.len h.rd)
  go_enter Try.func49, Try.ntmps49
  go_wp2_with fail
  (with_reducible refine HC.out.mono ?_)
  rintro e w1 ⟨q, rfl, hq, hc, hb⟩
  have HD := Lib.hid (l1Below_any w1 q A c bs 6 (by omega) hc)
  clear HC
  go_wp2_with fail
  (with_reducible refine HD.out.mono ?_)
  rintro e w2 ⟨x, rfl, hx, k1⟩
  have HO := Lib.hid (l1Once_any w2 q A c bs 12 (by omega) k1.cur)
  clear HD
  go_wp2_with fail
  (with_reducible refine HO.out.mono ?_)
  rintro e w3 ⟨b, rfl, kb⟩
  have k2 := k1.trans kb
  obtain ⟨y, hy⟩ : ∃ y : Int, (if b = true then (1 : Int) else 0) = y := ⟨_, rfl⟩
  have hyb : 0 ≤ y ∧ y ≤ 1 := by rcases b with _ | _ <;> simp at hy <;> omega
  have HB := Lib.hid (l1Bit_b b y w3 hy)
  clear HO k1 kb hy
  go_wp2_with fail
  (with_reducible refine HB.out.mono ?_)
  rintro e w4 ⟨rfl, rfl⟩
  have e1 : IntKind.i64.wrap (x - y) = x - y := IntWalk.i64_in _ (by omega)
  have hx1 : -1 ≤ x - y ∧ x - y ≤ 5 := by omega
  have HD := Lib.hid (l1Below_any w3 q A c bs 5 (by omega) k2.cur)
  clear HB
  go_wp2_with fail
  (with_reducible refine HD.out.mono ?_)
  rintro e w4 ⟨z, rfl, hz, k3⟩
  obtain ⟨n, rfl⟩ := Int.eq_ofNat_of_zero_le hz.1
  have k4 := k2.trans k3
  have HE := Lib.hid (l2Draw_any w4 q A c bs n (by omega) k4.cur)
  clear HD
  go_wp2_with fail
  (with_reducible refine HE.out.mono ?_)
  rintro e w5 ⟨E, m, ys, rfl, hp, ho2, k5⟩
  have hyl : ys.length = n := by rw [hp.length_eq, upToL_length]
  have HP := Lib.hid hp
  have HR := Lib.hid (show ys.length ≤ 4 by omega)
  have HQ := Lib.hid hyl
  clear hyl hp
  have k6 := k4.trans k5
  go_wp2_with fail
  go_ret2
  exact ⟨x - y, E, m, ys, by first | rfl | (simp only [e1]), hx1.1, hx1.2, HR.out, by rw [HQ.out]; exact HP.out, In.of_own ho2 (by have := HR.out; omega), hb.trans (k6.below hq hb.size)⟩
set_option maxHeartbeats 800000 in
theorem drawChoose (A : Option Addr) (c : Nat) (bs : List Int) (w : World) (h : InY w A c bs) :
    Calls Try.prog 54 #[.slice A bs.length c] w fun en w' => ∃ x y : Int, en = .returned (.tuple #[.int .i64 x, .int .i64 y]) ∧ -1 ≤ x ∧ x ≤ 41 ∧ -1 ≤ y ∧ y ≤ 43 ∧ Below w.heap.size w w' := by
  have HC := Lib.hid (l1New_any A c bs w h.len h.rd)
  go_enter Try.func54, Try.ntmps54
  go_wp2_with fail
  (with_reducible refine HC.out.mono ?_)
  rintro e w1 ⟨q, rfl, hq, hc, hb⟩
  have HD := Lib.hid (l1Below_any w1 q A c bs 12 (by omega) hc)
  clear HC
  go_wp2_with fail
  (with_reducible refine HD.out.mono ?_)
  rintro e w2 ⟨x, rfl, hx, k1⟩
  have HD := Lib.hid (l1Below_any w2 q A c bs 41 (by omega) k1.cur)
  go_wp2_with fail
  (with_reducible refine HD.out.mono ?_)
  rintro e w3 ⟨y, rfl, hy, k2⟩
  have k2 := k1.trans k2
  have kA := k2.next (((Below.refl w3.heap.size w3).alloc (Nat.le_refl _) (.cells #[.int .i64 x, .int .i64 y, .int .i64 (-1), .int .i64 40, .int .i64 41] 3)).mono k2.span.size) hc.lt
  have HP := Lib.hid (l1PickInt_any _ q A c bs w3.heap.size 5 5 [x, y, -1, 40, 41] rfl (by simp) (by simp) (by have := hc.lt; have := k2.span.size; omega) (by simp) (fun j hj => (obj_cell (obj_new w3 _)).trans (by
    have hj : j < 5 := hj
    rcases j with _ | _ | _ | _ | _ | j
    all_goals first | rfl | omega)) kA.cur)
  clear HD
  go_wp2_with fail
  (with_reducible refine HP.out.mono ?_)
  rintro e w4 ⟨z, rfl, hz, k3⟩
  have hz8 : -1 ≤ z ∧ z ≤ 41 := by simp at hz; omega
  have k4 := kA.trans k3
  have e1 : IntKind.i64.wrap (z + 2) = z + 2 := IntWalk.i64_in _ (by omega)
  obtain ⟨u, hu⟩ : ∃ u, max 1 (z + 2) = u := ⟨_, rfl⟩
  have hub : 1 ≤ u ∧ u ≤ 43 := by omega
  have HM := Lib.hid (l1Max_b 1 (z + 2) u w4 hu)
  clear HP hu hz hx hy
  go_wp2_with fail
  (with_reducible refine HM.out.mono ?_)
  rintro e w5 ⟨rfl, rfl⟩
  have HD := Lib.hid (l1Below_any w4 q A c bs u (by omega) k4.cur)
  clear HM
  go_wp2_with fail
  (with_reducible refine HD.out.mono ?_)
  rintro e w5 ⟨v, rfl, hv, k5⟩
  have k5 := k4.trans k5
  have hvb : 0 ≤ v ∧ v ≤ 43 := by have := hv.2.1 (by omega); omega
  have HO := Lib.hid (l1Once_any w5 q A c bs 10 (by omega) k5.cur)
  clear HD hv
  go_wp2_with fail
  (with_reducible refine HO.out.mono ?_)
  rintro e w6 ⟨b, rfl, kb⟩
  have k6 := k5.trans kb
  obtain ⟨t, ht⟩ : ∃ y : Int, (if b = true then (1 : Int) else 0) = y := ⟨_, rfl⟩
  have htb : 0 ≤ t ∧ t ≤ 1 := by rcases b with _ | _ <;> simp at ht <;> omega
  have HB := Lib.hid (l1Bit_b b t w6 ht)
  clear HO ht
  go_wp2_with fail
  (with_reducible refine HB.out.mono ?_)
  rintro e w7 ⟨rfl, rfl⟩
  have e2 : IntKind.i64.wrap (v - t) = v - t := IntWalk.i64_in _ (by omega)
  go_wp2_with fail
  go_ret2
  exact ⟨z, v - t, by first | rfl | (simp only [e2]), hz8.1, hz8.2, by omega, by omega, hb.trans (k6.below hq hb.size)⟩
end Go.Proofs.Ythipikllgpnlhaa

/- A mesh, or a pattern with joined places, that a draw builds in a box: what stands while it grows. Plain lemmas. -/
namespace Go.Proofs.Ythipikllgpnlhaa
set_option maxRecDepth 100000
open Go Go.RowKit

/-- A block of another type is written. -/
theorem own_boxed {w : World} {base e n g i : Nat} {v u : Value} {xs : List Value} {cs : Array Value} {t : TypeId} (h : w.ownsRow base e 1 v n xs) (ho : w.heap[g]? = some (Obj.cells cs t (0, 0))) (hne : t ≠ e) : (w.setCell ⟨g, i, none⟩ u).ownsRow base e 1 v n xs := by
  refine own_span h (Span.set (p := ⟨g, i, none⟩) (Nat.le_refl g) (Nat.lt_succ_self g) u) fun q hq => ?_
  rcases h.2 with ⟨e1, _⟩ | ⟨g1, c1, cur1, e1', _, hh1, _⟩
  · rw [e1] at hq; cases hq
  · rw [e1'] at hq
    injection hq with hq
    have hq : g1 = q := hq
    subst hq
    by_cases hgq : g1 = g
    · subst hgq
      rw [ho] at hh1
      injection hh1 with hh1
      injection hh1 with _ ht _
      exact absurd ht hne
    · omega
theorem Own.boxed {w : World} {lo hi g i : Nat} {u : Value} {cs : Array Value} {t : TypeId} {rs : List Row} {os : List Outer} (h : Own w lo hi rs os) (ho : w.heap[g]? = some (Obj.cells cs t (0, 0))) (h1 : t ≠ 3) (h2 : t ≠ 24) : Own (w.setCell ⟨g, i, none⟩ u) lo hi rs os :=
  ⟨fun r hr => own_boxed (h.rows r hr) ho h1, h.lt, h.apart, fun o hq => own_boxed (h.outs o hq) ho h2, h.olt⟩
theorem own_noblock {w : World} {base e n g : Nat} {v : Value} {xs : List Value} {cs : Array Value} {t : TypeId} (h : w.ownsRow base e 1 v n xs) (ho : w.heap[g]? = some (Obj.cells cs t (0, 0))) (hne : t ≠ e) : some g ≠ v.ownBlock := by
  intro e'
  rcases h.2 with ⟨e1, _⟩ | ⟨g1, c1, cur1, e1, _, hh1, _⟩
  · rw [e1] at e'; cases e'
  · rw [e1] at e'
    injection e' with e'
    have e' : g = g1 := e'
    subst e'
    rw [ho] at hh1
    injection hh1 with hh1
    injection hh1 with _ ht _
    exact hne ht
theorem own_lit1 {w : World} {lo bl : Nat} {x : Int} (h : w.heap[bl]? = some (Obj.cells #[.int .i64 x] 3 (0, 0))) (hl : lo ≤ bl) : w.ownsRow lo 3 1 (.slice (some ⟨bl, 0, none⟩) [x].length 1) [x].length ([x].map (Value.int .i64)) :=
  ⟨rfl, .inr ⟨bl, 1, #[.int .i64 x], rfl, hl, h, Nat.le_refl _, by unfold maxLen; omega, rfl, rfl⟩⟩
theorem own_lit2 {w : World} {lo bl : Nat} {x y : Int} (h : w.heap[bl]? = some (Obj.cells #[.int .i64 x, .int .i64 y] 3 (0, 0))) (hl : lo ≤ bl) : w.ownsRow lo 3 1 (.slice (some ⟨bl, 0, none⟩) [x, y].length 2) [x, y].length ([x, y].map (Value.int .i64)) :=
  ⟨rfl, .inr ⟨bl, 2, #[.int .i64 x, .int .i64 y], rfl, hl, h, Nat.le_refl _, by unfold maxLen; omega, rfl, rfl⟩⟩
theorem sizeR_le2 {rs : List Row} (h : ∀ r ∈ rs, r.xs.length ≤ 2) : sizeR rs ≤ 2 * rs.length := by
  induction rs with
  | nil => exact Nat.le_refl _
  | cons r t ih =>
    have h1 := ih fun s hs => h s (List.mem_cons_of_mem _ hs)
    have h2 := h r List.mem_cons_self
    simp only [sizeR, List.map_cons, List.sum_cons, List.length_cons] at h1 ⊢
    omega
/-- The mesh in block G; the result's box in block b2. -/
structure MeshSt (w0 wz : World) (q G b2 : Nat) (A : Option Addr) (c : Nat) (bs : List Int) (P : Option Addr) (pk : Nat) (p : List Int) (S : Option Addr) (k : Nat) (rs : List Row) : Prop where
  og : wz.heap[G]? = some (Obj.cells #[Value.slice P p.length pk, Value.slice S rs.length k] 27)
  ob : wz.heap[b2]? = some (Obj.cells #[Value.slice none 0 0, Value.slice none 0 0] 27)
  own : Own wz w0.heap.size wz.heap.size rs [⟨S, k, rs.map Row.v⟩]
  ownP : wz.ownsRow w0.heap.size 3 1 (.slice P p.length pk) p.length (p.map (Value.int .i64))
  dr : Drawn w0 wz q A c bs
  hq : q < w0.heap.size
  hG : w0.heap.size ≤ G
  hb : w0.heap.size ≤ b2
  hne : G ≠ b2
section
variable {w0 wz wy : World} {q G b2 : Nat} {A : Option Addr} {c : Nat} {bs : List Int} {P : Option Addr} {pk : Nat} {p : List Int} {S : Option Addr} {k : Nat} {rs : List Row}
theorem MeshSt.below (h : MeshSt w0 wz q G b2 A c bs P pk p S k rs) (hb : Below wz.heap.size wz wy) : MeshSt w0 wy q G b2 A c bs P pk p S k rs :=
  ⟨obj_below h.og hb (obj_lt h.og), obj_below h.ob hb (obj_lt h.ob), (h.own.below hb).wider (Nat.le_refl _) hb.size, own_below h.ownP hb, h.dr.next (hb.mono h.dr.span.size) h.hq, h.hq, h.hG, h.hb, h.hne⟩
theorem MeshSt.alloc (h : MeshSt w0 wz q G b2 A c bs P pk p S k rs) (o : Obj) : MeshSt w0 (wz.alloc o) q G b2 A c bs P pk p S k rs := h.below ((Below.refl _ _).alloc (Nat.le_refl _) o)
theorem MeshSt.moved (h : MeshSt w0 wz q G b2 A c bs P pk p S k rs) (hd : Dr wz wy) : MeshSt w0 wy q G b2 A c bs P pk p S k rs := h.below (below_dr (Below.refl _ _) hd)
theorem MeshSt.drawn (h : MeshSt w0 wz q G b2 A c bs P pk p S k rs) (ka : Drawn wz wy q A c bs) : MeshSt w0 wy q G b2 A c bs P pk p S k rs :=
  ⟨(ka.span.block G (obj_lt h.og) (.inr (by have := h.hG; have := h.hq; omega))).trans h.og, (ka.span.block b2 (obj_lt h.ob) (.inr (by have := h.hb; have := h.hq; omega))).trans h.ob,
    (h.own.span ka.span (.inr h.hq)).wider (Nat.le_refl _) ka.span.size, own_drawn h.ownP ka h.hq, h.dr.trans ka, h.hq, h.hG, h.hb, h.hne⟩
theorem MeshSt.cells (h : MeshSt w0 wz q G b2 A c bs P pk p S k rs) : wz.cell? ⟨G, 0, none⟩ = some (Value.slice P p.length pk) ∧ wz.cell? ⟨G, 1, none⟩ = some (Value.slice S rs.length k) := ⟨(obj_cell h.og).trans rfl, (obj_cell h.og).trans rfl⟩
/-- A row is put at the end. -/
theorem MeshSt.push {w9 : World} {r : Row} {lit o : Obj} {v9 : Value} {n : Nat} (h : MeshSt w0 wz q G b2 A c bs P pk p S k rs) (hn : rs.length = n)
    (hr : (wz.alloc lit).ownsRow wz.heap.size 3 1 r.v r.xs.length (r.xs.map (Value.int .i64))) (h9 : w9.ownsRow w0.heap.size 24 1 v9 (n + 1) (rs.map Row.v ++ [r.v])) (hg : ((wz.alloc lit).alloc o).grownBy w9 (Value.slice S n k).ownBlock) :
    ∃ A2 c2, v9 = .slice A2 (n + 1) c2 ∧ w9.cell? ⟨G, 1, none⟩ = some (.slice S n k) ∧ w9.frozen? ⟨G, 1, none⟩ = false ∧
      Hid (MeshSt w0 (w9.setCell ⟨G, 1, none⟩ (.slice A2 (n + 1) c2)) q G b2 A c bs P pk p A2 c2 (rs ++ [r])) := by
  subst hn
  have hsz : wz.heap.size ≤ (wz.alloc lit).heap.size := by simp
  have hA := h.alloc lit
  have h1 : Own (wz.alloc lit) w0.heap.size (wz.alloc lit).heap.size (rs ++ [r]) [⟨S, k, rs.map Row.v⟩] :=
    ((hA.own.bare.lim wz.heap.size h.own.lt).add hr hsz h.dr.span.size).with_ hA.own.out (Nat.le_refl _)
  obtain ⟨A2, c2, rfl, hO, hgg⟩ := h1.grow (Nat.le_refl _) (by simp) h9 hg
  have hout : (wz.alloc lit).ownsRow w0.heap.size 24 1 (.slice S rs.length k) rs.length (rs.map Row.v) := by have := hA.own.out; simpa using this
  have og := (hgg.block G (obj_lt hA.og) (own_noblock hout hA.og (by decide))).trans hA.og
  have ob := (hgg.block b2 (obj_lt hA.ob) (own_noblock hout hA.ob (by decide))).trans hA.ob
  have hP := hA.ownP.kept hgg (own_typesO hA.ownP hout (by decide))
  have hb9 : Below w0.heap.size (wz.alloc lit) w9 := (Below.refl _ _).grown hgg hA.dr.span.size fun g hg => (hout.lt g hg).1
  have hd9 := (hA.dr.next hb9 h.hq).next ((Below.refl w0.heap.size w9).setCell (p := ⟨G, 1, none⟩) h.hG (.slice A2 (rs.length + 1) c2)) h.hq
  refine ⟨A2, c2, rfl, (obj_cell og).trans rfl, obj_frozen og, Lib.hid ⟨?_, ?_, ?_, own_boxed hP og (by decide), hd9, h.hq, h.hG, h.hb, h.hne⟩⟩
  · have := obj_set (i := 1) og (Value.slice A2 (rs.length + 1) c2)
    simpa using this
  · exact obj_other ob h.hne _
  · have h2 := (hO.boxed (g := G) (i := 1) (u := Value.slice A2 (rs.length + 1) c2) og (by decide) (by decide)).wider (Nat.le_refl _) (show w9.heap.size ≤ (w9.setCell ⟨G, 1, none⟩ (Value.slice A2 (rs.length + 1) c2)).heap.size by simp [World.setCell])
    simpa using h2
/-- Another permutation is laid into the box. -/
theorem MeshSt.perm {P' : Option Addr} {pk' : Nat} {p' : List Int} (h : MeshSt w0 wz q G b2 A c bs P pk p S k rs) (hP : wz.ownsRow w0.heap.size 3 1 (.slice P' p'.length pk') p'.length (p'.map (Value.int .i64))) :
    MeshSt w0 (wz.setCell ⟨G, 0, none⟩ (.slice P' p'.length pk')) q G b2 A c bs P' pk' p' S k rs := by
  refine ⟨?_, obj_other h.ob h.hne _, (h.own.boxed h.og (by decide) (by decide)).wider (Nat.le_refl _) (by simp [World.setCell]), own_boxed hP h.og (by decide), h.dr.next ((Below.refl w0.heap.size wz).setCell (p := ⟨G, 0, none⟩) h.hG _) h.hq, h.hq, h.hG, h.hb, h.hne⟩
  have := obj_set (i := 0) h.og (Value.slice P' p'.length pk')
  simpa using this
/-- The result is laid into its box. -/
theorem MeshSt.fin (h : MeshSt w0 wz q G b2 A c bs P pk p S k rs) :
    ((wz.setCell ⟨b2, 0, none⟩ (.slice P p.length pk)).setCell ⟨b2, 1, none⟩ (.slice S rs.length k)).ownsRow w0.heap.size 3 1 (.slice P p.length pk) p.length (p.map (Value.int .i64)) ∧
    Own ((wz.setCell ⟨b2, 0, none⟩ (.slice P p.length pk)).setCell ⟨b2, 1, none⟩ (.slice S rs.length k)) w0.heap.size ((wz.setCell ⟨b2, 0, none⟩ (.slice P p.length pk)).setCell ⟨b2, 1, none⟩ (.slice S rs.length k)).heap.size rs [⟨S, k, rs.map Row.v⟩] ∧
    Drawn w0 ((wz.setCell ⟨b2, 0, none⟩ (.slice P p.length pk)).setCell ⟨b2, 1, none⟩ (.slice S rs.length k)) q A c bs ∧
    ((wz.setCell ⟨b2, 0, none⟩ (.slice P p.length pk)).setCell ⟨b2, 1, none⟩ (.slice S rs.length k)).heap[b2]? = some (Obj.cells #[Value.slice P p.length pk, Value.slice S rs.length k] 27) := by
  have o1 := obj_set (i := 0) h.ob (Value.slice P p.length pk)
  have o2 := obj_set (i := 1) o1 (Value.slice S rs.length k)
  have hP := own_boxed (i := 1) (u := Value.slice S rs.length k) (own_boxed (i := 0) (u := Value.slice P p.length pk) h.ownP h.ob (by decide)) o1 (by decide)
  have hO := (h.own.boxed (i := 0) (u := Value.slice P p.length pk) h.ob (by decide) (by decide)).boxed (i := 1) (u := Value.slice S rs.length k) o1 (by decide) (by decide)
  refine ⟨hP, hO.wider (Nat.le_refl _) (by simp [World.setCell]), h.dr.next (((Below.refl w0.heap.size wz).setCell (p := ⟨b2, 0, none⟩) h.hb _).setCell (p := ⟨b2, 1, none⟩) h.hb _) h.hq, ?_⟩
  simpa using o2
end
end Go.Proofs.Ythipikllgpnlhaa

/- l9Draw, DrawCountMesh: a mesh that is drawn. Written by gen/gend7.py. -/
namespace Go.Proofs.Ythipikllgpnlhaa
set_option maxRecDepth 100000
open Go Go.RowKit

/-- A mesh was drawn. -/
def RetDM (w : World) (q : Nat) (A : Option Addr) (c : Nat) (bs : List Int) (en : Ending) (w' : World) : Prop :=
  ∃ (P : Option Addr) (pk : Nat) (p : List Int) (S : Option Addr) (k : Nat) (rs : List Row), en = .returned (.agg #[.slice P p.length pk, .slice S rs.length k]) ∧ p.length ≤ 5 ∧ rs.length ≤ 17 ∧ (∀ r ∈ rs, r.xs.length ≤ 2) ∧
    w'.ownsRow w.heap.size 3 1 (.slice P p.length pk) p.length (p.map (Value.int .i64)) ∧ Own w' w.heap.size w'.heap.size rs [⟨S, k, rs.map Row.v⟩] ∧ Drawn w w' q A c bs
set_option maxHeartbeats 8000000 in
theorem l9Draw_any (w : World) (q : Nat) (A : Option Addr) (c : Nat) (bs : List Int) (hc : Cur w q A c bs) :
    Calls Try.prog 73 #[.pointer (some ⟨q, 0, none⟩)] w (RetDM w q A c bs) := by
  obtain ⟨i0, hi, hz0, hz1, hz2⟩ := info_parts infoI
  obtain ⟨j0, hj, hy0, hy1, hy2⟩ := info_parts infoL
  have hq := hc.lt
  have ob := obj_alloc (obj_new w (Obj.cells #[Value.slice none 0 0, Value.slice none 0 0] 27)) (Obj.cells #[Value.int .i64 0, Value.int .i64 1, Value.int .i64 2, Value.int .i64 2, Value.int .i64 3, Value.int .i64 3] 3)
  have hbA : Below w.heap.size w ((w.alloc (Obj.cells #[Value.slice none 0 0, Value.slice none 0 0] 27)).alloc (Obj.cells #[Value.int .i64 0, Value.int .i64 1, Value.int .i64 2, Value.int .i64 2, Value.int .i64 3, Value.int .i64 3] 3)) := ((Below.refl _ _).alloc (Nat.le_refl _) _).alloc (by simp) _
  have kA := (Drawn.refl hc).next hbA hq
  have HP := Lib.hid (l1PickInt_any _ q A c bs (w.heap.size + 1) 6 6 [0, 1, 2, 2, 3, 3] rfl (by decide) (by decide) (by omega) (by simp) (fun j hj => (obj_cell (by have := obj_new (w.alloc (Obj.cells #[Value.slice none 0 0, Value.slice none 0 0] 27)) (Obj.cells #[Value.int .i64 0, Value.int .i64 1, Value.int .i64 2, Value.int .i64 2, Value.int .i64 3, Value.int .i64 3] 3); simpa using this)).trans (by
    have hj : j < 6 := hj
    rcases j with _ | _ | _ | _ | _ | _ | j
    all_goals first | rfl | omega)) kA.cur)
  go_enter Try.func73, Try.ntmps73
  go_wp2_with fail
  (with_reducible refine HP.out.mono ?_)
  rintro e w1 ⟨x, rfl, hx, k1⟩
  have hx8 : 0 ≤ x ∧ x ≤ 3 := by simp at hx; omega
  obtain ⟨n, rfl⟩ := Int.eq_ofNat_of_zero_le hx8.1
  have ob := (k1.span.block w.heap.size (obj_lt ob) (.inr (by omega))).trans ob
  have k1 := kA.trans k1
  have HD := Lib.hid (l2Draw_any w1 q A c bs n (by omega) k1.cur)
  clear HP hx
  go_wp2_with fail
  (with_reducible refine HD.out.mono ?_)
  rintro e w2 ⟨P, pk, p, rfl, hp, ho, k2⟩
  have hp3 : p.length ≤ 3 := by rw [hp.length_eq, upToL_length]; omega
  have ob := (k2.span.block w.heap.size (obj_lt ob) (.inr (by omega))).trans ob
  have hsz := k1.span.size
  have k2 := k1.trans k2
  have hsz2 := k2.span.size
  have hlt2 : w.heap.size < w2.heap.size := obj_lt ob
  have ho := (own_mono ho hsz).alloc (Obj.cells #[Value.slice P p.length pk, Value.slice none 0 0] 27)
  obtain ⟨G, hG⟩ : ∃ G, G = w2.heap.size := ⟨_, rfl⟩
  have M0 : MeshSt w (w2.alloc (Obj.cells #[Value.slice P p.length pk, Value.slice none 0 0] 27)) q G w.heap.size A c bs P pk p none 0 [] :=
    ⟨by rw [hG]; exact obj_new w2 _, obj_alloc ob _, Own.nil_list _ _ _, ho, k2.next ((Below.refl w.heap.size w2).alloc hsz2 _) hq, hq, by omega, Nat.le_refl _, by omega⟩
  have HGG := Lib.hid hG
  clear HD hp ob ho k1 k2 hbA kA hG
  go_wp2_with fail
  rw [← HGG.out]
  go_loopw [4, 5] (fun ix _ wr => ∃ (i : Nat) (S : Option Addr) (k : Nat) (rs : List Row), i ≤ p.length + 1 ∧ ix = .int .i64 i ∧ MeshSt w wr q G w.heap.size A c bs P pk p S k rs ∧ rs.length ≤ 4 * i ∧ ∀ r ∈ rs, r.xs.length ≤ 2) (fun ix _ _ => p.length + 1 - (intOf ix).toNat)
  case atStart => exact ⟨0, none, 0, [], Nat.zero_le _, rfl, M0, Nat.le_refl _, fun _ h => (List.not_mem_nil h).elim⟩
  case round =>
    clear M0
    obtain ⟨i, S, k, rs, hi1, rfl, M, hrl, hr2⟩ := hrel
    have HR2 := Lib.hid hr2
    have f0 := M.cells.1
    clear hr2
    rcases Nat.lt_or_ge i (p.length + 1) with hlt | hge
    · have l1 : (i : Int) ≤ (p.length : Int) := by omega
      go_wp2_with fail
      go_loopw [5] (fun ix wr => ∃ (j : Nat) (S : Option Addr) (k : Nat) (rs : List Row), j ≤ p.length + 1 ∧ ix = .int .i64 j ∧ MeshSt w wr q G w.heap.size A c bs P pk p S k rs ∧ rs.length ≤ 4 * i + j ∧ ∀ r ∈ rs, r.xs.length ≤ 2) (fun ix _ => p.length + 1 - (intOf ix).toNat)
      case atStart => exact ⟨0, S, k, rs, Nat.zero_le _, rfl, M, hrl, HR2.out⟩
      case round =>
        clear M f0 hrl HR2
        obtain ⟨j, S, k, rs, hj1, rfl, M, hrl, hr2⟩ := hrel
        have HR2 := Lib.hid hr2
        have f0 := M.cells.1
        clear hr2
        rcases Nat.lt_or_ge j (p.length + 1) with hltj | hgej
        · have l2 : (j : Int) ≤ (p.length : Int) := by omega
          have HO := Lib.hid (l1Once_any wr q A c bs 5 (by omega) M.dr.cur)
          go_wp2_with fail
          (with_reducible refine HO.out.mono ?_)
          rintro e wa ⟨b, rfl, ka⟩
          have M := M.drawn ka
          clear ka HO f0
          rcases b with _ | _
          · go_wp2_with fail
            go_roundw
            case rel => exact ⟨j + 1, S, k, rs, by omega, by go_num, M, by omega, HR2.out⟩
            case measure => simp [intOf]; omega
          · have f1 := M.cells.2
            have hO1 := (M.alloc (Obj.cells #[Value.int .i64 (i : Int), Value.int .i64 (j : Int)] 3)).own.outN (n := rs.length) (by simp)
            have hw0 := M.dr.span.size
            have hrow := own_lit2 (lo := wa.heap.size) (obj_new wa (Obj.cells #[Value.int .i64 (i : Int), Value.int .i64 (j : Int)] 3)) (Nat.le_refl _)
            have HM := Lib.hid M
            clear M
            go_wp2_with ((at_builtin; refine wpList_append_own _ rfl _ _ 25 rfl (w.heap.size) 24 j0 (.slice none 0 0) 1 24 Try.underlying25 hj hy0 hy1 hy2 rfl (by decide) _ _ _ rfl (World.ownsRow.alloc hO1 _) ⟨wa.heap.size + 1, 0, none⟩ 1 1 [Value.slice (some ⟨wa.heap.size, 0, none⟩) 2 2] rfl rfl (cell_one_at _ _ (by simp)) (by intro u hu; simp at hu; subst hu; rfl) (by unfold maxLen; omega) (by omega) (by simp; omega) ?_; intro v9 w9 hown9 hgrow9 _)
                         obtain ⟨A2, c2, rfl, f7, u7, K⟩ := MeshSt.push (r := ⟨some ⟨wa.heap.size, 0, none⟩, 2, [(i : Int), (j : Int)]⟩) HM.out rfl hrow hown9 hgrow9)
            go_roundw
            case rel => exact ⟨j + 1, A2, c2, rs ++ [⟨some ⟨wa.heap.size, 0, none⟩, 2, [(i : Int), (j : Int)]⟩], by omega, by go_num, by simpa using K.out, by simp; omega, fun r hr => by
              rcases List.mem_append.1 hr with hr | hr
              · exact HR2.out r hr
              · obtain rfl := List.mem_singleton.1 hr
                simp⟩
            case measure => simp [intOf]; omega
        · have l2 : ¬ (j : Int) ≤ (p.length : Int) := by omega
          have hj4 : j ≤ 4 := by omega
          go_wp2_with fail
          go_roundw
          case rel => exact ⟨i + 1, S, k, rs, by omega, by go_num, M, by omega, HR2.out⟩
          case measure => simp [intOf]; omega
    · have l1 : ¬ (i : Int) ≤ (p.length : Int) := by omega
      have hrl : rs.length ≤ 16 := by omega
      have HB := Lib.hid (l1Below_any wr q A c bs 20 (by omega) M.dr.cur)
      go_wp2_with fail
      (with_reducible refine HB.out.mono ?_)
      rintro e w3 ⟨z, rfl, hz, kz⟩
      have M := M.drawn kz
      clear kz HB f0 hz
      by_cases hz0' : z = 0
      · subst hz0'
        have M := M.moved (Dr.refl w3).drew
        have f1 := M.cells.2
        have M0 := M
        clear M
        go_wp2_with fail
        refine wp_region_held_drew (S := (fun _ => True)) (by kernel_rfl) trivial (fun hHeld => ?_)
        refine wpAnyH_take (i := 0) (oi := _) (v := ?_) rfl (by kernel_rfl) (by kernel_rfl) (by kernel_rfl) (fun _ _ _ h => h) (Or.inl ⟨by rfl, ?_⟩) (by assumption) ?_
        rotate_left
        · intro w hSw
          try dsimp only at hSw
          go_simp
          all_goals with_reducible rfl
        try simp only [Act.put, List.setIfInBounds_toArray, List.set_cons_zero, List.set_cons_succ, List.getElem_toArray, List.getElem_cons_succ, List.getElem_cons_zero]
        refine wpAnyH_take (i := 2) (oi := _) (v := ?_) rfl (by kernel_rfl) (by kernel_rfl) (by kernel_rfl) (fun _ _ _ h => h) (Or.inl ⟨by rfl, ?_⟩) (by assumption) ?_
        rotate_left
        · intro w hSw
          try dsimp only at hSw
          go_simp
          all_goals with_reducible rfl
        try simp only [Act.put, List.setIfInBounds_toArray, List.set_cons_zero, List.set_cons_succ, List.getElem_toArray, List.getElem_cons_succ, List.getElem_cons_zero]
        refine wpAnyH_ready (rs := [1, 3]) (by kernel_rfl) (by simp) ?_
        refine AllReadyH.cons (o := _) rfl (fun K hK => ?_) (AllReadyH.cons (o := _) rfl (fun K hK => ?_) AllReadyH.nil)
        · go_simp
          refine hK.out _ _ (trivial) (fun hHeld => ?_)
          clear hK K
          try simp only [Act.put, List.setIfInBounds_toArray, List.set_cons_zero, List.set_cons_succ, List.getElem_toArray, List.getElem_cons_succ, List.getElem_cons_zero]
          refine wpAnyH_ready (rs := [3]) (by kernel_rfl) (by simp) ?_
          refine AllReadyH.cons (o := _) rfl (fun K hK => ?_) AllReadyH.nil
          go_simp
          refine Calls.mono (l1Below_any _ q A c bs 6 (by omega) M0.dr.cur) ?_
          rintro e w5 ⟨x1, rfl, hx1, ka⟩
          have M5 := M0.drawn ka
          have f1 := M5.cells.2
          clear ka hx1
          go_wp2_with fail
          refine hK.out _ _ (trivial) (fun hHeld => ?_)
          clear hK K
          try simp only [Act.put, List.setIfInBounds_toArray, List.set_cons_zero, List.set_cons_succ, List.getElem_toArray, List.getElem_cons_succ, List.getElem_cons_zero]
          refine wpAnyH_ready (rs := [4]) (by kernel_rfl) (by simp) ?_
          refine AllReadyH.cons (o := _) rfl (fun K hK => ?_) AllReadyH.nil
          have f1 := (M5.alloc (Obj.cells #[Value.int .i64 0, Value.int .i64 x1] 3)).cells.2
          go_simp
          refine hK.out _ _ (trivial) (fun hHeld => ?_)
          clear hK K
          try simp only [Act.put, List.setIfInBounds_toArray, List.set_cons_zero, List.set_cons_succ, List.getElem_toArray, List.getElem_cons_succ, List.getElem_cons_zero]
          refine wpAnyH_ready (rs := [5]) (by kernel_rfl) (by simp) ?_
          refine AllReadyH.cons (o := _) rfl (fun K hK => ?_) AllReadyH.nil
          have f1 := ((M5.alloc (Obj.cells #[Value.int .i64 0, Value.int .i64 x1] 3)).alloc (Obj.cells #[Value.slice (some ⟨w5.heap.size, 0, none⟩) 2 2] 24)).cells.2
          go_simp
          refine hK.out _ _ (trivial) (fun hHeld => ?_)
          clear hK K
          try simp only [Act.put, List.setIfInBounds_toArray, List.set_cons_zero, List.set_cons_succ, List.getElem_toArray, List.getElem_cons_succ, List.getElem_cons_zero]
          refine wpAnyH_ready (rs := [6]) (by kernel_rfl) (by simp) ?_
          refine AllReadyH.cons (o := _) rfl (fun K hK => ?_) AllReadyH.nil
          refine step_append_lies _ (by rfl) _ _ _ (by rfl) w.heap.size 24 j0 (.slice none 0 0) 1 24 Try.underlying25 hj hy0 hy1 hy2 rfl (by decide) (Value.slice S rs.length k) rs.length (rs.map Row.v) (by rfl) ((((M5.alloc (Obj.cells #[Value.int .i64 0, Value.int .i64 x1] 3)).alloc (Obj.cells #[Value.slice (some ⟨w5.heap.size, 0, none⟩) 2 2] 24)).own.outN (n := rs.length) (by simp))) ⟨w5.heap.size + 1, 0, none⟩ 1 1 [Value.slice (some ⟨w5.heap.size, 0, none⟩) 2 2] (by rfl) (by rfl) (cell_one_at (w := w5.alloc (Obj.cells #[Value.int .i64 0, Value.int .i64 x1] 3)) _ _ (by simp)) (by intro u hu; simp at hu; subst hu; rfl) (by omega) (by unfold maxLen; omega) (by omega) (by have := M5.dr.span.size; simp; omega) (w5.heap.size + 1 + 1) (by simp) ?_
          intro g cap w9 hown9 hgrow9 hlies9 hglt9
          obtain ⟨A2, c2, hA2, f7, u7, KM⟩ := MeshSt.push (r := ⟨some ⟨w5.heap.size, 0, none⟩, 2, [0, x1]⟩) (lit := Obj.cells #[Value.int .i64 0, Value.int .i64 x1] 3) M5 rfl (own_lit2 (obj_new w5 (Obj.cells #[Value.int .i64 0, Value.int .i64 x1] 3)) (Nat.le_refl _)) hown9 hgrow9
          injection hA2 with hA2 _ hc2
          subst hA2 hc2
          refine hK.out _ _ (trivial) (fun hHeld => ?_)
          clear hK K
          try simp only [Act.put, List.setIfInBounds_toArray, List.set_cons_zero, List.set_cons_succ, List.getElem_toArray, List.getElem_cons_succ, List.getElem_cons_zero]
          refine wpAnyH_take (i := 7) (oi := _) (v := ?_) rfl (by kernel_rfl) (by kernel_rfl) (by kernel_rfl) (fun _ _ _ h => h) (Or.inl ⟨by rfl, ?_⟩) (by assumption) ?_
          rotate_left
          · intro w hSw
            try dsimp only at hSw
            go_simp
            all_goals with_reducible rfl
          try simp only [Act.put, List.setIfInBounds_toArray, List.set_cons_zero, List.set_cons_succ, List.getElem_toArray, List.getElem_cons_succ, List.getElem_cons_zero]
          refine wpAnyH_ready (rs := [8]) (by kernel_rfl) (by simp) ?_
          refine AllReadyH.cons (o := _) rfl (fun K hK => ?_) AllReadyH.nil
          go_simp
          refine hK.out _ _ (trivial) (fun hHeld => ?_)
          clear hK K
          try simp only [Act.put, List.setIfInBounds_toArray, List.set_cons_zero, List.set_cons_succ, List.getElem_toArray, List.getElem_cons_succ, List.getElem_cons_zero]
          refine wpAnyH_done (by kernel_rfl) ?_ _
          have hlr : (rs ++ [(⟨some ⟨w5.heap.size, 0, none⟩, 2, [0, x1]⟩ : Row)]).length = rs.length + 1 := by simp
          have KM2 : MeshSt w (w9.setCell ⟨G, 1, none⟩ (.slice (some ⟨g, 0, none⟩) (rs.length + 1) cap)) q G w.heap.size A c bs P pk p (some ⟨g, 0, none⟩) cap (rs ++ [⟨some ⟨w5.heap.size, 0, none⟩, 2, [0, x1]⟩]) := KM.out
          have HL := Lib.hid hlr
          clear hlr f7 u7 KM M5 f1 hown9 hgrow9 M0
          generalize w9.setCell ⟨G, 1, none⟩ (.slice (some ⟨g, 0, none⟩) (rs.length + 1) cap) = wq at KM2 ⊢
          have HFN := Lib.hid KM2.fin
          rw [HL.out] at HFN
          have g0 := KM2.cells.1
          have g1 := KM2.cells.2
          rw [HL.out] at g1
          have t0 := (obj_cell (i := 0) KM2.ob).trans rfl
          have t1 := (obj_cell (i := 1) KM2.ob).trans rfl
          have u0 := obj_frozen (i := 0) KM2.ob
          have u1 := obj_frozen (i := 1) KM2.ob
          have l0 := (obj_cell (i := 0) HFN.out.2.2.2).trans rfl
          have l2 := (obj_cell (i := 1) HFN.out.2.2.2).trans rfl
          go_wp2_with fail
          refine bodyPost_ret (v := .agg #[.slice P p.length pk, .slice (some ⟨g, 0, none⟩) (rs.length + 1) cap]) (by simp [results, Try.results73, go_sem, l0, l2]) rfl ?_
          exact ⟨P, pk, p, (some ⟨g, 0, none⟩), cap, (rs ++ [⟨some ⟨w5.heap.size, 0, none⟩, 2, [0, x1]⟩]), (by rw [HL.out]), by omega, by rw [HL.out]; omega, (by intro r hr; rcases List.mem_append.1 hr with hr | hr; exact HR2.out r hr; obtain rfl := List.mem_singleton.1 hr; simp), HFN.out.1, HFN.out.2.1, HFN.out.2.2.1⟩
        · go_simp
          refine Calls.mono (l1Below_any _ q A c bs 6 (by omega) M0.dr.cur) ?_
          rintro e w5 ⟨x1, rfl, hx1, ka⟩
          have M5 := M0.drawn ka
          have f1 := M5.cells.2
          clear ka hx1
          go_wp2_with fail
          refine hK.out _ _ (trivial) (fun hHeld => ?_)
          clear hK K
          try simp only [Act.put, List.setIfInBounds_toArray, List.set_cons_zero, List.set_cons_succ, List.getElem_toArray, List.getElem_cons_succ, List.getElem_cons_zero]
          refine wpAnyH_ready (rs := [1, 4]) (by kernel_rfl) (by simp) ?_
          refine AllReadyH.cons (o := _) rfl (fun K hK => ?_) (AllReadyH.cons (o := _) rfl (fun K hK => ?_) AllReadyH.nil)
          · go_simp
            refine hK.out _ _ (trivial) (fun hHeld => ?_)
            clear hK K
            try simp only [Act.put, List.setIfInBounds_toArray, List.set_cons_zero, List.set_cons_succ, List.getElem_toArray, List.getElem_cons_succ, List.getElem_cons_zero]
            refine wpAnyH_ready (rs := [4]) (by kernel_rfl) (by simp) ?_
            refine AllReadyH.cons (o := _) rfl (fun K hK => ?_) AllReadyH.nil
            have f1 := (M5.alloc (Obj.cells #[Value.int .i64 0, Value.int .i64 x1] 3)).cells.2
            go_simp
            refine hK.out _ _ (trivial) (fun hHeld => ?_)
            clear hK K
            try simp only [Act.put, List.setIfInBounds_toArray, List.set_cons_zero, List.set_cons_succ, List.getElem_toArray, List.getElem_cons_succ, List.getElem_cons_zero]
            refine wpAnyH_ready (rs := [5]) (by kernel_rfl) (by simp) ?_
            refine AllReadyH.cons (o := _) rfl (fun K hK => ?_) AllReadyH.nil
            have f1 := ((M5.alloc (Obj.cells #[Value.int .i64 0, Value.int .i64 x1] 3)).alloc (Obj.cells #[Value.slice (some ⟨w5.heap.size, 0, none⟩) 2 2] 24)).cells.2
            go_simp
            refine hK.out _ _ (trivial) (fun hHeld => ?_)
            clear hK K
            try simp only [Act.put, List.setIfInBounds_toArray, List.set_cons_zero, List.set_cons_succ, List.getElem_toArray, List.getElem_cons_succ, List.getElem_cons_zero]
            refine wpAnyH_ready (rs := [6]) (by kernel_rfl) (by simp) ?_
            refine AllReadyH.cons (o := _) rfl (fun K hK => ?_) AllReadyH.nil
            refine step_append_lies _ (by rfl) _ _ _ (by rfl) w.heap.size 24 j0 (.slice none 0 0) 1 24 Try.underlying25 hj hy0 hy1 hy2 rfl (by decide) (Value.slice S rs.length k) rs.length (rs.map Row.v) (by rfl) ((((M5.alloc (Obj.cells #[Value.int .i64 0, Value.int .i64 x1] 3)).alloc (Obj.cells #[Value.slice (some ⟨w5.heap.size, 0, none⟩) 2 2] 24)).own.outN (n := rs.length) (by simp))) ⟨w5.heap.size + 1, 0, none⟩ 1 1 [Value.slice (some ⟨w5.heap.size, 0, none⟩) 2 2] (by rfl) (by rfl) (cell_one_at (w := w5.alloc (Obj.cells #[Value.int .i64 0, Value.int .i64 x1] 3)) _ _ (by simp)) (by intro u hu; simp at hu; subst hu; rfl) (by omega) (by unfold maxLen; omega) (by omega) (by have := M5.dr.span.size; simp; omega) (w5.heap.size + 1 + 1) (by simp) ?_
            intro g cap w9 hown9 hgrow9 hlies9 hglt9
            obtain ⟨A2, c2, hA2, f7, u7, KM⟩ := MeshSt.push (r := ⟨some ⟨w5.heap.size, 0, none⟩, 2, [0, x1]⟩) (lit := Obj.cells #[Value.int .i64 0, Value.int .i64 x1] 3) M5 rfl (own_lit2 (obj_new w5 (Obj.cells #[Value.int .i64 0, Value.int .i64 x1] 3)) (Nat.le_refl _)) hown9 hgrow9
            injection hA2 with hA2 _ hc2
            subst hA2 hc2
            refine hK.out _ _ (trivial) (fun hHeld => ?_)
            clear hK K
            try simp only [Act.put, List.setIfInBounds_toArray, List.set_cons_zero, List.set_cons_succ, List.getElem_toArray, List.getElem_cons_succ, List.getElem_cons_zero]
            refine wpAnyH_take (i := 7) (oi := _) (v := ?_) rfl (by kernel_rfl) (by kernel_rfl) (by kernel_rfl) (fun _ _ _ h => h) (Or.inl ⟨by rfl, ?_⟩) (by assumption) ?_
            rotate_left
            · intro w hSw
              try dsimp only at hSw
              go_simp
              all_goals with_reducible rfl
            try simp only [Act.put, List.setIfInBounds_toArray, List.set_cons_zero, List.set_cons_succ, List.getElem_toArray, List.getElem_cons_succ, List.getElem_cons_zero]
            refine wpAnyH_ready (rs := [8]) (by kernel_rfl) (by simp) ?_
            refine AllReadyH.cons (o := _) rfl (fun K hK => ?_) AllReadyH.nil
            go_simp
            refine hK.out _ _ (trivial) (fun hHeld => ?_)
            clear hK K
            try simp only [Act.put, List.setIfInBounds_toArray, List.set_cons_zero, List.set_cons_succ, List.getElem_toArray, List.getElem_cons_succ, List.getElem_cons_zero]
            refine wpAnyH_done (by kernel_rfl) ?_ _
            have hlr : (rs ++ [(⟨some ⟨w5.heap.size, 0, none⟩, 2, [0, x1]⟩ : Row)]).length = rs.length + 1 := by simp
            have KM2 : MeshSt w (w9.setCell ⟨G, 1, none⟩ (.slice (some ⟨g, 0, none⟩) (rs.length + 1) cap)) q G w.heap.size A c bs P pk p (some ⟨g, 0, none⟩) cap (rs ++ [⟨some ⟨w5.heap.size, 0, none⟩, 2, [0, x1]⟩]) := KM.out
            have HL := Lib.hid hlr
            clear hlr f7 u7 KM M5 f1 hown9 hgrow9 M0
            generalize w9.setCell ⟨G, 1, none⟩ (.slice (some ⟨g, 0, none⟩) (rs.length + 1) cap) = wq at KM2 ⊢
            have HFN := Lib.hid KM2.fin
            rw [HL.out] at HFN
            have g0 := KM2.cells.1
            have g1 := KM2.cells.2
            rw [HL.out] at g1
            have t0 := (obj_cell (i := 0) KM2.ob).trans rfl
            have t1 := (obj_cell (i := 1) KM2.ob).trans rfl
            have u0 := obj_frozen (i := 0) KM2.ob
            have u1 := obj_frozen (i := 1) KM2.ob
            have l0 := (obj_cell (i := 0) HFN.out.2.2.2).trans rfl
            have l2 := (obj_cell (i := 1) HFN.out.2.2.2).trans rfl
            go_wp2_with fail
            refine bodyPost_ret (v := .agg #[.slice P p.length pk, .slice (some ⟨g, 0, none⟩) (rs.length + 1) cap]) (by simp [results, Try.results73, go_sem, l0, l2]) rfl ?_
            exact ⟨P, pk, p, (some ⟨g, 0, none⟩), cap, (rs ++ [⟨some ⟨w5.heap.size, 0, none⟩, 2, [0, x1]⟩]), (by rw [HL.out]), by omega, by rw [HL.out]; omega, (by intro r hr; rcases List.mem_append.1 hr with hr | hr; exact HR2.out r hr; obtain rfl := List.mem_singleton.1 hr; simp), HFN.out.1, HFN.out.2.1, HFN.out.2.2.1⟩
          · have f1 := (M5.alloc (Obj.cells #[Value.int .i64 0, Value.int .i64 x1] 3)).cells.2
            go_simp
            refine hK.out _ _ (trivial) (fun hHeld => ?_)
            clear hK K
            try simp only [Act.put, List.setIfInBounds_toArray, List.set_cons_zero, List.set_cons_succ, List.getElem_toArray, List.getElem_cons_succ, List.getElem_cons_zero]
            refine wpAnyH_ready (rs := [1, 5]) (by kernel_rfl) (by simp) ?_
            refine AllReadyH.cons (o := _) rfl (fun K hK => ?_) (AllReadyH.cons (o := _) rfl (fun K hK => ?_) AllReadyH.nil)
            · go_simp
              refine hK.out _ _ (trivial) (fun hHeld => ?_)
              clear hK K
              try simp only [Act.put, List.setIfInBounds_toArray, List.set_cons_zero, List.set_cons_succ, List.getElem_toArray, List.getElem_cons_succ, List.getElem_cons_zero]
              refine wpAnyH_ready (rs := [5]) (by kernel_rfl) (by simp) ?_
              refine AllReadyH.cons (o := _) rfl (fun K hK => ?_) AllReadyH.nil
              have f1 := ((M5.alloc (Obj.cells #[Value.int .i64 0, Value.int .i64 x1] 3)).alloc (Obj.cells #[Value.slice (some ⟨w5.heap.size, 0, none⟩) 2 2] 24)).cells.2
              go_simp
              refine hK.out _ _ (trivial) (fun hHeld => ?_)
              clear hK K
              try simp only [Act.put, List.setIfInBounds_toArray, List.set_cons_zero, List.set_cons_succ, List.getElem_toArray, List.getElem_cons_succ, List.getElem_cons_zero]
              refine wpAnyH_ready (rs := [6]) (by kernel_rfl) (by simp) ?_
              refine AllReadyH.cons (o := _) rfl (fun K hK => ?_) AllReadyH.nil
              refine step_append_lies _ (by rfl) _ _ _ (by rfl) w.heap.size 24 j0 (.slice none 0 0) 1 24 Try.underlying25 hj hy0 hy1 hy2 rfl (by decide) (Value.slice S rs.length k) rs.length (rs.map Row.v) (by rfl) ((((M5.alloc (Obj.cells #[Value.int .i64 0, Value.int .i64 x1] 3)).alloc (Obj.cells #[Value.slice (some ⟨w5.heap.size, 0, none⟩) 2 2] 24)).own.outN (n := rs.length) (by simp))) ⟨w5.heap.size + 1, 0, none⟩ 1 1 [Value.slice (some ⟨w5.heap.size, 0, none⟩) 2 2] (by rfl) (by rfl) (cell_one_at (w := w5.alloc (Obj.cells #[Value.int .i64 0, Value.int .i64 x1] 3)) _ _ (by simp)) (by intro u hu; simp at hu; subst hu; rfl) (by omega) (by unfold maxLen; omega) (by omega) (by have := M5.dr.span.size; simp; omega) (w5.heap.size + 1 + 1) (by simp) ?_
              intro g cap w9 hown9 hgrow9 hlies9 hglt9
              obtain ⟨A2, c2, hA2, f7, u7, KM⟩ := MeshSt.push (r := ⟨some ⟨w5.heap.size, 0, none⟩, 2, [0, x1]⟩) (lit := Obj.cells #[Value.int .i64 0, Value.int .i64 x1] 3) M5 rfl (own_lit2 (obj_new w5 (Obj.cells #[Value.int .i64 0, Value.int .i64 x1] 3)) (Nat.le_refl _)) hown9 hgrow9
              injection hA2 with hA2 _ hc2
              subst hA2 hc2
              refine hK.out _ _ (trivial) (fun hHeld => ?_)
              clear hK K
              try simp only [Act.put, List.setIfInBounds_toArray, List.set_cons_zero, List.set_cons_succ, List.getElem_toArray, List.getElem_cons_succ, List.getElem_cons_zero]
              refine wpAnyH_take (i := 7) (oi := _) (v := ?_) rfl (by kernel_rfl) (by kernel_rfl) (by kernel_rfl) (fun _ _ _ h => h) (Or.inl ⟨by rfl, ?_⟩) (by assumption) ?_
              rotate_left
              · intro w hSw
                try dsimp only at hSw
                go_simp
                all_goals with_reducible rfl
              try simp only [Act.put, List.setIfInBounds_toArray, List.set_cons_zero, List.set_cons_succ, List.getElem_toArray, List.getElem_cons_succ, List.getElem_cons_zero]
              refine wpAnyH_ready (rs := [8]) (by kernel_rfl) (by simp) ?_
              refine AllReadyH.cons (o := _) rfl (fun K hK => ?_) AllReadyH.nil
              go_simp
              refine hK.out _ _ (trivial) (fun hHeld => ?_)
              clear hK K
              try simp only [Act.put, List.setIfInBounds_toArray, List.set_cons_zero, List.set_cons_succ, List.getElem_toArray, List.getElem_cons_succ, List.getElem_cons_zero]
              refine wpAnyH_done (by kernel_rfl) ?_ _
              have hlr : (rs ++ [(⟨some ⟨w5.heap.size, 0, none⟩, 2, [0, x1]⟩ : Row)]).length = rs.length + 1 := by simp
              have KM2 : MeshSt w (w9.setCell ⟨G, 1, none⟩ (.slice (some ⟨g, 0, none⟩) (rs.length + 1) cap)) q G w.heap.size A c bs P pk p (some ⟨g, 0, none⟩) cap (rs ++ [⟨some ⟨w5.heap.size, 0, none⟩, 2, [0, x1]⟩]) := KM.out
              have HL := Lib.hid hlr
              clear hlr f7 u7 KM M5 f1 hown9 hgrow9 M0
              generalize w9.setCell ⟨G, 1, none⟩ (.slice (some ⟨g, 0, none⟩) (rs.length + 1) cap) = wq at KM2 ⊢
              have HFN := Lib.hid KM2.fin
              rw [HL.out] at HFN
              have g0 := KM2.cells.1
              have g1 := KM2.cells.2
              rw [HL.out] at g1
              have t0 := (obj_cell (i := 0) KM2.ob).trans rfl
              have t1 := (obj_cell (i := 1) KM2.ob).trans rfl
              have u0 := obj_frozen (i := 0) KM2.ob
              have u1 := obj_frozen (i := 1) KM2.ob
              have l0 := (obj_cell (i := 0) HFN.out.2.2.2).trans rfl
              have l2 := (obj_cell (i := 1) HFN.out.2.2.2).trans rfl
              go_wp2_with fail
              refine bodyPost_ret (v := .agg #[.slice P p.length pk, .slice (some ⟨g, 0, none⟩) (rs.length + 1) cap]) (by simp [results, Try.results73, go_sem, l0, l2]) rfl ?_
              exact ⟨P, pk, p, (some ⟨g, 0, none⟩), cap, (rs ++ [⟨some ⟨w5.heap.size, 0, none⟩, 2, [0, x1]⟩]), (by rw [HL.out]), by omega, by rw [HL.out]; omega, (by intro r hr; rcases List.mem_append.1 hr with hr | hr; exact HR2.out r hr; obtain rfl := List.mem_singleton.1 hr; simp), HFN.out.1, HFN.out.2.1, HFN.out.2.2.1⟩
            · have f1 := ((M5.alloc (Obj.cells #[Value.int .i64 0, Value.int .i64 x1] 3)).alloc (Obj.cells #[Value.slice (some ⟨w5.heap.size, 0, none⟩) 2 2] 24)).cells.2
              go_simp
              refine hK.out _ _ (trivial) (fun hHeld => ?_)
              clear hK K
              try simp only [Act.put, List.setIfInBounds_toArray, List.set_cons_zero, List.set_cons_succ, List.getElem_toArray, List.getElem_cons_succ, List.getElem_cons_zero]
              refine wpAnyH_ready (rs := [1]) (by kernel_rfl) (by simp) ?_
              refine AllReadyH.cons (o := _) rfl (fun K hK => ?_) AllReadyH.nil
              go_simp
              refine hK.out _ _ (trivial) (fun hHeld => ?_)
              clear hK K
              try simp only [Act.put, List.setIfInBounds_toArray, List.set_cons_zero, List.set_cons_succ, List.getElem_toArray, List.getElem_cons_succ, List.getElem_cons_zero]
              refine wpAnyH_ready (rs := [6]) (by kernel_rfl) (by simp) ?_
              refine AllReadyH.cons (o := _) rfl (fun K hK => ?_) AllReadyH.nil
              refine step_append_lies _ (by rfl) _ _ _ (by rfl) w.heap.size 24 j0 (.slice none 0 0) 1 24 Try.underlying25 hj hy0 hy1 hy2 rfl (by decide) (Value.slice S rs.length k) rs.length (rs.map Row.v) (by rfl) ((((M5.alloc (Obj.cells #[Value.int .i64 0, Value.int .i64 x1] 3)).alloc (Obj.cells #[Value.slice (some ⟨w5.heap.size, 0, none⟩) 2 2] 24)).own.outN (n := rs.length) (by simp))) ⟨w5.heap.size + 1, 0, none⟩ 1 1 [Value.slice (some ⟨w5.heap.size, 0, none⟩) 2 2] (by rfl) (by rfl) (cell_one_at (w := w5.alloc (Obj.cells #[Value.int .i64 0, Value.int .i64 x1] 3)) _ _ (by simp)) (by intro u hu; simp at hu; subst hu; rfl) (by omega) (by unfold maxLen; omega) (by omega) (by have := M5.dr.span.size; simp; omega) (w5.heap.size + 1 + 1) (by simp) ?_
              intro g cap w9 hown9 hgrow9 hlies9 hglt9
              obtain ⟨A2, c2, hA2, f7, u7, KM⟩ := MeshSt.push (r := ⟨some ⟨w5.heap.size, 0, none⟩, 2, [0, x1]⟩) (lit := Obj.cells #[Value.int .i64 0, Value.int .i64 x1] 3) M5 rfl (own_lit2 (obj_new w5 (Obj.cells #[Value.int .i64 0, Value.int .i64 x1] 3)) (Nat.le_refl _)) hown9 hgrow9
              injection hA2 with hA2 _ hc2
              subst hA2 hc2
              refine hK.out _ _ (trivial) (fun hHeld => ?_)
              clear hK K
              try simp only [Act.put, List.setIfInBounds_toArray, List.set_cons_zero, List.set_cons_succ, List.getElem_toArray, List.getElem_cons_succ, List.getElem_cons_zero]
              refine wpAnyH_take (i := 7) (oi := _) (v := ?_) rfl (by kernel_rfl) (by kernel_rfl) (by kernel_rfl) (fun _ _ _ h => h) (Or.inl ⟨by rfl, ?_⟩) (by assumption) ?_
              rotate_left
              · intro w hSw
                try dsimp only at hSw
                go_simp
                all_goals with_reducible rfl
              try simp only [Act.put, List.setIfInBounds_toArray, List.set_cons_zero, List.set_cons_succ, List.getElem_toArray, List.getElem_cons_succ, List.getElem_cons_zero]
              refine wpAnyH_ready (rs := [8]) (by kernel_rfl) (by simp) ?_
              refine AllReadyH.cons (o := _) rfl (fun K hK => ?_) AllReadyH.nil
              go_simp
              refine hK.out _ _ (trivial) (fun hHeld => ?_)
              clear hK K
              try simp only [Act.put, List.setIfInBounds_toArray, List.set_cons_zero, List.set_cons_succ, List.getElem_toArray, List.getElem_cons_succ, List.getElem_cons_zero]
              refine wpAnyH_done (by kernel_rfl) ?_ _
              have hlr : (rs ++ [(⟨some ⟨w5.heap.size, 0, none⟩, 2, [0, x1]⟩ : Row)]).length = rs.length + 1 := by simp
              have KM2 : MeshSt w (w9.setCell ⟨G, 1, none⟩ (.slice (some ⟨g, 0, none⟩) (rs.length + 1) cap)) q G w.heap.size A c bs P pk p (some ⟨g, 0, none⟩) cap (rs ++ [⟨some ⟨w5.heap.size, 0, none⟩, 2, [0, x1]⟩]) := KM.out
              have HL := Lib.hid hlr
              clear hlr f7 u7 KM M5 f1 hown9 hgrow9 M0
              generalize w9.setCell ⟨G, 1, none⟩ (.slice (some ⟨g, 0, none⟩) (rs.length + 1) cap) = wq at KM2 ⊢
              have HFN := Lib.hid KM2.fin
              rw [HL.out] at HFN
              have g0 := KM2.cells.1
              have g1 := KM2.cells.2
              rw [HL.out] at g1
              have t0 := (obj_cell (i := 0) KM2.ob).trans rfl
              have t1 := (obj_cell (i := 1) KM2.ob).trans rfl
              have u0 := obj_frozen (i := 0) KM2.ob
              have u1 := obj_frozen (i := 1) KM2.ob
              have l0 := (obj_cell (i := 0) HFN.out.2.2.2).trans rfl
              have l2 := (obj_cell (i := 1) HFN.out.2.2.2).trans rfl
              go_wp2_with fail
              refine bodyPost_ret (v := .agg #[.slice P p.length pk, .slice (some ⟨g, 0, none⟩) (rs.length + 1) cap]) (by simp [results, Try.results73, go_sem, l0, l2]) rfl ?_
              exact ⟨P, pk, p, (some ⟨g, 0, none⟩), cap, (rs ++ [⟨some ⟨w5.heap.size, 0, none⟩, 2, [0, x1]⟩]), (by rw [HL.out]), by omega, by rw [HL.out]; omega, (by intro r hr; rcases List.mem_append.1 hr with hr | hr; exact HR2.out r hr; obtain rfl := List.mem_singleton.1 hr; simp), HFN.out.1, HFN.out.2.1, HFN.out.2.2.1⟩
      by_cases hz1' : z = 1
      · subst hz1'
        have f1 := M.cells.2
        have hO1 := (M.alloc (Obj.cells #[Value.int .i64 9] 3)).own.outN (n := rs.length) (by simp)
        have hw0 := M.dr.span.size
        have hrow := own_lit1 (lo := w3.heap.size) (obj_new w3 (Obj.cells #[Value.int .i64 9] 3)) (Nat.le_refl _)
        have HM := Lib.hid M
        clear M
        go_upto_region 17 with ((at_builtin; refine wpList_append_own _ rfl _ _ 25 rfl (w.heap.size) 24 j0 (.slice none 0 0) 1 24 Try.underlying25 hj hy0 hy1 hy2 rfl (by decide) _ _ _ rfl (World.ownsRow.alloc hO1 _) ⟨w3.heap.size + 1, 0, none⟩ 1 1 [Value.slice (some ⟨w3.heap.size, 0, none⟩) 1 1] rfl rfl (cell_one_at _ _ (by simp)) (by intro u hu; simp at hu; subst hu; rfl) (by unfold maxLen; omega) (by omega) (by simp; omega) ?_; intro v9 w9 hown9 hgrow9 _)
                                obtain ⟨A2, c2, rfl, f7, u7, KM⟩ := MeshSt.push (r := ⟨some ⟨w3.heap.size, 0, none⟩, 1, [9]⟩) HM.out rfl hrow hown9 hgrow9)
        have hlr : (rs ++ [(⟨some ⟨w3.heap.size, 0, none⟩, 1, [9]⟩ : Row)]).length = rs.length + 1 := by simp
        have KM2 := KM.out
        have HL := Lib.hid hlr
        clear hlr f7 u7 KM HM f1 hown9 hgrow9 hO1 hrow
        generalize w9.setCell ⟨G, 1, none⟩ (.slice A2 (rs.length + 1) c2) = wq at KM2 ⊢
        have HFN := Lib.hid KM2.fin
        rw [HL.out] at HFN
        have g0 := KM2.cells.1
        have g1 := KM2.cells.2
        rw [HL.out] at g1
        have t0 := (obj_cell (i := 0) KM2.ob).trans rfl
        have t1 := (obj_cell (i := 1) KM2.ob).trans rfl
        have u0 := obj_frozen (i := 0) KM2.ob
        have u1 := obj_frozen (i := 1) KM2.ob
        have l0 := (obj_cell (i := 0) HFN.out.2.2.2).trans rfl
        have l2 := (obj_cell (i := 1) HFN.out.2.2.2).trans rfl
        go_wp2_with fail
        refine bodyPost_ret (v := .agg #[.slice P p.length pk, .slice A2 (rs.length + 1) c2]) (by simp [results, Try.results73, go_sem, l0, l2]) rfl ?_
        exact ⟨P, pk, p, A2, c2, (rs ++ [⟨some ⟨w3.heap.size, 0, none⟩, 1, [9]⟩]), (by rw [HL.out]), by omega, by rw [HL.out]; omega, (by intro r hr; rcases List.mem_append.1 hr with hr | hr; exact HR2.out r hr; obtain rfl := List.mem_singleton.1 hr; simp), HFN.out.1, HFN.out.2.1, HFN.out.2.2.1⟩
      by_cases hz2' : z = 2
      · subst hz2'
        have HD := Lib.hid (show Calls Try.prog 104 #[.pointer (some ⟨q, 0, none⟩), .int .i64 5] w3 (RetD w3 q A c bs fun ys => ys.Perm (upToL 5)) from l2Draw_any w3 q A c bs 5 (by omega) M.dr.cur)
        have hw0 := M.dr.span.size
        go_wp2_with fail
        (with_reducible refine HD.out.mono ?_)
        rintro e w4 ⟨P', pk', p', rfl, hp', ho', ka⟩
        have M4 := M.drawn ka
        have hp5 : p'.length ≤ 5 := by rw [hp'.length_eq, upToL_length]; omega
        have f0 := M4.cells.1
        have u0 := obj_frozen (i := 0) M4.og
        have KM := M4.perm (own_mono ho' hw0)
        clear HD M hp' ka ho' M4
        go_upto_region 17 with fail
        clear f0 u0
        generalize w4.setCell ⟨G, 0, none⟩ (.slice P' p'.length pk') = wq at KM ⊢
        have HFN := Lib.hid KM.fin
        have g0 := KM.cells.1
        have g1 := KM.cells.2
        have t0 := (obj_cell (i := 0) KM.ob).trans rfl
        have t1 := (obj_cell (i := 1) KM.ob).trans rfl
        have u0 := obj_frozen (i := 0) KM.ob
        have u1 := obj_frozen (i := 1) KM.ob
        have l0 := (obj_cell (i := 0) HFN.out.2.2.2).trans rfl
        have l2 := (obj_cell (i := 1) HFN.out.2.2.2).trans rfl
        go_wp2_with fail
        refine bodyPost_ret (v := .agg #[.slice P' p'.length pk', .slice S rs.length k]) (by simp [results, Try.results73, go_sem, l0, l2]) rfl ?_
        exact ⟨P', pk', p', S, k, rs, rfl, by omega, by omega, HR2.out, HFN.out.1, HFN.out.2.1, HFN.out.2.2.1⟩
      have z0 : (z == 0) = false := by simp [hz0']
      have z1 : (z == 1) = false := by simp [hz1']
      have z2 : (z == 2) = false := by simp [hz2']
      have HFN := Lib.hid M.fin
      have g0 := M.cells.1
      have g1 := M.cells.2
      have t0 := (obj_cell (i := 0) M.ob).trans rfl
      have t1 := (obj_cell (i := 1) M.ob).trans rfl
      have u0 := obj_frozen (i := 0) M.ob
      have u1 := obj_frozen (i := 1) M.ob
      have l0 := (obj_cell (i := 0) HFN.out.2.2.2).trans rfl
      have l2 := (obj_cell (i := 1) HFN.out.2.2.2).trans rfl
      go_wp2_with fail
      refine bodyPost_ret (v := .agg #[.slice P p.length pk, .slice S rs.length k]) (by simp [results, Try.results73, go_sem, l0, l2]) rfl ?_
      exact ⟨P, pk, p, S, k, rs, rfl, by omega, by omega, HR2.out, HFN.out.1, HFN.out.2.1, HFN.out.2.2.1⟩
set_option maxHeartbeats 2000000 in
theorem drawCountMesh (A : Option Addr) (c : Nat) (bs : List Int) (w : World) (h : InY w A c bs) :
    Calls Try.prog 8 #[.slice A bs.length c] w (fun en w' => ∃ (D : Option Addr) (dk : Nat) (d : List Int) (P : Option Addr) (pk : Nat) (p : List Int) (S : Option Addr) (k : Nat) (rs : List Row), en = .returned (.tuple #[.slice D d.length dk, .agg #[.slice P p.length pk, .slice S rs.length k]]) ∧
      d.length ≤ 9 ∧ p.length ≤ 5 ∧ rs.length ≤ 17 ∧ In w' D dk d ∧ InM w' P pk p S k rs ∧ Below w.heap.size w w') := by
  have hb0 := (Below.refl w.heap.size w).alloc (Nat.le_refl _) (Obj.cells #[Value.slice none 0 0, Value.slice none 0 0] 27)
  have ob := obj_new w (Obj.cells #[Value.slice none 0 0, Value.slice none 0 0] 27)
  have HC := Lib.hid (l1New_any A c bs _ h.len (h.next hb0).rd)
  go_enter Try.func8, Try.ntmps8
  go_wp2_with fail
  (with_reducible refine HC.out.mono ?_)
  rintro e w1 ⟨q, rfl, hq, hc, hb⟩
  have ob := obj_below ob hb (by simp)
  have hb0 := hb0.trans (hb.mono hb0.size)
  have hq0 : w.heap.size < q := by simp at hq; omega
  have HD := Lib.hid (l2Bent_any w1 q A c bs hc)
  clear HC hb hq
  go_wp2_with fail
  (with_reducible refine HD.out.mono ?_)
  rintro e w2 ⟨D, dk, d, rfl, hd9, ho, k1⟩
  have hq1 := hc.lt
  have ob := obj_below ob (k1.below (B := q) (Nat.le_refl _) (Nat.le_of_lt hq1)) hq0
  have hb0 := hb0.trans (k1.below (by omega) hb0.size)
  have HE := Lib.hid (l9Draw_any w2 q A c bs k1.cur)
  clear HD
  go_wp2_with fail
  (with_reducible refine HE.out.mono ?_)
  rintro e w3 ⟨P, pk, p, S, k, rs, rfl, hp5, hr17, hr2, hoP, hoR, k3⟩
  have ho := own_drawn ho k3 hq1
  have ob := obj_below ob (k3.below (B := q) (Nat.le_refl _) (Nat.le_of_lt k1.cur.lt)) hq0
  have hb0 := hb0.trans (k3.below (by omega) hb0.size)
  have t0 := (obj_cell (i := 0) ob).trans rfl
  have t1 := (obj_cell (i := 1) ob).trans rfl
  have u0 := obj_frozen (i := 0) ob
  have u1 := obj_frozen (i := 1) ob
  have o1 := obj_set (i := 0) ob (Value.slice P p.length pk)
  have o2 := obj_set (i := 1) o1 (Value.slice S rs.length k)
  have l0 := (obj_cell (i := 0) o2).trans rfl
  have l1 := (obj_cell (i := 1) o2).trans rfl
  have hsp : Span w.heap.size (w.heap.size + 1) w3 ((w3.setCell ⟨w.heap.size, 0, none⟩ (Value.slice P p.length pk)).setCell ⟨w.heap.size, 1, none⟩ (Value.slice S rs.length k)) :=
    (Span.set (p := ⟨w.heap.size, 0, none⟩) (Nat.le_refl _) (Nat.lt_succ_self _) _).trans (Span.set (p := ⟨w.heap.size, 1, none⟩) (Nat.le_refl _) (Nat.lt_succ_self _) _)
  have hD : In ((w3.setCell ⟨w.heap.size, 0, none⟩ (Value.slice P p.length pk)).setCell ⟨w.heap.size, 1, none⟩ (Value.slice S rs.length k)) D dk d := In.of_own (own_span ho hsp fun g hg => .inr (by have := (ho.lt g hg).1; omega)) (by omega)
  have hw2 := k1.span.size
  have hP := In.of_own (own_span hoP hsp fun g hg => .inr (by have := (hoP.lt g hg).1; omega)) (by omega)
  have hR := (hoR.span hsp (.inr (by omega))).read.toL (by have := sizeR_le2 hr2; omega) (by simp [World.setCell])
  have hb9 := (hb0.setCell (p := ⟨w.heap.size, 0, none⟩) (Nat.le_refl _) (Value.slice P p.length pk)).setCell (p := ⟨w.heap.size, 1, none⟩) (Nat.le_refl _) (Value.slice S rs.length k)
  clear HE ho k1 k3 o1 o2 hsp ob hoP hoR hr2
  go_wp2_with fail
  refine bodyPost_ret (v := .tuple #[.slice D d.length dk, .agg #[.slice P p.length pk, .slice S rs.length k]]) (by simp [results, Try.results8, go_sem, l0, l1]) rfl ?_
  exact ⟨D, dk, d, P, pk, p, S, k, rs, rfl, hd9, hp5, hr17, hD, ⟨hP, hR⟩, hb9⟩
end Go.Proofs.Ythipikllgpnlhaa
