/- CountMesh of the reference. -/
import Derived.Test.YtmkaelefljjamaaB1
import Derived.Test.YtmkaelefljjamaaV1
import Derived.StillTailTactics
import Derived.Deep.RegionHeld3
namespace Go.Proofs.Ytmkaelefljjamaa
set_option maxRecDepth 100000
open Go Go.RowKit

set_option maxHeartbeats 4000000 in
theorem l9Box_any (C D : Option Addr) (e f j : Nat) (p l : List Int) (w : World) (hp : In w C e p) (hl : In w D f l) (hp8 : p.length ≤ 8) (hl8 : l.length ≤ 8) (hm : ∀ x ∈ l, 1 ≤ x ∧ x ≤ p.length) (hj : j < p.length) :
    Calls Try.prog 136 #[.slice C p.length e, .slice D l.length f, .int .i64 ((j : Int) + 1)] w (Ret (Value.int .i64) 3 w [(colN l ((j : Int) + 1) : Int), (rowN p l p[j] : Int)]) := by
  go_enter Try.func136, Try.ntmps136
  go_wp2_with fail
  go_loopw [7, 8, 9] (fun x y i wr => ∃ u : Nat, u ≤ l.length ∧ i = .int .i64 u ∧ x = .int .i64 (cntTo (fun k => decide (k < (j : Int) + 1)) l u : Nat) ∧ y = .int .i64 (cntTo (fun k => decide (nth p (k - 1) < p[j])) l u : Nat) ∧ Dr w wr) (fun _ _ i _ => l.length - (intOf i).toNat)
  case atStart => exact ⟨0, Nat.zero_le _, rfl, rfl, rfl, Dr.refl _⟩
  case round =>
    obtain ⟨u, hu, rfl, rfl, rfl, hd⟩ := hrel
    have hx1 := cntTo_le (fun k => decide (k < (j : Int) + 1)) l u
    have hy1 := cntTo_le (fun k => decide (nth p (k - 1) < p[j])) l u
    rcases Nat.lt_or_ge u l.length with hul | hug
    · obtain ⟨bl, ol, rfl, _, hcl⟩ := (hl.dr hd).rd (by omega)
      obtain ⟨bp, op, rfl, _, hcp⟩ := (hp.dr hd).rd (by omega)
      have hxl := hm l[u] (List.getElem_mem hul)
      obtain ⟨cu, hcu⟩ : ∃ cu : Nat, (cu : Int) + 1 = l[u] := ⟨(l[u] - 1).toNat, by omega⟩
      have hcup : cu < p.length := by omega
      have g1 := hcl u hul
      have g2 := hcp cu hcup
      have g3 := hcp j hj
      rw [← hcu] at g1
      have HX := Lib.hid (show decide (l[u] < (j : Int) + 1) = decide ((cu : Int) + 1 < (j : Int) + 1) by rw [hcu])
      have HY := Lib.hid (show decide (nth p (l[u] - 1) < p[j]) = decide (p[cu] < p[j]) by
        rw [← hcu]; unfold nth; rw [Int.add_sub_cancel, Int.toNat_natCast, List.getElem?_eq_getElem hcup]; rfl)
      have e1 : IntKind.i64.wrap ((cu : Int) + 1 - 1) = (cu : Int) := by rw [Int.add_sub_cancel]; exact IntWalk.i64_in _ (by omega)
      have e2 : IntKind.i64.wrap ((j : Int) + 1 - 1) = (j : Int) := by rw [Int.add_sub_cancel]; exact IntWalk.i64_in _ (by omega)
      have e3 : (cu : Int) < (p.length : Int) := by omega
      have e4 : (j : Int) < (p.length : Int) := by omega
      have e5 : (u : Int) < (l.length : Int) := by omega
      have w1 : IntKind.i64.wrap (((cntTo (fun k => decide (nth p (k - 1) < p[j])) l u : Nat) : Int) + 1) = ((cntTo (fun k => decide (nth p (k - 1) < p[j])) l u : Nat) : Int) + 1 := IntWalk.i64_in _ (by omega)
      have w2 : IntKind.i64.wrap (((cntTo (fun k => decide (nth p (k - 1) < p[j])) l u : Nat) : Int) + 0) = ((cntTo (fun k => decide (nth p (k - 1) < p[j])) l u : Nat) : Int) := by rw [Int.add_zero]; exact IntWalk.i64_in _ (by omega)
      clear hcl hcp hxl hcu
      go_wp2_with fail
      by_cases hx : (cu : Int) + 1 < (j : Int) + 1
      case' pos =>
        have KX := Lib.hid (cntTo_yes (H := fun k => decide (k < (j : Int) + 1)) hul (by show decide (l[u] < (j : Int) + 1) = true; rw [HX.out]; exact decide_eq_true hx))
        (with_reducible refine (l1Bit_b _ 1 wr (by first | rw [if_pos (decide_eq_true hx)] | (simp; omega))).mono ?_)
        rintro e w' ⟨rfl, rfl⟩
        go_wp2_with fail
      case' neg =>
        have KX := Lib.hid (cntTo_no (H := fun k => decide (k < (j : Int) + 1)) hul (by show decide (l[u] < (j : Int) + 1) = false; rw [HX.out]; exact decide_eq_false hx))
        (with_reducible refine (l1Bit_b _ 0 wr (by first | (rw [decide_eq_false hx]; rfl) | (simp; omega))).mono ?_)
        rintro e w' ⟨rfl, rfl⟩
        go_wp2_with fail
      all_goals
        clear hx
        by_cases hy : p[cu] < p[j]
        · have KY := Lib.hid (cntTo_yes (H := fun k => decide (nth p (k - 1) < p[j])) hul (by show decide (nth p (l[u] - 1) < p[j]) = true; rw [HY.out]; exact decide_eq_true hy))
          have DY := Lib.hid (show (if decide (p[cu] < p[j]) = true then (1 : Int) else 0) = 1 by rw [if_pos (decide_eq_true hy)])
          clear hy
          go_quiet ((go_at_call 55; exact quiet_eq (l1Bit_b _ 1 _ DY.out)))
          go_wp2_with fail
          go_roundw
          case rel => exact ⟨u + 1, by omega, by go_num, by rw [KX.out]; all_goals go_num, by rw [KY.out]; all_goals go_num, (by first | with_reducible assumption | with_reducible exact hd | with_reducible exact Dr.drewN hd _ | with_reducible exact Dr.drewN (Dr.drewN hd _) _ | with_reducible exact Dr.drew hd)⟩
          case measure => simp [intOf]; omega
        · have KY := Lib.hid (cntTo_no (H := fun k => decide (nth p (k - 1) < p[j])) hul (by show decide (nth p (l[u] - 1) < p[j]) = false; rw [HY.out]; exact decide_eq_false hy))
          have DY := Lib.hid (show (if decide (p[cu] < p[j]) = true then (1 : Int) else 0) = 0 by rw [decide_eq_false hy]; rfl)
          clear hy
          go_quiet ((go_at_call 55; exact quiet_eq (l1Bit_b _ 0 _ DY.out)))
          go_wp2_with fail
          go_roundw
          case rel => exact ⟨u + 1, by omega, by go_num, by rw [KX.out]; all_goals go_num, by rw [KY.out]; all_goals go_num, (by first | with_reducible assumption | with_reducible exact hd | with_reducible exact Dr.drewN hd _ | with_reducible exact Dr.drewN (Dr.drewN hd _) _ | with_reducible exact Dr.drew hd)⟩
          case measure => simp [intOf]; omega
    · obtain rfl : u = l.length := by omega
      have KX := Lib.hid (colN_cnt l ((j : Int) + 1))
      have KY := Lib.hid (rowN_cnt p l p[j])
      rw [KX.out, KY.out]
      have hszd : w.heap.size = wr.heap.size := by rw [hd.heap]
      have HZ := Lib.hid hszd
      have hfin : (wr.alloc (Obj.cells #[.int .i64 (colN l ((j : Int) + 1) : Nat), .int .i64 (rowN p l p[j] : Nat)] 3)).ownsRow w.heap.size 3 1 (.slice (some ⟨wr.heap.size, 0, none⟩) 2 2) 2 ([(colN l ((j : Int) + 1) : Int), (rowN p l p[j] : Int)].map (Value.int .i64)) :=
        World.ownsRow_lit wr #[.int .i64 (colN l ((j : Int) + 1) : Nat), .int .i64 (rowN p l p[j] : Nat)] 2 (by omega) (by unfold maxLen; omega) rfl
      have hbf := (below_dr (Below.refl w.heap.size w) hd).alloc (by omega) (Obj.cells #[.int .i64 (colN l ((j : Int) + 1) : Nat), .int .i64 (rowN p l p[j] : Nat)] 3)
      clear hszd
      go_wp2_with fail
      go_ret
      exact ⟨_, 2, rfl, Nat.le_refl _, by unfold maxLen; omega, hfin, hbf⟩
set_option maxHeartbeats 8000000 in
theorem l9Fits_b (C D B : Option Addr) (e f k : Nat) (rs : List Row) (p l : List Int) (w : World) (b : Bool) (hp : In w C e p) (hl : In w D f l) (hr : InL w B k rs) (h2 : ∀ r ∈ rs, r.xs.length = 2) (hp8 : p.length ≤ 8) (hl8 : l.length ≤ 8)
    (hm : ∀ x ∈ l, 1 ≤ x ∧ x ≤ p.length) (hb : freeB p l (rs.map Row.xs) = b) :
    Calls Try.prog 123 #[.slice C p.length e, .slice D l.length f, .slice B rs.length k] w (Rb w (.bool b)) := by
  have HB := Lib.hid hb
  have hrl := hr.len
  have H22 := Lib.hid h2
  clear hb h2
  go_enter Try.func123, Try.ntmps123
  go_wp2_with fail
  go_loopw [7] (fun i wr => ∃ j : Nat, j ≤ p.length ∧ i = .int .i64 ((j : Int) + 1) ∧ Hid (freeTo p l (rs.map Row.xs) j = true) ∧ Below w.heap.size w wr) (fun i _ => p.length + 1 - (intOf i).toNat)
  case atStart => exact ⟨0, Nat.zero_le _, rfl, Lib.hid rfl, Below.refl _ _⟩
  case round =>
    obtain ⟨j, hj, rfl, HF, hb⟩ := hrel
    rcases Nat.lt_or_ge j p.length with hlt | hge
    · have hl1 := (hl.next hb).rd
      have HS := Lib.hid (freeTo_succ p l (rs.map Row.xs) j)
      have hnj : nth p (j : Int) = p[j] := by unfold nth; rw [Int.toNat_natCast, List.getElem?_eq_getElem hlt]; rfl
      have HNJ := Lib.hid hnj
      clear hnj
      go_wp2_with fail
      by_cases hmem : ((j : Int) + 1) ∈ l
      · have HT := Lib.hid (show freeTo p l (rs.map Row.xs) (j + 1) = true by rw [HS.out, HF.out]; unfold freeAt; rw [decide_eq_true hmem]; rfl)
        (with_reducible refine (l2Has_b D f l.length l ((j : Int) + 1) wr true rfl (by omega) hl1 (decide_eq_true hmem)).mono ?_)
        rintro e w' ⟨rfl, rfl⟩
        clear hmem
        go_wp2_with fail
        go_roundw
        case rel => exact ⟨j + 1, by omega, by go_num, HT, hb⟩
        case measure => simp [intOf]; omega
      · have HFA := Lib.hid (show freeAt p l (rs.map Row.xs) j = !shB (rs.map Row.xs) (colN l ((j : Int) + 1)) (rowN p l p[j]) by unfold freeAt; rw [decide_eq_false hmem, HNJ.out]; rfl)
        (with_reducible refine (l2Has_b D f l.length l ((j : Int) + 1) wr false rfl (by omega) hl1 (decide_eq_false hmem)).mono ?_)
        rintro e w' ⟨rfl, rfl⟩
        clear hmem
        go_wp2_with fail
        (with_reducible refine (l9Box_any C D _ f j p l wr (hp.next hb) (hl.next hb) hp8 hl8 hm hlt).mono ?_)
        rintro e w1 ⟨A1, c1, rfl, q1, q2, own1, hb1⟩
        have hbw := hb.trans (hb1.mono hb.size)
        have hrb := Rd.of_own own1
        obtain ⟨wo, rfl⟩ : ∃ wo : World, wo = wr := ⟨_, rfl⟩
        obtain ⟨bx, hbx⟩ : ∃ bx, bx = [(colN l ((j : Int) + 1) : Int), (rowN p l p[j] : Int)] := ⟨_, rfl⟩
        rw [← hbx] at hrb
        have HBX := Lib.hid hbx
        have HSH := Lib.hid (show shB (rs.map Row.xs) (colN l ((j : Int) + 1)) (rowN p l p[j]) = rs.any fun r : Row => decide (r.xs = bx) by
          unfold shB; rw [any_rows rs (fun s => decide (s = bx)), hbx])
        clear own1 q1 q2 hbx
        go_wp2_with fail
        go_loopw [9] (fun i wr => ∃ u : Nat, u ≤ rs.length ∧ i = .int .i64 u ∧ Hid ((rs.take u).any (fun r : Row => decide (r.xs = bx)) = false) ∧ Dr w1 wr) (fun i _ => rs.length - (intOf i).toNat)
        case atStart => exact ⟨0, Nat.zero_le _, rfl, Lib.hid rfl, Dr.refl _⟩
        case round =>
          obtain ⟨u, hu, rfl, HN, hd⟩ := hrel
          rcases Nat.lt_or_ge u rs.length with hul | hug
          · have hL := (hr.next hbw).dr hd
            obtain ⟨b', off, rfl, _, hc⟩ := hL.read.at (by omega)
            have cc := hc u hul
            have hrow := (hL.row (List.getElem_mem hul)).rd
            have hl22 : rs[u].xs.length ≤ 4611686018427387904 := by have := H22.out _ (List.getElem_mem hul); omega
            have hszd : wr.heap.size = w1.heap.size := by rw [hd.heap]
            have hrb2 : Rd (Value.int .i64) wr wr.heap.size A1 bx := (hrb.dr hd).more (by omega)
            have hbl := Lib.hid (show bx.length = 2 by rw [HBX.out]; rfl)
            clear hc hszd
            go_wp2_with fail
            by_cases he : rs[u].xs = bx
            · have HE := Lib.hid (show freeB p l (rs.map Row.xs) = false from freeTo_false hlt (by rw [HFA.out, HSH.out, any_at hul (decide_eq_true he)]; rfl))
              (with_reducible refine (l2Same_b rs[u].A A1 rs[u].c c1 rs[u].xs.length 2 rs[u].xs bx wr true rfl hbl.out hl22 hrow hrb2 (decide_eq_true he)).mono ?_)
              rintro e w2 ⟨rfl, hd2⟩
              clear he
              go_wp2_with fail
              go_ret
              exact ⟨ret_bool (by rw [← HB.out, HE.out]), below_dr (below_dr hbw hd) hd2⟩
            · have HT := Lib.hid (show (rs.take (u + 1)).any (fun r : Row => decide (r.xs = bx)) = false from any_take_false HN.out hul (decide_eq_false he))
              (with_reducible refine (l2Same_b rs[u].A A1 rs[u].c c1 rs[u].xs.length 2 rs[u].xs bx wr false rfl hbl.out hl22 hrow hrb2 (decide_eq_false he)).mono ?_)
              rintro e w2 ⟨rfl, hd2⟩
              clear he
              go_wp2_with fail
              go_roundw
              case rel => exact ⟨u + 1, by omega, by go_num, HT, hd.trans hd2⟩
              case measure => simp [intOf]; omega
          · have HT := Lib.hid (show freeTo p l (rs.map Row.xs) (j + 1) = true by
              have h1 := HN.out
              rw [List.take_of_length_le hug] at h1
              rw [HS.out, HF.out, HFA.out, HSH.out, h1]; rfl)
            have hbz := below_dr hbw hd
            go_wp2_with fail
            go_roundw
            case rel => exact ⟨j + 1, by omega, by go_num, HT, hbz⟩
            case measure => simp [intOf]; omega
    · obtain rfl : j = p.length := by omega
      go_wp2_with fail
      go_ret
      exact ⟨ret_bool (by rw [← HB.out]; exact HF.out.symm), hb⟩
set_option maxHeartbeats 8000000 in
theorem l9Count_any (C : Option Addr) (e : Nat) (p : List Int) (A B : Option Addr) (c k : Nat) (xs : List Int) (rs : List Row) (w : World) (hp : In w C e p) (h : InM w A c xs B k rs) (h2 : ∀ r ∈ rs, r.xs.length = 2) (hP : permB p = true) (hQ : permB xs = true) :
    Calls Try.prog 87 #[.slice C p.length e, .agg #[.slice A xs.length c, .slice B rs.length k]] w (Rb w (.int .i64 (cntM p xs (rs.map Row.xs) : Nat))) := by
  have hp8 := (permB_true hP).1
  have hx8 := (permB_true hQ).1
  have HOC := Lib.hid (occ_eq hP hQ)
  have H22 := Lib.hid h2
  clear hP hQ h2
  go_enter Try.func87, Try.ntmps87
  have hb0 : Below w.heap.size w (w.alloc (Obj.cells #[Value.slice A xs.length c, Value.slice B rs.length k] 51)) := (Below.refl _ _).alloc (Nat.le_refl _) _
  have ob := obj_new w (Obj.cells #[Value.slice A xs.length c, Value.slice B rs.length k] 51)
  have hz0 : (w.alloc (Obj.cells #[Value.slice A xs.length c, Value.slice B rs.length k] 51)).heap.size = w.heap.size + 1 := by simp
  have FR := Lib.hid (find_root C A e c p xs (w.alloc (Obj.cells #[Value.slice A xs.length c, Value.slice B rs.length k] 51)) (hp.next hb0) (h.1.next hb0) hp8 hx8)
  rw [hz0] at FR
  have HZ := Lib.hid hz0
  clear hz0
  go_wp2_with fail
  (with_reducible refine FR.out.mono ?_)
  rintro e w1 ⟨A3, c3, ls, rfl, hX, hO, hb1⟩
  rw [HOC.out] at hX
  have ob := obj_below ob hb1 (obj_lt ob)
  have hb := hb0.trans (hb1.mono hb0.size)
  have hRd := hO.read
  have hlen : ls.length ≤ 16777216 := by
    have h1 := List.length_filter_le (fun l => decide (patL (atL p l) = xs)) (ascI p.length xs.length)
    have h2 := ascI_le p.length xs.length
    have h3 := pow_eight hp8 hx8
    have h4 := congrArg List.length hX
    rw [List.length_map] at h4
    unfold occI at h4
    omega
  have HX := Lib.hid hX
  clear hX hO hb1 hb0 FR
  go_wp2_with fail
  go_loopw [5, 7] (fun s i wr => ∃ j : Nat, j ≤ ls.length ∧ i = .int .i64 j ∧ s = .int .i64 (cntTo (fun r : Row => freeB p r.xs (rs.map Row.xs)) ls j : Nat) ∧ wr.heap[w.heap.size]? = some (Obj.cells #[Value.slice A xs.length c, Value.slice B rs.length k] 51) ∧ Below w1.heap.size w1 wr) (fun _ i _ => ls.length - (intOf i).toNat)
  case atStart => exact ⟨0, Nat.zero_le _, rfl, rfl, ob, Below.refl _ _⟩
  case round =>
    clear ob
    obtain ⟨j, hj, rfl, rfl, ob, hb4⟩ := hrel
    have hle := cntTo_le (fun r : Row => freeB p r.xs (rs.map Row.xs)) ls j
    have hsz4 := hb4.size
    rcases Nat.lt_or_ge j ls.length with hlt | hge
    · have hbd : Below w1.heap.size w1 wr.drew := below_dr hb4 (Dr.refl _).drew
      have hRd2 : Read wr.drew wr.drew.heap.size ls [⟨A3, c3, ls.map Row.v⟩] := (hRd.below hbd).more hbd.size
      obtain ⟨b, off, rfl, _, hc⟩ := hRd2.at (by omega)
      have cc : wr.cell? ⟨b, off + j, none⟩ = some (Value.slice ls[j].A ls[j].xs.length ls[j].c) := hc j hlt
      have ccd := hc j hlt
      have hmem := ascI_mem (List.mem_filter.1 (map_memX HX.out (List.getElem_mem hlt))).1
      have hml : ls[j].xs.length = xs.length := hmem.1
      have hlim : ∀ x ∈ ls[j].xs, 1 ≤ x ∧ x ≤ p.length := fun x hx => by have := hmem.2.1 x hx; omega
      have hl8 : ls[j].xs.length ≤ 8 := by omega
      have hin := row_in hRd2 (List.getElem_mem hlt) (by omega) (Nat.le_refl _)
      have hb5 := hb.trans (hbd.mono hb.size)
      have f1 : wr.cell? ⟨w.heap.size, 1, none⟩ = some (Value.slice B rs.length k) := (obj_cell ob).trans rfl
      have f1d : wr.drew.cell? ⟨w.heap.size, 1, none⟩ = some (Value.slice B rs.length k) := (obj_cell ob).trans rfl
      have hM : InM wr.drew A c xs B k rs := h.next hb5
      have hp2 := hp.next hb5
      have obd : wr.drew.heap[w.heap.size]? = some (Obj.cells #[Value.slice A xs.length c, Value.slice B rs.length k] 51) := ob
      have i0 : (0 : Int) ≤ (j : Int) := Int.natCast_nonneg _
      have i1 : (j : Int) < (ls.length : Int) := by omega
      clear hc hmem hml
      by_cases hH : freeB p ls[j].xs (rs.map Row.xs) = true
      · have HT := Lib.hid (cntTo_yes (H := fun r : Row => freeB p r.xs (rs.map Row.xs)) hlt hH)
        have HHB := Lib.hid hH
        have e1 : IntKind.i64.wrap (((cntTo (fun r : Row => freeB p r.xs (rs.map Row.xs)) ls j : Nat) : Int) + 1) = ((cntTo (fun r : Row => freeB p r.xs (rs.map Row.xs)) ls j : Nat) : Int) + 1 := IntWalk.i64_in _ (by omega)
        clear hH
        go_wp2_with fail
        go_region_held3 (fun v => v.cell? ⟨b, off + j, none⟩ = some (Value.slice ls[j].A ls[j].xs.length ls[j].c) ∧ v.cell? ⟨w.heap.size, 1, none⟩ = some (Value.slice B rs.length k)) (first | exact ⟨ccd, f1d⟩ | exact ⟨cc2, f12⟩)
          ((first | (go_at_call 123; (with_reducible refine (l9Fits_b C ls[j].A B _ ls[j].c k rs p ls[j].xs wr.drew true hp2 hin hM.2 H22.out hp8 hl8 hlim HHB.out).mono ?_); rintro e w2 ⟨rfl, hb6⟩; have ob1 := obj_below obd hb6 (obj_lt obd); have f12 : w2.cell? ⟨w.heap.size, 1, none⟩ = some (Value.slice B rs.length k) := (obj_cell ob1).trans rfl; have cc2 := (hRd2.below hb6).cellAt j hlt) | (go_at_call 55; (with_reducible refine (l1Bit_b true 1 _ rfl).mono ?_); rintro e w' ⟨rfl, rfl⟩)))
        clear cc2 f12
        go_wp2_with fail
        go_roundw
        case rel => exact ⟨j + 1, by omega, by go_num, by rw [HT.out]; all_goals go_num, ob1, hbd.trans (hb6.mono hbd.size)⟩
        case measure => simp [intOf]; omega
      · have hHf : freeB p ls[j].xs (rs.map Row.xs) = false := by simpa using hH
        have HT := Lib.hid (cntTo_no (H := fun r : Row => freeB p r.xs (rs.map Row.xs)) hlt hHf)
        have HHB := Lib.hid hHf
        have e1 : IntKind.i64.wrap (((cntTo (fun r : Row => freeB p r.xs (rs.map Row.xs)) ls j : Nat) : Int) + 0) = ((cntTo (fun r : Row => freeB p r.xs (rs.map Row.xs)) ls j : Nat) : Int) := by rw [Int.add_zero]; exact IntWalk.i64_in _ (by omega)
        have e2 : IntKind.i64.wrap ((cntTo (fun r : Row => freeB p r.xs (rs.map Row.xs)) ls j : Nat) : Int) = ((cntTo (fun r : Row => freeB p r.xs (rs.map Row.xs)) ls j : Nat) : Int) := IntWalk.i64_in _ (by omega)
        clear hH hHf
        go_wp2_with fail
        go_region_held3 (fun v => v.cell? ⟨b, off + j, none⟩ = some (Value.slice ls[j].A ls[j].xs.length ls[j].c) ∧ v.cell? ⟨w.heap.size, 1, none⟩ = some (Value.slice B rs.length k)) (first | exact ⟨ccd, f1d⟩ | exact ⟨cc2, f12⟩)
          ((first | (go_at_call 123; (with_reducible refine (l9Fits_b C ls[j].A B _ ls[j].c k rs p ls[j].xs wr.drew false hp2 hin hM.2 H22.out hp8 hl8 hlim HHB.out).mono ?_); rintro e w2 ⟨rfl, hb6⟩; have ob1 := obj_below obd hb6 (obj_lt obd); have f12 : w2.cell? ⟨w.heap.size, 1, none⟩ = some (Value.slice B rs.length k) := (obj_cell ob1).trans rfl; have cc2 := (hRd2.below hb6).cellAt j hlt) | (go_at_call 55; (with_reducible refine (l1Bit_b false 0 _ rfl).mono ?_); rintro e w' ⟨rfl, rfl⟩)))
        clear cc2 f12
        go_wp2_with fail
        go_roundw
        case rel => exact ⟨j + 1, by omega, by go_num, by rw [HT.out]; all_goals go_num, ob1, hbd.trans (hb6.mono hbd.size)⟩
        case measure => simp [intOf]; omega
    · obtain rfl : j = ls.length := by omega
      have HE := Lib.hid (show cntTo (fun r : Row => freeB p r.xs (rs.map Row.xs)) ls ls.length = cntM p xs (rs.map Row.xs) by
        rw [cntTo_all]; unfold cntM; rw [← HX.out, List.filter_map, List.length_map]; rfl)
      go_wp2_with fail
      go_ret
      exact ⟨ret_int (by rw [HE.out]), hb.trans (hb4.mono hb.size)⟩
set_option maxHeartbeats 2000000 in
theorem countMesh_spec (C : Option Addr) (e : Nat) (p : List Int) (A B : Option Addr) (c k : Nat) (xs : List Int) (rs : List Row) (w : World) (hp : In w C e p) (h : InM w A c xs B k rs) :
    Calls Try.prog 45 #[.slice C p.length e, .agg #[.slice A xs.length c, .slice B rs.length k]] w (Rb w (.int .i64 (cmG p xs (rs.map Row.xs)))) := by
  go_enter Try.func45, Try.ntmps45
  have hb0 : Below w.heap.size w (w.alloc (Obj.cells #[Value.slice A xs.length c, Value.slice B rs.length k] 51)) := (Below.refl _ _).alloc (Nat.le_refl _) _
  have ob := obj_new w (Obj.cells #[Value.slice A xs.length c, Value.slice B rs.length k] 51)
  go_wp2_with fail
  generalize (w.alloc (Obj.cells #[Value.slice A xs.length c, Value.slice B rs.length k] 51)) = w0 at hb0 ob ⊢
  by_cases hP : permB p = true
  · have H1 := Lib.hid hP
    have hp8 := (permB_true hP).1
    (with_reducible refine (isPerm_sb C e p w0 true (hp.next hb0) hP).mono ?_)
    rintro e w1 ⟨rfl, hd1⟩
    have ob := obj_dr ob hd1
    have hb := below_dr hb0 hd1
    have f0 : w1.cell? ⟨w.heap.size, 0, none⟩ = some (Value.slice A xs.length c) := (obj_cell ob).trans rfl
    have f1 : w1.cell? ⟨w.heap.size, 1, none⟩ = some (Value.slice B rs.length k) := (obj_cell ob).trans rfl
    clear hP
    go_wp2_with fail
    by_cases hM : meshB xs (rs.map Row.xs) = true
    · have HG := Lib.hid (show cmG p xs (rs.map Row.xs) = (cntM p xs (rs.map Row.xs) : Int) by unfold cmG; rw [if_pos ⟨H1.out, hM⟩])
      have HM := Lib.hid hM
      have h2 := rows_two hM
      (with_reducible refine (mesh_sb A B c k xs rs w1 true (h.next hb) hM).mono ?_)
      rintro e w2 ⟨rfl, hb2⟩
      have ob := obj_below ob hb2 (obj_lt ob)
      have hb := hb.trans (hb2.mono hb.size)
      have f0 : w2.cell? ⟨w.heap.size, 0, none⟩ = some (Value.slice A xs.length c) := (obj_cell ob).trans rfl
      have f1 : w2.cell? ⟨w.heap.size, 1, none⟩ = some (Value.slice B rs.length k) := (obj_cell ob).trans rfl
      clear hM
      go_wp2_with fail
      (with_reducible refine (l9Count_any C _ p A B c k xs rs w2 (hp.next hb) (h.next hb) h2 H1.out (mesh_perm HM.out).1).mono ?_)
      rintro e w3 ⟨rfl, hb3⟩
      go_wp2_with fail
      go_ret
      exact ⟨ret_int (by rw [HG.out]), hb.trans (hb3.mono hb.size)⟩
    · have hMf : meshB xs (rs.map Row.xs) = false := by simpa using hM
      have HG := Lib.hid (show cmG p xs (rs.map Row.xs) = -1 by unfold cmG; rw [if_neg]; exact fun h => hM h.2)
      (with_reducible refine (mesh_sb A B c k xs rs w1 false (h.next hb) hMf).mono ?_)
      rintro e w2 ⟨rfl, hb2⟩
      clear hM hMf
      go_wp2_with fail
      go_ret
      exact ⟨ret_int (by rw [HG.out]), hb.trans (hb2.mono hb.size)⟩
  · have hPf : permB p = false := by simpa using hP
    have HG := Lib.hid (show cmG p xs (rs.map Row.xs) = -1 by unfold cmG; rw [if_neg]; exact fun h => hP h.1)
    (with_reducible refine (isPerm_sb C e p w0 false (hp.next hb0) hPf).mono ?_)
    rintro e w1 ⟨rfl, hd1⟩
    clear hP hPf
    go_wp2_with fail
    go_ret
    exact ⟨ret_int (by rw [HG.out]), below_dr hb0 hd1⟩
end Go.Proofs.Ytmkaelefljjamaa
