/- Several texts in one, each with its own head: D2, D3, V5, PB2, Q3, T3. No program of ours. -/
import Derived.Test.YtodloeonlaljpaaGreatDoorShelf
import Derived.Lib.OwnBridge
import Derived.Lib.AppendStr
import Derived.Test.YtodloeonlaljpaaGreatDoorMClasses5
/- The draws of permutations: a list of as many numbers as was asked. -/
namespace Go.Proofs.YtodloeonlaljpaaGreatDoor
set_option maxRecDepth 100000
open Go Go.RowKit

section
variable {w w' wa wb : World} {q : Nat} {A : Option Addr} {c : Nat} {bs : List Int}
theorem own_drawn {base e n : Nat} {v : Value} {vs : List Value} (h : w.ownsRow base e 1 v n vs) (k : Drawn w w' q A c bs) (hq : q < base) : w'.ownsRow base e 1 v n vs :=
  own_span h k.span fun g hg => by have := (h.lt g hg).1; omega
theorem Drawn.next (h : Drawn wa wb q A c bs) (hb : Below wa.heap.size wb w') (hq : q < wa.heap.size) : Drawn wa w' q A c bs :=
  ⟨h.cur.below hb hq, ⟨hb.os.trans h.span.os, hb.tape.trans h.span.tape, hb.output.trans h.span.output, Nat.le_trans h.span.size hb.size, fun k hk hlh => (hb.block k hk).trans (h.span.block k hk hlh)⟩⟩
theorem Rd.drawn {α : Type} {f : α → Value} {B : Nat} {D : Option Addr} {xs : List α} (h : Rd f w B D xs) (k : Drawn w w' q A c bs) (hB : B ≤ q) (hw : B ≤ w.heap.size) : Rd f w' B D xs := h.below (k.span.below hB hw)
end
/-- 1, 2, .., m. -/
def upToL (m : Nat) : List Int := (List.range m).map fun i => ((i : Nat) : Int) + 1
theorem upToL_succ (m : Nat) : upToL (m + 1) = upToL m ++ [(m : Int) + 1] := by simp [upToL, List.range_succ]
theorem upToL_length (m : Nat) : (upToL m).length = m := by simp [upToL]
theorem ins_perm (xs : List Int) (t : Nat) (x : Int) : (xs.take t ++ [x] ++ xs.drop t).Perm (xs ++ [x]) := by
  have h : (xs.take t ++ [x] ++ xs.drop t).Perm (xs.take t ++ (xs.drop t ++ [x])) := by
    rw [List.append_assoc]
    exact List.Perm.append_left _ List.perm_append_comm
  rwa [← List.append_assoc, List.take_append_drop] at h
/-- A list of the call's own was drawn. -/
def RetD (w : World) (q : Nat) (A : Option Addr) (c : Nat) (bs : List Int) (ok : List Int → Prop) (en : Ending) (w' : World) : Prop :=
  ∃ D k ys, en = .returned (.slice D ys.length k) ∧ ok ys ∧ w'.ownsRow w.heap.size 3 1 (.slice D ys.length k) ys.length (ys.map (Value.int .i64)) ∧ Drawn w w' q A c bs

set_option maxHeartbeats 2000000 in
theorem l2Draw_any (w : World) (q : Nat) (A : Option Addr) (c : Nat) (bs : List Int) (n : Nat) (hn : n ≤ 1000000) (hc : Cur w q A c bs) :
    Calls Tryz.prog 73 #[.pointer (some ⟨q, 0, none⟩), .int .i64 n] w (RetD w q A c bs fun ys => ys.Perm (upToL n)) := by
  obtain ⟨i0, hi, hz0, hz1, hz2⟩ := info_parts infoI
  have hq := hc.lt
  have own0 : (w.alloc (.cells #[] 3)).ownsRow w.heap.size 3 1 (.slice (some ⟨w.heap.size, 0, none⟩) 0 0) 0 [] := World.ownsRow_lit w #[] 0 (Nat.le_refl _) (by unfold maxLen; omega) rfl
  have k0 := (Drawn.refl hc).next ((Below.refl w.heap.size w).alloc (Nat.le_refl _) (.cells #[] 3)) hq
  go_enter Tryz.func73, Tryz.ntmps73
  go_wp2_with fail
  go_loopw [5, 6] (fun o i wr => ∃ (m : Nat) (A1 : Option Addr) (c1 : Nat) (ys : List Int), m ≤ n ∧ i = .int .i64 ((m : Int) + 1) ∧ o = .slice A1 ys.length c1 ∧ Hid (ys.Perm (upToL m)) ∧
    wr.ownsRow w.heap.size 3 1 (.slice A1 ys.length c1) ys.length (ys.map (Value.int .i64)) ∧ Drawn w wr q A c bs) (fun _ i _ => n + 1 - (intOf i).toNat)
  case atStart => exact ⟨0, _, _, [], Nat.zero_le _, rfl, rfl, Lib.hid (by rw [show upToL 0 = [] from rfl]), own0, k0⟩
  case round =>
    clear own0 k0
    obtain ⟨m, A1, c1, ys, hm, rfl, rfl, HP, own1, k1⟩ := hrel
    have hyl : ys.length = m := by rw [HP.out.length_eq, upToL_length]
    have hsz := k1.span.size
    rcases Nat.lt_or_ge m n with hlt | hge
    · have hy1 : ys.length ≤ 1000000 := by omega
      have HYL := Lib.hid hyl
      have e1 : IntKind.i64.wrap ((ys.length : Int) + 1) = (ys.length : Int) + 1 := IntWalk.i64_in _ (by omega)
      have l1 : (m : Int) + 1 ≤ (n : Int) := by omega
      have HC := Lib.hid (l1Below_any wr q A c bs ((ys.length : Int) + 1) (by omega) k1.cur)
      clear hyl
      go_wp2_with fail
      (with_reducible refine HC.out.mono ?_)
      rintro e w0 ⟨x, rfl, hx, kx⟩
      obtain ⟨t, rfl⟩ := Int.eq_ofNat_of_zero_le hx.1
      have htl : t ≤ ys.length := by have := hx.2.1 (by omega); omega
      have own1 := own_drawn own1 kx hq
      have k1 := k1.trans kx
      have hsz0 := k1.span.size
      obtain ⟨cp1, cp2⟩ := own_caps own1
      clear hx kx HC
      have hsl1 := fun w => run_cut (P := Tryz.prog) (t := 27) Tryz.underlying27 sizeI A1 ys.length c1 t (t : Int) rfl htl w
      have hsl2 := fun w => run_slice_h (P := Tryz.prog) w 27 A1 ys.length c1 Tryz.underlying27 .i64 t (by omega) (by omega)
      have q2 : (t : Int) ≤ (ys.length : Int) := by omega
      have hown0 : (w0.alloc (.cells #[] 3)).ownsRow w0.heap.size 3 1 (.slice (some ⟨w0.heap.size, 0, none⟩) 0 0) 0 [] := World.ownsRow_lit w0 #[] 0 (Nat.le_refl _) (by unfold maxLen; omega) rfl
      have HX0 := Lib.hid ((((Rd.of_own own1).alloc (Nat.le_refl _) (.cells #[] 3)).cut (k := t) (c := c1) htl cp1))
      have HD1 := Lib.hid (show (ys.drop t).length = ys.length - t from List.length_drop)
      have HT1 := Lib.hid (show (ys.take t).length = t by simp; omega)
      have hbA := (Below.refl w0.heap.size w0).alloc (Nat.le_refl _) (.cells #[] 3)
      go_wp2_with (first
        | ((at_builtin; refine wpList_append_rd _ rfl _ _ 27 rfl (w0.heap.size) 3 i0 (.int .i64 0) 8 Tryz.underlying27 hi hz0 hz1 hz2 rfl _ _ _ rfl hown0 _ _ _ _ (ys.drop t) rfl HD1.out HX0.out (fun _ => rfl) (by unfold maxLen; omega) (by omega) (by first | omega | (simp; done) | (simp; omega)) ?_; intro v1 w1 hown1 hgrow1)
           simp only [Nat.zero_add, List.nil_append] at hown1
           obtain ⟨A3, c3, rfl, _, _⟩ := own_shape hown1
           have hbB := hbA.grown hgrow1 (by simp) (fun g hg => (hown0.lt g hg).1)
           have hszB := hbB.size
           have HT := own_take (own_below own1 hbB) htl)
        | ((at_builtin; refine wpList_append_own _ rfl _ _ 27 rfl (w.heap.size) 3 i0 (.int .i64 0) 1 8 Tryz.underlying27 hi hz0 hz1 hz2 rfl (by decide) _ _ _ rfl (World.ownsRow.alloc HT _) ⟨w1.heap.size, 0, none⟩ 1 1 [.int .i64 ((m : Int) + 1)] rfl rfl (cell_one_new _ _ _) (by intro u hu; simp at hu; subst hu; rfl) (by unfold maxLen; omega) (by omega) (by simp; omega) ?_; intro v2 w2 hown2 hgrow2 _)
           have hR2 := (hown1.alloc (Obj.cells #[Value.int .i64 ((m : Int) + 1)] 3)).kept hgrow2 (by
             rcases hv : (Value.slice A3 (ys.length - t) c3).ownBlock with _ | g
             · exact .inl rfl
             · refine .inr fun he => ?_
               have h1 := (hown1.lt g hv).1
               have h2 := ((own_take own1 htl).lt g he.symm).2
               omega)
           have HRR : Rd (Value.int .i64) w2 w2.heap.size A3 (ys.drop t) := Rd.of_own (c := c3) (by rw [HD1.out]; exact hR2)
           have hsz2 : w.heap.size ≤ w2.heap.size := by have := hgrow2.size; simp at this; omega)
        | (at_builtin; refine wpList_append_rd _ rfl _ _ 27 rfl (w.heap.size) 3 i0 (.int .i64 0) 8 Tryz.underlying27 hi hz0 hz1 hz2 rfl _ _ _ rfl hown2 _ _ _ _ (ys.drop t) rfl HD1.out HRR (fun _ => rfl) (by unfold maxLen; omega) (by omega) (by first | omega | (simp; done) | (simp; omega)) ?_; intro v4 w4 hown4 hgrow4))
      have hzl : (ys.take t ++ [(m : Int) + 1] ++ ys.drop t).length = t + 1 + (ys.length - t) := by simp only [List.length_append, List.length_singleton, HT1.out, HD1.out]
      have hown5 : w4.ownsRow w.heap.size 3 1 v4 (ys.take t ++ [(m : Int) + 1] ++ ys.drop t).length ((ys.take t ++ [(m : Int) + 1] ++ ys.drop t).map (Value.int .i64)) := by
        rw [hzl]
        simpa only [List.map_append, List.map_take, List.map_drop, List.map_cons, List.map_nil] using hown4
      obtain ⟨A5, c5, rfl, _, _⟩ := own_shape hown5
      have hbC := ((hbB.mono hsz0).alloc (by omega) (Obj.cells #[Value.int .i64 ((m : Int) + 1)] 3)).grown hgrow2 (by simp; omega) (fun g hg => (HT.lt g hg).1)
      have hbD := hbC.grown hgrow4 (by omega) (fun g hg => (hown2.lt g hg).1)
      have k5 := k1.next hbD hq
      have HP5 : Hid ((ys.take t ++ [(m : Int) + 1] ++ ys.drop t).Perm (upToL (m + 1))) := Lib.hid ((ins_perm ys t ((m : Int) + 1)).trans (by rw [upToL_succ]; exact List.Perm.append_right _ HP.out))
      exact ⟨⟨m + 1, A5, c5, _, by omega, by go_num, rfl, HP5, hown5, k5⟩, by simp [intOf]; omega⟩
    · obtain rfl : m = n := by omega
      go_wp2_with fail
      go_ret
      exact ⟨A1, c1, ys, rfl, HP.out, own1, k1⟩
set_option maxHeartbeats 2000000 in
theorem l2Any_any (w : World) (q : Nat) (A : Option Addr) (c : Nat) (bs : List Int) (hc : Cur w q A c bs) :
    Calls Tryz.prog 81 #[.pointer (some ⟨q, 0, none⟩)] w (RetD w q A c bs fun ys => ys.length ≤ 8 ∧ ys.Perm (upToL ys.length)) := by
  have hq := hc.lt
  have k0 := (Drawn.refl hc).next ((Below.refl w.heap.size w).alloc (Nat.le_refl _) (.cells #[.int .i64 0, .int .i64 1, .int .i64 2, .int .i64 3, .int .i64 4, .int .i64 5, .int .i64 5, .int .i64 6, .int .i64 6, .int .i64 7, .int .i64 8] 3)) hq
  have HC := Lib.hid (l1PickInt_any _ q A c bs w.heap.size 11 11 [0, 1, 2, 3, 4, 5, 5, 6, 6, 7, 8] rfl (by decide) (by decide) (by omega) (by simp) (fun j hj => (obj_cell (obj_new w _)).trans (by
    have hj : j < 11 := hj
    rcases j with _ | _ | _ | _ | _ | _ | _ | _ | _ | _ | _ | j
    all_goals first | rfl | omega)) k0.cur)
  go_enter Tryz.func81, Tryz.ntmps81
  go_wp2_with fail
  (with_reducible refine HC.out.mono ?_)
  rintro e w1 ⟨x, rfl, hx, k1⟩
  have hx8 : 0 ≤ x ∧ x ≤ 8 := by simp at hx; omega
  obtain ⟨n, rfl⟩ := Int.eq_ofNat_of_zero_le hx8.1
  have k1 := k0.trans k1
  have hsz := k1.span.size
  have HD := Lib.hid (l2Draw_any w1 q A c bs n (by omega) k1.cur)
  go_wp2_with fail
  (with_reducible refine HD.out.mono ?_)
  rintro e w2 ⟨D, k, ys, rfl, hp, ho, k2⟩
  go_wp2_with fail
  go_ret
  have hl : ys.length = n := by rw [hp.length_eq, upToL_length]
  exact ⟨D, k, ys, rfl, ⟨by omega, by rw [hl]; exact hp⟩, own_mono ho hsz, k1.trans k2⟩
set_option maxHeartbeats 2000000 in
theorem l2Bent_any (w : World) (q : Nat) (A : Option Addr) (c : Nat) (bs : List Int) (hc : Cur w q A c bs) :
    Calls Tryz.prog 48 #[.pointer (some ⟨q, 0, none⟩)] w (RetD w q A c bs fun ys => ys.length ≤ 9) := by
  obtain ⟨i0, hi, hz0, hz1, hz2⟩ := info_parts infoI
  have hq := hc.lt
  have HC := Lib.hid (l2Any_any w q A c bs hc)
  go_enter Tryz.func48, Tryz.ntmps48
  go_wp2_with fail
  (with_reducible refine HC.out.mono ?_)
  rintro e w1 ⟨D, k, ys, rfl, ⟨hl8, hp⟩, ho, k1⟩
  have HB := Lib.hid (l1Below_any w1 q A c bs 14 (by omega) k1.cur)
  have hsz := k1.span.size
  clear hp
  go_wp2_with fail
  (with_reducible refine HB.out.mono ?_)
  rintro e w2 ⟨x, rfl, hx, kx⟩
  have ho := own_drawn ho kx hq
  have k2 := k1.trans kx
  have hsz := k2.span.size
  by_cases hx0 : x = 0
  · subst hx0
    have HB := Lib.hid (l1Below_any w2 q A c bs 12 (by omega) k2.cur)
    clear hx
    go_wp2_with fail
    (with_reducible refine HB.out.mono ?_)
    rintro e w3 ⟨y, rfl, hy, ky⟩
    have ho := own_drawn ho ky hq
    have k3 := k2.trans ky
    have hsz := k3.span.size
    have e1 : IntKind.i64.wrap (y - 1) = y - 1 := IntWalk.i64_in _ (by omega)
    go_wp2_with (at_builtin; refine wpList_append_own _ rfl _ _ 27 rfl (w.heap.size) 3 i0 (.int .i64 0) 1 8 Tryz.underlying27 hi hz0 hz1 hz2 rfl (by decide) _ _ _ rfl (World.ownsRow.alloc ho _) ⟨w3.heap.size, 0, none⟩ 1 1 [.int .i64 (y - 1)] rfl rfl (cell_one_new _ _ _) (by intro u hu; simp at hu; subst hu; rfl) (by unfold maxLen; omega) (by omega) (by simp; omega) ?_; intro v1 w1 hown1 hgrow1 _)
    have hown5 : w1.ownsRow w.heap.size 3 1 v1 (ys ++ [y - 1]).length ((ys ++ [y - 1]).map (Value.int .i64)) := by simpa using hown1
    obtain ⟨A5, c5, rfl, _, _⟩ := own_shape hown5
    have hbC := ((Below.refl w.heap.size w3).alloc hsz (Obj.cells #[Value.int .i64 (y - 1)] 3)).grown hgrow1 (by simp; omega) (fun g hg => (ho.lt g hg).1)
    go_ret
    exact ⟨A5, c5, _, by simp, by simp; omega, hown5, k3.next hbC hq⟩
  by_cases hx1 : x = 1
  · subst hx1
    clear hx
    rcases Nat.eq_zero_or_pos ys.length with h0 | h0
    · obtain rfl : ys = [] := List.eq_nil_of_length_eq_zero h0
      go_wp2_with fail
      go_ret
      exact ⟨D, k, [], rfl, by simp, ho, k2⟩
    · have HB := Lib.hid (l1Below_any w2 q A c bs 11 (by omega) k2.cur)
      obtain ⟨g, cap, hv, hg1, hlt⟩ := ho.form (by simpa using h0)
      injection hv with hv1 hv2 hv3
      subst hv1 hv3
      go_wp2_with fail
      (with_reducible refine HB.out.mono ?_)
      rintro e w3 ⟨y, rfl, hy, ky⟩
      have ho := own_drawn ho ky hq
      have k3 := k2.trans ky
      have hsz := k3.span.size
      have e1 : IntKind.i64.wrap (y - 1) = y - 1 := IntWalk.i64_in _ (by omega)
      obtain ⟨f0, g0, ho5⟩ := own_put ho 0 h0 (y - 1)
      go_wp2_with fail
      go_ret
      exact ⟨some ⟨g, 0, none⟩, k, ys.set 0 (y - 1), by simp, by simp; omega, by simpa using ho5, k3.next ((Below.refl _ _).setCell (p := ⟨g, 0, none⟩) (ho.lt g rfl).1 _) hq⟩
  · go_wp2_with fail
    go_ret
    exact ⟨D, k, ys, rfl, by omega, ho, k2⟩
end Go.Proofs.YtodloeonlaljpaaGreatDoor

/- What the great laws begin with: the size test, equal lists of numbers, the draws from the code. -/
namespace Go.Proofs.YtodloeonlaljpaaGreatDoor
set_option maxRecDepth 100000
open Go Go.RowKit

/-- The code's bytes are read. -/
structure InY (w : World) (A : Option Addr) (c : Nat) (bs : List Int) : Prop where
  len : bs.length ≤ 1048576
  rd : Rd (Value.int .u8) w w.heap.size A bs
theorem InY.next {w w' : World} {A : Option Addr} {c : Nat} {bs : List Int} (h : InY w A c bs) (hb : Below w.heap.size w w') : InY w' A c bs := ⟨h.len, h.rd.next hb⟩

theorem big_ok (A : Option Addr) (c : Nat) (bs : List Int) (w : World) (hl : bs.length ≤ 1048576) :
    Calls Tryz.prog 4 #[.slice A bs.length c] w fun e w' => e = .returned (.bool false) ∧ w = w' := by
  have h1 : ¬ ((bs.length : Int) > 1048576) := by omega
  go_enter Tryz.func4, Tryz.ntmps4
  go_wp2_with fail
  go_ret
  exact ⟨by simp, rfl⟩
theorem big_no (A : Option Addr) (c : Nat) (bs : List Int) (w : World) (hl : 1048576 < bs.length) (hm : bs.length ≤ 9223372036854775807) :
    Calls Tryz.prog 4 #[.slice A bs.length c] w fun e w' => e = .returned (.bool true) ∧ w = w' := by
  have h1 : (bs.length : Int) > 1048576 := by omega
  go_enter Tryz.func4, Tryz.ntmps4
  go_wp2_with fail
  go_ret
  exact ⟨by simp, rfl⟩

set_option maxHeartbeats 800000 in
theorem sameInts_any (A A' : Option Addr) (c c' : Nat) (xs ys : List Int) (w : World) (hl : xs.length ≤ 1048576)
    (hx : Rd (Value.int .i64) w w.heap.size A xs) (hy : Rd (Value.int .i64) w w.heap.size A' ys) :
    Calls Tryz.prog 15 #[.slice A xs.length c, .slice A' ys.length c'] w (Rq w (.bool (decide (xs = ys)))) := by
  by_cases hlen : xs.length = ys.length
  · have hne : ((xs.length : Int) != (ys.length : Int)) = false := by simp [hlen]
    go_enter Tryz.func15, Tryz.ntmps15
    rw [← hlen]
    have hlH := Lib.hid hlen
    clear hne hlen
    go_wp2_with fail
    go_loopw [5] (fun i wr => ∃ k : Nat, k ≤ xs.length ∧ i = .int .i64 k ∧ Dr w wr ∧ Hid (xs.take k = ys.take k)) (fun i _ => xs.length - (intOf i).toNat)
    case atStart => exact ⟨0, Nat.zero_le _, rfl, Dr.refl _, Lib.hid rfl⟩
    case round =>
      obtain ⟨k, hk, rfl, hd, hT⟩ := hrel
      rcases Nat.lt_or_ge k xs.length with hlt | hge
      · have hly : k < ys.length := by have := hlH.out; omega
        obtain ⟨b, off, rfl, hb, hcx⟩ := hx (by omega)
        obtain ⟨b', off', rfl, hb', hcy⟩ := hy (by omega)
        have f1 : wr.cell? ⟨b, off + k, none⟩ = some (.int .i64 xs[k]) := (hd.cell _).trans (hcx k hlt)
        have f2 : wr.cell? ⟨b', off' + k, none⟩ = some (.int .i64 ys[k]) := (hd.cell _).trans (hcy k hly)
        have l1 : (k : Int) < (xs.length : Int) := by omega
        have l0 : (0 : Int) ≤ (k : Int) := Int.natCast_nonneg _
        by_cases he : xs[k] = ys[k]
        · have hbe : (xs[k] != ys[k]) = false := by simp [he]
          have HT := Lib.hid (show xs.take (k + 1) = ys.take (k + 1) by rw [List.take_succ_eq_append_getElem hlt, List.take_succ_eq_append_getElem hly, hT.out, he])
          have e1 : IntKind.i64.wrap ((k : Int) + 1) = (k : Int) + 1 := IntWalk.i64_in _ (by omega)
          generalize xs[k] = u at f1 hbe he
          clear he
          go_wp2_with fail
          go_quiet (fail)
          go_wp2_with fail
          go_roundw
          case rel => exact ⟨k + 1, by omega, by go_num, hd.drewN _, HT⟩
          case measure => simp [intOf]; omega
        · have hbe : (xs[k] != ys[k]) = true := by simp [he]
          have HE := Lib.hid (show xs ≠ ys from fun h => he (by subst h; rfl))
          clear he
          go_wp2_with fail
          go_quiet (fail)
          go_wp2_with fail
          go_ret
          exact ⟨ret_bool (decide_eq_false HE.out).symm, hd.drewN _⟩
      · have hkk : k = xs.length := by omega
        have HE := Lib.hid (show xs = ys by
          have h1 := hT.out
          have h2 := hlH.out
          rw [hkk, List.take_length, h2, List.take_length] at h1
          exact h1)
        have l1 : ¬ (k : Int) < (xs.length : Int) := by omega
        clear hkk
        go_wp2_with fail
        go_ret
        exact ⟨ret_bool (decide_eq_true HE.out).symm, hd⟩
  · have hne : ((xs.length : Int) != (ys.length : Int)) = true := by simp; omega
    have HE := Lib.hid (show xs ≠ ys from fun h => hlen (by rw [h]))
    clear hlen
    go_enter Tryz.func15, Tryz.ntmps15
    go_wp2_with fail
    go_ret
    exact ⟨ret_bool (decide_eq_false HE.out).symm, Dr.refl _⟩
theorem sameInts_eq (A A' : Option Addr) (c c' n n' : Nat) (xs ys : List Int) (w : World) (he : xs = ys) (hn : xs.length = n) (hn' : xs.length = n') (hl : n ≤ 1048576)
    (hx : Rd (Value.int .i64) w w.heap.size A xs) (hy : Rd (Value.int .i64) w w.heap.size A' ys) :
    Calls Tryz.prog 15 #[.slice A n c, .slice A' n' c'] w (Rq w (.bool true)) := by
  subst he hn hn'
  have := sameInts_any A A' c c' xs xs w hl hx hy
  rwa [decide_eq_true rfl] at this

/-- A draw of a list from the code. -/
def RetDL (w : World) (ok : List Int → Prop) (en : Ending) (w' : World) : Prop :=
  ∃ D k ys, en = .returned (.slice D ys.length k) ∧ ok ys ∧ w'.ownsRow w.heap.size 3 1 (.slice D ys.length k) ys.length (ys.map (Value.int .i64)) ∧ Below w.heap.size w w'
theorem Drawn.below {w w' : World} {q B : Nat} {A : Option Addr} {c : Nat} {bs : List Int} (k : Drawn w w' q A c bs) (hB : B ≤ q) (hw : B ≤ w.heap.size) : Below B w w' := k.span.below hB hw
end Go.Proofs.YtodloeonlaljpaaGreatDoor

/- InversePerm and CountPattern of the reference; the laws' sameLists, sameMesh and sameNear. -/
namespace Go.Proofs.YtodloeonlaljpaaGreatDoor
set_option maxRecDepth 100000
open Go Go.RowKit

theorem sameInts_b (A A' : Option Addr) (c c' n m : Nat) (xs ys : List Int) (w : World) (b : Bool) (hn : xs.length = n) (hm : ys.length = m) (hl : n ≤ 1048576)
    (hx : Rd (Value.int .i64) w w.heap.size A xs) (hy : Rd (Value.int .i64) w w.heap.size A' ys) (hb : decide (xs = ys) = b) :
    Calls Tryz.prog 15 #[.slice A n c, .slice A' m c'] w (Rq w (.bool b)) := by
  subst hn hm hb
  exact sameInts_any A A' c c' xs ys w hl hx hy
set_option maxHeartbeats 1000000 in
theorem sameLists_eq (A A' : Option Addr) (c c' : Nat) (rs rs' : List Row) (w : World) (h : InL w A c rs) (h' : InL w A' c' rs') (he : rs.map Row.xs = rs'.map Row.xs) :
    Calls Tryz.prog 17 #[.slice A rs.length c, .slice A' rs'.length c'] w (Rb w (.bool true)) := by
  have hlen : rs.length = rs'.length := (map_len he.symm).symm
  have hl1 := h.len
  have hne : ((rs.length : Int) != (rs'.length : Int)) = false := by simp [hlen]
  have HE : ∀ (j : Nat) (hj : j < rs.length) (hj' : j < rs'.length), rs[j].xs = rs'[j].xs := fun j hj hj' => by
    have h1 : (rs.map Row.xs)[j]'(by simpa using hj) = (rs'.map Row.xs)[j]'(by simpa using hj') := by simp only [he]
    simpa using h1
  have HL := Lib.hid hlen
  have HEh := Lib.hid HE
  clear hlen he HE
  go_enter Tryz.func17, Tryz.ntmps17
  go_wp2
  go_loopw [5] (fun i wr => ∃ j : Nat, j ≤ rs.length ∧ i = .int .i64 j ∧ Dr w wr) (fun i _ => rs.length - (intOf i).toNat)
  case atStart => exact ⟨0, Nat.zero_le _, rfl, Dr.refl _⟩
  case round =>
    obtain ⟨j, hj, rfl, hd⟩ := hrel
    by_cases hlt : j < rs.length
    · have hlt' : j < rs'.length := by have := HL.out; omega
      obtain ⟨b, off, rfl, _, hc⟩ := (h.dr hd).read.at (by omega)
      obtain ⟨b', off', rfl, _, hc'⟩ := (h'.dr hd).read.at (by omega)
      have c1 := hc j hlt
      have c2 := hc' j hlt'
      have r1 := ((h.dr hd).row (List.getElem_mem hlt)).rd
      have r2 := ((h'.dr hd).row (List.getElem_mem hlt')).rd
      have q0 := ((h.dr hd).row (List.getElem_mem hlt)).len
      have hb : decide (rs[j].xs = rs'[j].xs) = true := by simpa using HEh.out j hlt hlt'
      have HB := Lib.hid hb
      clear hc hc' hb
      go_wp2
      go_quiet ((go_at_call 15; exact quiet_rq (sameInts_b _ _ _ _ _ _ rs[j].xs rs'[j].xs _ true rfl rfl q0 r1 r2 HB.out)))
      go_wp2
      go_roundw
      case rel => exact ⟨j + 1, by omega, by go_num, (by first | with_reducible assumption | with_reducible exact hd | with_reducible exact Dr.drewN hd _ | with_reducible exact Dr.drewN (Dr.drewN hd _) _ | with_reducible exact Dr.drew hd)⟩
      case measure => simp [intOf]; omega
    · go_wp2
      go_ret
      exact ⟨rfl, below_dr (Below.refl _ _) hd⟩
/-- How often a pattern occurs; -1 where one is no permutation. -/
def cpG (p q : List Int) : Int := if permB p = true ∧ permB q = true then ((occL p q).length : Int) else -1
end Go.Proofs.YtodloeonlaljpaaGreatDoor

/- ParseBasis, program and reference. -/
namespace Go.Proofs.YtodloeonlaljpaaGreatDoor
set_option maxRecDepth 100000
open Go Go.RowKit

/-- A list of rows that is read; its rows may be a little more than an argument's. -/
structure InB (w : World) (A : Option Addr) (c : Nat) (rs : List Row) : Prop where
  len : rs.length + sizeR rs ≤ 2097152
  rl : ∀ r ∈ rs, r.xs.length ≤ 1048576
  read : Read w w.heap.size rs [⟨A, c, rs.map Row.v⟩]
theorem InB.next {w w' : World} {A : Option Addr} {c : Nat} {rs : List Row} (h : InB w A c rs) (hb : Below w.heap.size w w') : InB w' A c rs := ⟨h.len, h.rl, (h.read.below hb).more hb.size⟩
theorem InB.dr {w w' : World} {A : Option Addr} {c : Nat} {rs : List Row} (h : InB w A c rs) (hd : Dr w w') : InB w' A c rs := ⟨h.len, h.rl, (h.read.dr hd).more (by rw [hd.heap]; exact Nat.le_refl _)⟩
theorem InB.row {w : World} {A : Option Addr} {c : Nat} {rs : List Row} (h : InB w A c rs) {r : Row} (hr : r ∈ rs) : In w r.A r.c r.xs := ⟨h.rl r hr, h.read.cap r hr, h.read.rd r hr⟩
set_option maxHeartbeats 4000000 in
theorem basis_specB (A : Option Addr) (c : Nat) (rs : List Row) (w : World) (h : InB w A c rs) :
    Calls Tryz.prog 23 #[.slice A rs.length c] w (Rb w (.bool (basisB (rs.map Row.xs)))) := by
  have hlen := h.len
  have hcap := h.read.ocap _ (List.mem_singleton.2 rfl)
  simp only [List.length_map] at hcap
  have HB := Lib.hid (show basisB (rs.map Row.xs) = (decide (rs.length ≤ 8) && basTo (rs.map Row.xs) rs.length) by unfold basisB; rw [List.length_map])
  go_enter Tryz.func23, Tryz.ntmps23
  go_wp2_with fail
  go_loopw [3] (fun i wr => ∃ k : Nat, k ≤ rs.length ∧ i = .int .i64 k ∧ Hid (basTo (rs.map Row.xs) k = true) ∧ Below w.heap.size w wr) (fun i _ => rs.length - (intOf i).toNat)
  case atStart => exact ⟨0, Nat.zero_le _, rfl, Lib.hid rfl, Below.refl _ _⟩
  case round =>
    obtain ⟨k, hk, rfl, HA, hb⟩ := hrel
    by_cases hlt : k < rs.length
    · have hL := h.next hb
      obtain ⟨b, off, rfl, _, hc⟩ := hL.read.at (by omega)
      have c1 := hc k hlt
      have HK := Lib.hid (basAt_row hlt)
      have HS := Lib.hid (basTo_succ (rs.map Row.xs) k)
      have hin := hL.row (List.getElem_mem hlt)
      have i0 : (0 : Int) ≤ (k : Int) := Int.natCast_nonneg _
      have i1 : (k : Int) < (rs.length : Int) := by omega
      by_cases hp : permB rs[k].xs = true
      · have HP := Lib.hid hp
        have hp8 := (permB_true hp).1
        clear hp
        by_cases h0 : rs[k].xs.length = 0
        · have HF := Lib.hid (show basTo (rs.map Row.xs) rs.length = false from basTo_false hlt (by rw [HK.out, h0]; simp))
          have d0 : ((rs[k].xs.length : Int) == 0) = true := by simp; exact List.eq_nil_of_length_eq_zero h0
          clear h0 hc
          go_wp2_with fail
          go_quiet ((go_at_call 56; exact quiet_rq (isPerm_sb rs[k].A rs[k].c rs[k].xs _ true (hin.dr (Dr.of _ _)) HP.out)))
          go_wp2_with fail
          go_ret
          exact ⟨ret_bool (by rw [HB.out, HF.out, Bool.and_false]), below_dr hb (by first | with_reducible exact Dr.of _ _ | with_reducible exact Dr.of2 _ _ _ | with_reducible exact Dr.refl _ | with_reducible exact Dr.of3 _ _ _)⟩
        · have d0 : ((rs[k].xs.length : Int) == 0) = false := by simp; intro e; rw [e] at h0; simp at h0
          have HL0 := Lib.hid (show decide (rs[k].xs.length ≠ 0) = true from decide_eq_true h0)
          clear h0
          by_cases hg : k = 0 ∨ cmpP ((rs.map Row.xs)[k - 1]?.getD []) rs[k].xs < 0
          · have HG := Lib.hid (show (decide (k = 0) || decide (cmpP ((rs.map Row.xs)[k - 1]?.getD []) rs[k].xs < 0)) = true by
              rcases hg with hg | hg
              · rw [decide_eq_true hg]; rfl
              · rw [decide_eq_true hg, Bool.or_true])
            obtain ⟨wo, rfl⟩ : ∃ wo : World, wo = wr := ⟨_, rfl⟩
            rcases Nat.eq_zero_or_pos k with hk0 | hk0
            case' inl =>
              have d1 : decide ((k : Int) > 0) = false := decide_eq_false (by omega)
              have d3 : decide (0 < k) = false := decide_eq_false (by omega)
              have d2 : k ≤ 0 := by omega
              clear hg hc hk0
              go_wp2_with fail
              go_quiet ((go_at_call 56; exact quiet_rq (isPerm_sb rs[k].A rs[k].c rs[k].xs _ true (hin.dr (Dr.of _ _)) HP.out)))
              go_wp2_with fail
              clear d1 d2 d3
            case' inr =>
              have d1 : decide ((k : Int) > 0) = true := decide_eq_true (by omega)
              have d2 : decide (0 < k) = true := decide_eq_true (by omega)
              have hpl : k - 1 < rs.length := by omega
              have c2 := hc (k - 1) hpl
              have hinp := hL.row (List.getElem_mem hpl)
              have e0 : 1 ≤ (k : Int) := by omega
              have e2 : 0 ≤ (k : Int) - 1 := by omega
              have e3 : (k : Int) - 1 < rs.length := by omega
              have e1 : ((k : Int) - 1).toNat = k - 1 := by omega
              have e4 : IntKind.i64.wrap ((k : Int) - 1) = (k : Int) - 1 := IntWalk.i64_in _ (by omega)
              have hq1 : rs[k - 1].xs.length ≤ 4611686018427387904 := by have := hinp.len; omega
              have hq2 : rs[k].xs.length ≤ 4611686018427387904 := by omega
              have hr1 := hinp.rd
              have hr2 := hin.rd
              have HCM := Lib.hid (show before rs[k - 1].xs rs[k].xs = true by
                rw [getX hpl] at hg
                rw [before_cmp, decide_eq_true_eq]
                rcases hg with hg | hg
                · omega
                · exact hg)
              clear hg hc hk0 hinp
              go_wp2_with fail
              go_quiet ((first | (go_at_call 56; exact quiet_rq (isPerm_sb rs[k].A rs[k].c rs[k].xs _ true (hin.dr (Dr.of _ _)) HP.out)) | (go_at_call 62; exact quiet_rq (l2Before_b _ _ _ _ _ _ rs[k - 1].xs rs[k].xs _ true rfl rfl hq1 hq2 (hr1.drewN _) (hr2.drewN _) HCM.out))))
              go_wp2_with fail
              clear d1 d2 e0 e1 e2 e3 e4 hq1 hq2 hr1 hr2 c2
            all_goals
              go_loopw [4] (fun i wr => ∃ j : Nat, j ≤ k ∧ i = .int .i64 j ∧ Hid (nohasTo (rs.map Row.xs) rs[k].xs j = true) ∧ Below w.heap.size w wr) (fun i _ => k - (intOf i).toNat)
              case atStart => exact ⟨0, Nat.zero_le _, rfl, Lib.hid rfl, below_dr hb (by first | with_reducible exact Dr.of _ _ | with_reducible exact Dr.of2 _ _ _ | with_reducible exact Dr.refl _ | with_reducible exact Dr.of3 _ _ _)⟩
              case round =>
                obtain ⟨j, hj, rfl, HN, hbz⟩ := hrel
                by_cases hjk : j < k
                · have hL4 := h.next hbz
                  have hjl : j < rs.length := by omega
                  obtain ⟨b', off', he, _, hc⟩ := hL4.read.at (by omega)
                  injection he with he
                  injection he with he1 he2 _
                  subst he1 he2
                  have c3 : wr.drew.cell? ⟨b, off + j, none⟩ = some (Value.slice rs[j].A rs[j].xs.length rs[j].c) := hc j hjl
                  have c4 : wr.drew.cell? ⟨b, off + k, none⟩ = some (Value.slice rs[k].A rs[k].xs.length rs[k].c) := hc k hlt
                  have c5 := hc j hjl
                  have c6 := hc k hlt
                  have hinj := (hL4.dr (Dr.refl _).drew).row (List.getElem_mem hjl)
                  have hink := (hL4.dr (Dr.refl _).drew).row (List.getElem_mem hlt)
                  have i2 : (0 : Int) ≤ (j : Int) := Int.natCast_nonneg _
                  have i3 : (j : Int) < (rs.length : Int) := by omega
                  have hpj : permB rs[j].xs = true := by
                    have := basTo_perm HA.out hjk (by rw [List.length_map]; omega)
                    simpa using this
                  have hpj8 := (permB_true hpj).1
                  have HNS := Lib.hid (nohasTo_succ (rs.map Row.xs) rs[k].xs j)
                  have hbd : Below w.heap.size w wr.drew := below_dr hbz (Dr.refl _).drew
                  clear hpj hc
                  by_cases hh : hasB rs[k].xs rs[j].xs = true
                  · have HH := Lib.hid hh
                    have HF := Lib.hid (show basTo (rs.map Row.xs) rs.length = false from basTo_false hlt (by
                      have hnf : nohasTo (rs.map Row.xs) rs[k].xs k = false := nohasTo_false hjk (by rw [getX hjl]; exact hh)
                      rw [HK.out, hnf, Bool.and_false]))
                    clear hh
                    go_wp2_with fail
                    all_goals
                      go_still_tail 8, (by kernel_rfl)
                      go_wp2_with fail
                      (with_reducible refine (l7Has_b rs[k].A rs[j].A rs[k].c rs[j].c rs[k].xs rs[j].xs _ true hink hinj (by omega) (by omega) HH.out).mono ?_)
                      rintro e w4 ⟨rfl, hb5⟩
                      go_wp2_with fail
                      go_ret
                      exact ⟨ret_bool (by rw [HB.out, HF.out, Bool.and_false]), hbd.trans (hb5.mono hbd.size)⟩
                  · have hhf : hasB rs[k].xs rs[j].xs = false := by simpa using hh
                    have HH := Lib.hid hhf
                    have HE := Lib.hid (show nohasTo (rs.map Row.xs) rs[k].xs (j + 1) = true by rw [HNS.out, HN.out, getX hjl, hhf]; rfl)
                    clear hh hhf
                    go_wp2_with fail
                    all_goals
                      go_still_tail 8, (by kernel_rfl)
                      go_wp2_with fail
                      (with_reducible refine (l7Has_b rs[k].A rs[j].A rs[k].c rs[j].c rs[k].xs rs[j].xs _ false hink hinj (by omega) (by omega) HH.out).mono ?_)
                      rintro e w4 ⟨rfl, hb5⟩
                      go_wp2_with fail
                      go_roundw
                      case rel => exact ⟨j + 1, by omega, by go_num, HE, hbd.trans (hb5.mono hbd.size)⟩
                      case measure => (simp [intOf]) <;> omega
                · obtain rfl : j = k := by omega
                  have HE := Lib.hid (show basTo (rs.map Row.xs) (j + 1) = true by rw [HS.out, HA.out, HK.out, HP.out, HL0.out, HG.out, HN.out]; rfl)
                  go_wp2_with fail
                  go_roundw
                  case rel => exact ⟨j + 1, by omega, by go_num, HE, hbz⟩
                  case measure => (simp [intOf]) <;> omega
          · have hk0 : 0 < k := by
              rcases Nat.eq_zero_or_pos k with h1 | h1
              · exact absurd (Or.inl h1) hg
              · exact h1
            have d1 : decide ((k : Int) > 0) = true := decide_eq_true (by omega)
            have d2 : decide (0 < k) = true := decide_eq_true (by omega)
            have hpl : k - 1 < rs.length := by omega
            have c2 := hc (k - 1) hpl
            have hinp := hL.row (List.getElem_mem hpl)
            have e0 : 1 ≤ (k : Int) := by omega
            have e2 : 0 ≤ (k : Int) - 1 := by omega
            have e3 : (k : Int) - 1 < rs.length := by omega
            have e1 : ((k : Int) - 1).toNat = k - 1 := by omega
            have e4 : IntKind.i64.wrap ((k : Int) - 1) = (k : Int) - 1 := IntWalk.i64_in _ (by omega)
            have hq1 : rs[k - 1].xs.length ≤ 4611686018427387904 := by have := hinp.len; omega
            have hq2 : rs[k].xs.length ≤ 4611686018427387904 := by omega
            have hr1 := hinp.rd
            have hr2 := hin.rd
            have HCM := Lib.hid (show before rs[k - 1].xs rs[k].xs = false by
              rw [getX hpl] at hg
              rw [before_cmp, decide_eq_false_iff_not]
              exact fun h => hg (Or.inr h))
            have HF := Lib.hid (show basTo (rs.map Row.xs) rs.length = false from basTo_false hlt (by
              have hgf : (decide (k = 0) || decide (cmpP ((rs.map Row.xs)[k - 1]?.getD []) rs[k].xs < 0)) = false := by
                rw [Bool.or_eq_false_iff, decide_eq_false_iff_not, decide_eq_false_iff_not]
                exact ⟨fun h => hg (Or.inl h), fun h => hg (Or.inr h)⟩
              rw [HK.out, hgf, Bool.and_false, Bool.false_and]))
            clear hg hc hk0 hinp
            go_wp2_with fail
            go_quiet ((first | (go_at_call 56; exact quiet_rq (isPerm_sb rs[k].A rs[k].c rs[k].xs _ true (hin.dr (Dr.of _ _)) HP.out)) | (go_at_call 62; exact quiet_rq (l2Before_b _ _ _ _ _ _ rs[k - 1].xs rs[k].xs _ false rfl rfl hq1 hq2 (hr1.drewN _) (hr2.drewN _) HCM.out))))
            go_wp2_with fail
            go_ret
            exact ⟨ret_bool (by rw [HB.out, HF.out, Bool.and_false]), below_dr hb (by first | with_reducible exact Dr.of _ _ | with_reducible exact Dr.of2 _ _ _ | with_reducible exact Dr.refl _ | with_reducible exact Dr.of3 _ _ _)⟩
      · have hpf : permB rs[k].xs = false := by simpa using hp
        have HF := Lib.hid (show basTo (rs.map Row.xs) rs.length = false from basTo_false hlt (by rw [HK.out, hpf]; simp))
        have HP := Lib.hid hpf
        clear hp hpf hc
        go_wp2_with fail
        go_quiet ((go_at_call 56; exact quiet_rq (isPerm_sb rs[k].A rs[k].c rs[k].xs _ false (hin.dr (Dr.of _ _)) HP.out)))
        go_wp2_with fail
        go_ret
        exact ⟨ret_bool (by rw [HB.out, HF.out, Bool.and_false]), below_dr hb (by first | with_reducible exact Dr.of _ _ | with_reducible exact Dr.of2 _ _ _ | with_reducible exact Dr.refl _ | with_reducible exact Dr.of3 _ _ _)⟩
    · obtain rfl : k = rs.length := by omega
      go_wp2_with fail
      go_ret
      exact ⟨ret_bool (by rw [HB.out, HA.out, Bool.and_true, decide_eq_decide]; omega), hb⟩
/-- A call's result of two: a list of rows of its own, and a truth value. -/
def RetPb (w : World) (X : List (List Int)) (b : Bool) (e : Ending) (w' : World) : Prop :=
  ∃ A c rs, e = .returned (.tuple #[.slice A rs.length c, .bool b]) ∧ rs.map Row.xs = X ∧ Own w' w.heap.size w'.heap.size rs [⟨A, c, rs.map Row.v⟩] ∧ Below w.heap.size w w'
theorem own_types {w : World} {b1 e1 n1 b2 e2 n2 : Nat} {v1 v2 : Value} {x1 x2 : List Value} (h1 : w.ownsRow b1 e1 1 v1 n1 x1) (h2 : w.ownsRow b2 e2 1 v2 n2 x2) (he : e1 ≠ e2) : v1.ownBlock = none ∨ v1.ownBlock ≠ v2.ownBlock := by
  rcases h1.2 with ⟨rfl, _⟩ | ⟨g, _, cur, rfl, _, hg, _⟩
  · exact .inl rfl
  · right
    rcases h2.2 with ⟨rfl, _⟩ | ⟨g2, _, cur2, rfl, _, hg2, _⟩
    · intro h; cases h
    · intro h
      injection h with h
      have h : g = g2 := h
      subst h
      rw [hg] at hg2
      injection hg2 with hg2
      injection hg2 with _ h3
      exact he h3
def pbW (s : ByteArray) : List (List UInt8) := splitL 32 s.data.toList
def pbOk (s : ByteArray) : Bool := decide (s.size = 0) || ((pbW s).all ppB && basisB ((pbW s).map ppG))
def pbG (s : ByteArray) : List (List Int) := if s.size = 0 then [] else if pbOk s = true then (pbW s).map ppG else []
theorem pb_total (s : ByteArray) : (pbW s).length + ((pbW s).map List.length).sum = s.size + 1 := by
  have h := spF_len 32 s.data.toList
  have hl : s.data.toList.length = s.size := by show s.data.toList.length = s.data.size; simp
  unfold pbW
  rw [← sp_all, List.length_append, List.map_append, List.sum_append]
  simp only [List.length_singleton, List.map_cons, List.map_nil, List.sum_cons, List.sum_nil]
  omega
theorem pb_sum (W : List (List UInt8)) : sizeX (W.map ppG) ≤ (W.map List.length).sum := by
  induction W with
  | nil => simp [sizeX]
  | cons a t ih =>
    have h1 := (ppG_len a).1
    simp only [sizeX, List.map_cons, List.sum_cons, List.map_map] at ih ⊢
    omega
theorem pbG_le (s : ByteArray) : (pbG s).length + sizeX (pbG s) ≤ 1048576 := by
  unfold pbG
  split
  · simp [sizeX]
  · split
    · rename_i h0 h
      unfold pbOk at h
      rw [decide_eq_false h0, Bool.false_or, Bool.and_eq_true] at h
      have h1 := basis_len h.2
      have h2 : sizeX ((pbW s).map ppG) ≤ ((pbW s).map ppG).length * 8 := by
        have : ∀ W : List (List UInt8), sizeX (W.map ppG) ≤ (W.map ppG).length * 8 := fun W => by
          induction W with
          | nil => simp [sizeX]
          | cons a t ih =>
            have h1 := (ppG_len a).2
            simp only [sizeX, List.map_cons, List.sum_cons, List.length_cons, Nat.add_mul, Nat.one_mul] at ih ⊢
            omega
        exact this _
      omega
    · simp [sizeX]
theorem mem_sum_le {x : List UInt8} {W : List (List UInt8)} (h : x ∈ W) : x.length ≤ (W.map List.length).sum := by
  induction W with
  | nil => cases h
  | cons a t ih =>
    rw [List.map_cons, List.sum_cons]
    rcases List.mem_cons.1 h with rfl | h
    · omega
    · have := ih h; omega
theorem tv_data (l : List UInt8) : (⟨l.toArray⟩ : ByteArray).data.toList = l := by simp
theorem tv_size (l : List UInt8) : (⟨l.toArray⟩ : ByteArray).size = l.length := by show l.toArray.size = l.length; simp
set_option maxHeartbeats 2000000 in
theorem parseBasis_spec (s : ByteArray) (w : World) (hs : s.size ≤ 1048576) :
    Calls Tryz.prog 9 #[.string s] w (RetPb w (pbG s) (pbOk s)) := by
  obtain ⟨j0, hj, hy0, hy1, hy2⟩ := info_parts infoL
  have hlit := Own.lit (lo := w.heap.size) w (Nat.le_refl _)
  have hb0 := (Below.refl w.heap.size w).alloc (Nat.le_refl _) (.cells #[] 27)
  have hTL : s.toList = s.data.toList := ByteArray.toList_eq s
  have hl : s.data.toList.length = s.size := by show s.data.toList.length = s.data.size; simp
  by_cases h0 : s.size = 0
  · have hn : s.data.toList = [] := List.eq_nil_of_length_eq_zero (by rw [hl]; exact h0)
    have d0 : (s.toList == []) = true := by rw [hTL, hn]; rfl
    have HB := Lib.hid (show pbOk s = true by unfold pbOk; rw [decide_eq_true h0]; rfl)
    have HG := Lib.hid (show pbG s = [] by unfold pbG; rw [if_pos h0])
    clear hTL h0 hn
    go_enter Tryz.func9, Tryz.ntmps9
    go_wp2_with fail
    go_ret2
    rw [HB.out, HG.out]
    exact ⟨_, _, [], rfl, rfl, hlit, hb0⟩
  · have d0 : (s.toList == []) = false := by rw [hTL]; simp; intro e; rw [← hl] at h0; exact h0 (by simp [e])
    have HG0 := Lib.hid (show pbG s = if pbOk s = true then (pbW s).map ppG else [] by unfold pbG; rw [if_neg h0])
    have HB0 := Lib.hid (show pbOk s = ((pbW s).all ppB && basisB ((pbW s).map ppG)) by unfold pbOk; rw [decide_eq_false h0, Bool.false_or])
    have hTOT := pb_total s
    have HTOT := Lib.hid hTOT
    have hwl : (pbW s).length ≤ 1048577 := by omega
    obtain ⟨ws, hws⟩ : ∃ ws, ws = pbW s := ⟨_, rfl⟩
    rw [← hws] at HG0 HB0 hwl HTOT
    have HCS := Lib.hid (show ∀ W : World, Calls Tryz.prog 36 #[.string s, .int .u8 32] W fun e w' => ∃ A k, e = .returned (.slice A ws.length k) ∧ w'.ownsRow W.heap.size 9 1 (.slice A ws.length k) ws.length (ws.map tv) ∧ Below W.heap.size W w' from fun W => by rw [hws]; exact splitByte_any s 32 W hs)
    have HW8 := Lib.hid (show ∀ x ∈ ws, x.length ≤ 1048576 from fun x hx => by
      have h1 : x.length ≤ (ws.map List.length).sum := mem_sum_le hx
      have h2 := HTOT.out
      have h3 : 0 < ws.length := List.length_pos_of_mem hx
      omega)
    clear hTL h0 hTOT hws
    go_enter Tryz.func9, Tryz.ntmps9
    go_wp2_with fail
    (with_reducible refine (HCS.out _).mono ?_)
    rintro e w1 ⟨Ap, cp, rfl, ownP, hb1⟩
    have hbw := hb0.trans (hb1.mono hb0.size)
    have hO1 := (hlit.below hb1).wider (Nat.le_refl _) hb1.size
    obtain ⟨lp, hlp⟩ : ∃ lp, lp = (w.alloc (.cells #[] 27)).heap.size := ⟨_, rfl⟩
    rw [← hlp] at ownP
    clear hlit hb0 hb1 hlp
    go_wp2_with fail
    go_loopw [4, 6] (fun v i wr => ∃ (k : Nat) (A1 : Option Addr) (c1 : Nat) (ds : List Row), k ≤ ws.length ∧ i = .int .i64 k ∧ v = .slice A1 ds.length c1 ∧ Hid (ds.map Row.xs = (ws.take k).map ppG) ∧ Hid ((ws.take k).all ppB = true) ∧ Own wr w.heap.size wr.heap.size ds [⟨A1, c1, ds.map Row.v⟩] ∧ wr.ownsRow lp 9 1 (.slice Ap ws.length cp) ws.length (ws.map tv) ∧ Below w.heap.size w wr) (fun _ i _ => ws.length - (intOf i).toNat)
    case atStart => exact ⟨0, _, _, [], Nat.zero_le _, rfl, rfl, Lib.hid rfl, Lib.hid rfl, hO1, ownP, hbw⟩
    case round =>
      clear hO1 ownP hbw
      obtain ⟨k, A1, c1, ds, hk, rfl, rfl, HX, HA, hO, ownP, hb⟩ := hrel
      have hsz := hb.size
      have hdl : ds.length = k := by have := congrArg List.length HX.out; simp at this; omega
      rcases Nat.lt_or_ge k ws.length with hlt | hge
      · obtain ⟨bp, op, rfl, _, hc⟩ := (Rd.of_own ownP) (by omega)
        have cc := hc k hlt
        obtain ⟨x, hx⟩ : ∃ x, x = ws[k] := ⟨_, rfl⟩
        rw [← hx] at cc
        have hxm : x ∈ ws := by rw [hx]; exact List.getElem_mem hlt
        have HC := Lib.hid (show Calls Tryz.prog 37 #[tv x] wr (Ret2 (Value.int .i64) 3 wr (ppG x) (ppB x)) from by
          have := parsePerm_spec ⟨x.toArray⟩ wr (by rw [tv_size]; exact HW8.out x hxm)
          rw [tv_data] at this
          exact this)
        have HT := Lib.hid (show ws.take (k + 1) = ws.take k ++ [x] by rw [List.take_succ_eq_append_getElem hlt, hx])
        have HD := Lib.hid hdl
        have HXM := Lib.hid hxm
        have hkd : ds.length ≤ 1048577 := by omega
        clear hc hx hxm hdl
        go_wp2_with fail
        (with_reducible refine HC.out.mono ?_)
        rintro e w2 ⟨A3, c3, rfl, _, _, own3, hb2⟩
        have hbw := hb.trans (hb2.mono hsz)
        by_cases hp : ppB x = true
        · have hs2 := hb2.size
          have hO2 := (hO.below hb2).add (r := ⟨A3, c3, ppG x⟩) own3 hs2 hsz
          have ho2 := hO2.outN (n := ds.length) (by simp)
          have ownP2 := own_below ownP hb2
          have HPP := Lib.hid hp
          rw [hp]
          clear own3 hO hb2 hb hp ownP cc
          go_wp2_with (at_builtin; refine wpList_append_own _ rfl _ _ 24 rfl (w.heap.size) 27 j0 (.slice none 0 0) 1 24 Tryz.underlying24 hj hy0 hy1 hy2 rfl (by decide) _ _ _ rfl (World.ownsRow.alloc ho2 _) ⟨w2.heap.size, 0, none⟩ 1 1 [Value.slice A3 (ppG x).length c3] rfl rfl (cell_one_at _ _ (by simp)) (by intro u hu; simp at hu; subst hu; rfl) (by unfold maxLen; omega) (by omega) (by simp; omega) ?_; intro v9 w9 hown9 hgrow9 _)
          obtain ⟨A5, c5, rfl, hO3, hg3⟩ := hO2.grow (Nat.le_refl _) (by simp) hown9 hgrow9
          have hb3 := hbw.grown hg3 hbw.size (fun g hg => (hO2.olim (by simp) g hg).1)
          have ownP3 := ownP2.kept hg3 (own_types ownP2 ho2 (by decide))
          have K := Lib.hid (And.intro hO3 (And.intro ownP3 hb3))
          clear hO3 hb3 hown9 hgrow9 hg3 hO2 ho2 hbw ownP2 ownP3
          go_wp2_with fail
          go_roundw
          case rel => exact ⟨k + 1, A5, c5, ds ++ [⟨A3, c3, ppG x⟩], by omega, by go_num, by rw [List.length_append]; rfl, Lib.hid (by rw [HT.out, List.map_append, List.map_append, HX.out]; rfl), Lib.hid (by rw [HT.out, List.all_append, HA.out]; simp [HPP.out]), by simpa [Row.v] using K.out.1, K.out.2.1, K.out.2.2⟩
          case measure => simp [intOf]; omega
        · have hpf : ppB x = false := by simpa using hp
          have HF := Lib.hid (show pbOk s = false by rw [HB0.out, show ws.all ppB = false from List.all_eq_false.2 ⟨x, HXM.out, by rw [hpf]; simp⟩, Bool.false_and])
          have HG := Lib.hid (show pbG s = [] by rw [HG0.out, HF.out]; rfl)
          have hl2 := Own.lit (lo := w.heap.size) w2 hbw.size
          have hbl := hbw.alloc hbw.size (.cells #[] 27)
          rw [hpf]
          clear hp hpf own3 hb2
          go_wp2_with fail
          go_ret2
          rw [HF.out, HG.out]
          exact ⟨_, _, [], rfl, rfl, hl2, hbl⟩
      · obtain rfl : k = ws.length := by omega
        have HXA := Lib.hid (show ds.map Row.xs = ws.map ppG by rw [HX.out, List.take_length])
        have HAA := Lib.hid (show ws.all ppB = true by have := HA.out; rwa [List.take_length] at this)
        have hin : InB wr A1 c1 ds := ⟨by
          have h1 := pb_sum ws
          have h2 := HTOT.out
          rw [sizeR_eq, HXA.out]
          omega, fun r hr => by
          have h1 := map_memX HXA.out hr
          obtain ⟨q, hq, he⟩ := List.mem_map.1 h1
          rw [← he]
          have := (ppG_len q).2
          omega, hO.read⟩
        obtain ⟨bb, hbb⟩ : ∃ bb, basisB (ds.map Row.xs) = bb := ⟨_, rfl⟩
        have HI := Lib.hid (show Calls Tryz.prog 23 #[.slice A1 ds.length c1] wr (Rb wr (.bool bb)) from by rw [← hbb]; exact basis_specB A1 c1 ds wr hin)
        have HF := Lib.hid (show pbOk s = bb by rw [HB0.out, HAA.out, Bool.true_and, ← HXA.out]; exact hbb)
        clear hin hbb hdl
        go_wp2_with fail
        (with_reducible refine HI.out.mono ?_)
        rintro e w2 ⟨rfl, hb2⟩
        have hbw := hb.trans (hb2.mono hsz)
        cases bb with
        | true =>
          have HG := Lib.hid (show pbG s = ws.map ppG by rw [HG0.out, HF.out]; rfl)
          have hO3 := (hO.below hb2).wider (Nat.le_refl _) hb2.size
          go_wp2_with fail
          go_ret2
          rw [HF.out, HG.out]
          exact ⟨A1, c1, ds, rfl, HXA.out, hO3, hbw⟩
        | false =>
          have HG := Lib.hid (show pbG s = [] by rw [HG0.out, HF.out]; rfl)
          have hl2 := Own.lit (lo := w.heap.size) w2 hbw.size
          have hbl := hbw.alloc hbw.size (.cells #[] 27)
          go_wp2_with fail
          go_ret2
          rw [HF.out, HG.out]
          exact ⟨_, _, [], rfl, rfl, hl2, hbl⟩
theorem sizeP (W : List (List UInt8)) : sizeX (W.map ppG) ≤ (W.map ppG).length * 8 := by
  induction W with
  | nil => simp [sizeX]
  | cons a t ih =>
    have h1 := (ppG_len a).2
    simp only [sizeX, List.map_cons, List.sum_cons, List.length_cons, Nat.add_mul, Nat.one_mul] at ih ⊢
    omega
theorem split_any (s : ByteArray) (m : Int) (w : World) (hs : s.size ≤ 1048576) (hm : w.cell? ⟨0, 0, none⟩ = some (.int .i64 m)) :
    Calls Tryz.prog 34 #[.string s, .string { data := #[32] }] w fun e w' => ∃ A k, e = .returned (.slice A (pbW s).length k) ∧ w'.ownsRow w.heap.size 9 1 (.slice A (pbW s).length k) (pbW s).length ((pbW s).map tv) ∧ Below w.heap.size w w' := by
  have hd := Lib.splitB_data { data := #[32] } 0 (Lib.countB s { data := #[32] }) s
  have hc : Lib.countB s { data := #[32] } = Lib.count s.data.toList [32] := rfl
  have hw : (Lib.splitB { data := #[32] } 0 (Lib.countB s { data := #[32] }) s).map (·.data.toList) = pbW s := by
    rw [hd, hc]
    exact split_lib 32 s.data.toList _ rfl
  have hv : (Lib.splitB { data := #[32] } 0 (Lib.countB s { data := #[32] }) s).map Value.string = (pbW s).map tv := by
    rw [← hw, List.map_map]
    apply List.map_congr_left
    intro b _
    show Value.string b = Value.string ⟨b.data.toList.toArray⟩
    simp
  have hlen : Lib.countB s { data := #[32] } + 1 = (pbW s).length := by
    rw [← hw, List.length_map, Lib.splitB_all { data := #[32] } (by decide) 0 _ s rfl]
  refine (Tryz.strings_Split s { data := #[32] } m w (by omega) hm (by decide)).mono ?_
  rintro e w' ⟨rfl, rfl⟩
  rw [hv, hlen]
  have hT := pb_total s
  refine ⟨_, _, rfl, ?_, (Below.refl _ _).alloc (Nat.le_refl _) _⟩
  exact World.ownsRow_lit w ((pbW s).map tv).toArray (pbW s).length (Nat.le_refl _) (by unfold maxLen; omega) (by simp)
theorem basis_big (A : Option Addr) (c n : Nat) (w : World) (h : 8 < n) : Calls Tryz.prog 22 #[.slice A n c] w (Rb w (.bool false)) := by
  have d1 : decide ((n : Int) > 8) = true := decide_eq_true (by omega)
  have d2 : decide ((8 : Int) < (n : Int)) = true := decide_eq_true (by omega)
  clear h
  go_enter Tryz.func22, Tryz.ntmps22
  go_wp2_with fail
  go_ret
  exact ⟨rfl, Below.refl _ _⟩
set_option maxHeartbeats 2000000 in
theorem parseBasis_impl (s : ByteArray) (m : Int) (w : World) (hs : s.size ≤ 1048576) (hm : w.cell? ⟨0, 0, none⟩ = some (.int .i64 m)) :
    Calls Tryz.prog 8 #[.string s] w (RetPb w (pbG s) (pbOk s)) := by
  obtain ⟨j0, hj, hy0, hy1, hy2⟩ := info_parts infoL
  have hlit := Own.lit (lo := w.heap.size) w (Nat.le_refl _)
  have hb0 := (Below.refl w.heap.size w).alloc (Nat.le_refl _) (.cells #[] 27)
  have hTL : s.toList = s.data.toList := ByteArray.toList_eq s
  have hl : s.data.toList.length = s.size := by show s.data.toList.length = s.data.size; simp
  by_cases h0 : s.size = 0
  · have hn : s.data.toList = [] := List.eq_nil_of_length_eq_zero (by rw [hl]; exact h0)
    have d0 : (s.toList == []) = true := by rw [hTL, hn]; rfl
    have HB := Lib.hid (show pbOk s = true by unfold pbOk; rw [decide_eq_true h0]; rfl)
    have HG := Lib.hid (show pbG s = [] by unfold pbG; rw [if_pos h0])
    clear hTL h0 hn
    go_enter Tryz.func8, Tryz.ntmps8
    go_wp2_with fail
    go_ret2
    rw [HB.out, HG.out]
    exact ⟨_, _, [], rfl, rfl, hlit, hb0⟩
  · have d0 : (s.toList == []) = false := by rw [hTL]; simp; intro e; rw [← hl] at h0; exact h0 (by simp [e])
    have HG0 := Lib.hid (show pbG s = if pbOk s = true then (pbW s).map ppG else [] by unfold pbG; rw [if_neg h0])
    have HB0 := Lib.hid (show pbOk s = ((pbW s).all ppB && basisB ((pbW s).map ppG)) by unfold pbOk; rw [decide_eq_false h0, Bool.false_or])
    have hTOT := pb_total s
    have HTOT := Lib.hid hTOT
    have hwl : (pbW s).length ≤ 1048577 := by omega
    obtain ⟨ws, hws⟩ : ∃ ws, ws = pbW s := ⟨_, rfl⟩
    rw [← hws] at HG0 HB0 hwl HTOT
    have HCS := Lib.hid (show ∀ W : World, W.cell? ⟨0, 0, none⟩ = some (.int .i64 m) → Calls Tryz.prog 34 #[.string s, .string { data := #[32] }] W fun e w' => ∃ A k, e = .returned (.slice A ws.length k) ∧ w'.ownsRow W.heap.size 9 1 (.slice A ws.length k) ws.length (ws.map tv) ∧ Below W.heap.size W w' from fun W hW => by rw [hws]; exact split_any s m W hs hW)
    have hm0 : (w.alloc (.cells #[] 27)).cell? ⟨0, 0, none⟩ = some (.int .i64 m) := (World.cell?_alloc_old _ _ _ (Nat.ne_of_lt (World.block_lt_of_cell? _ _ hm))).trans hm
    have HW8 := Lib.hid (show ∀ x ∈ ws, x.length ≤ 1048576 from fun x hx => by
      have h1 : x.length ≤ (ws.map List.length).sum := mem_sum_le hx
      have h2 := HTOT.out
      have h3 : 0 < ws.length := List.length_pos_of_mem hx
      omega)
    clear hTL h0 hTOT hws
    go_enter Tryz.func8, Tryz.ntmps8
    go_wp2_with fail
    (with_reducible refine (HCS.out _ hm0).mono ?_)
    rintro e w1 ⟨Ap, cp, rfl, ownP, hb1⟩
    have hbw := hb0.trans (hb1.mono hb0.size)
    have hO1 := (hlit.below hb1).wider (Nat.le_refl _) hb1.size
    obtain ⟨lp, hlp⟩ : ∃ lp, lp = (w.alloc (.cells #[] 27)).heap.size := ⟨_, rfl⟩
    rw [← hlp] at ownP
    clear hlit hb0 hb1 hlp
    go_wp2_with fail
    go_loopw [4, 16] (fun v i wr => ∃ (k : Nat) (A1 : Option Addr) (c1 : Nat) (ds : List Row), k ≤ ws.length ∧ i = .int .i64 k ∧ v = .slice A1 ds.length c1 ∧ Hid (ds.map Row.xs = (ws.take k).map ppG) ∧ Hid ((ws.take k).all ppB = true) ∧ Own wr w.heap.size wr.heap.size ds [⟨A1, c1, ds.map Row.v⟩] ∧ wr.ownsRow lp 9 1 (.slice Ap ws.length cp) ws.length (ws.map tv) ∧ Below w.heap.size w wr) (fun _ i _ => ws.length - (intOf i).toNat)
    case atStart => exact ⟨0, _, _, [], Nat.zero_le _, rfl, rfl, Lib.hid rfl, Lib.hid rfl, hO1, ownP, hbw⟩
    case round =>
      clear hO1 ownP hbw
      obtain ⟨k, A1, c1, ds, hk, rfl, rfl, HX, HA, hO, ownP, hb⟩ := hrel
      have hsz := hb.size
      have hdl : ds.length = k := by have := congrArg List.length HX.out; simp at this; omega
      rcases Nat.lt_or_ge k ws.length with hlt | hge
      · obtain ⟨bp, op, rfl, _, hc⟩ := (Rd.of_own ownP) (by omega)
        have cc := hc k hlt
        obtain ⟨x, hx⟩ : ∃ x, x = ws[k] := ⟨_, rfl⟩
        rw [← hx] at cc
        have hxm : x ∈ ws := by rw [hx]; exact List.getElem_mem hlt
        have HC := Lib.hid (show Calls Tryz.prog 35 #[tv x] wr (Ret2 (Value.int .i64) 3 wr (ppG x) (ppB x)) from by
          have := parsePerm_impl ⟨x.toArray⟩ wr (by rw [tv_size]; exact HW8.out x hxm)
          rw [tv_data] at this
          exact this)
        have HT := Lib.hid (show ws.take (k + 1) = ws.take k ++ [x] by rw [List.take_succ_eq_append_getElem hlt, hx])
        have HD := Lib.hid hdl
        have HXM := Lib.hid hxm
        have hkd : ds.length ≤ 1048577 := by omega
        clear hc hx hxm hdl
        go_wp2_with fail
        (with_reducible refine HC.out.mono ?_)
        rintro e w2 ⟨A3, c3, rfl, _, _, own3, hb2⟩
        have hbw := hb.trans (hb2.mono hsz)
        by_cases hp : ppB x = true
        · have hs2 := hb2.size
          have hO2 := (hO.below hb2).add (r := ⟨A3, c3, ppG x⟩) own3 hs2 hsz
          have ho2 := hO2.outN (n := ds.length) (by simp)
          have ownP2 := own_below ownP hb2
          have HPP := Lib.hid hp
          rw [hp]
          clear own3 hO hb2 hb hp ownP cc
          go_wp2_with (at_builtin; refine wpList_append_own _ rfl _ _ 24 rfl (w.heap.size) 27 j0 (.slice none 0 0) 1 24 Tryz.underlying24 hj hy0 hy1 hy2 rfl (by decide) _ _ _ rfl (World.ownsRow.alloc ho2 _) ⟨w2.heap.size, 0, none⟩ 1 1 [Value.slice A3 (ppG x).length c3] rfl rfl (cell_one_at _ _ (by simp)) (by intro u hu; simp at hu; subst hu; rfl) (by unfold maxLen; omega) (by omega) (by simp; omega) ?_; intro v9 w9 hown9 hgrow9 _)
          obtain ⟨A5, c5, rfl, hO3, hg3⟩ := hO2.grow (Nat.le_refl _) (by simp) hown9 hgrow9
          have hb3 := hbw.grown hg3 hbw.size (fun g hg => (hO2.olim (by simp) g hg).1)
          have ownP3 := ownP2.kept hg3 (own_types ownP2 ho2 (by decide))
          have K := Lib.hid (And.intro hO3 (And.intro ownP3 hb3))
          clear hO3 hb3 hown9 hgrow9 hg3 hO2 ho2 hbw ownP2 ownP3
          go_wp2_with fail
          go_roundw
          case rel => exact ⟨k + 1, A5, c5, ds ++ [⟨A3, c3, ppG x⟩], by omega, by go_num, by rw [List.length_append]; rfl, Lib.hid (by rw [HT.out, List.map_append, List.map_append, HX.out]; rfl), Lib.hid (by rw [HT.out, List.all_append, HA.out]; simp [HPP.out]), by simpa [Row.v] using K.out.1, K.out.2.1, K.out.2.2⟩
          case measure => simp [intOf]; omega
        · have hpf : ppB x = false := by simpa using hp
          have HF := Lib.hid (show pbOk s = false by rw [HB0.out, show ws.all ppB = false from List.all_eq_false.2 ⟨x, HXM.out, by rw [hpf]; simp⟩, Bool.false_and])
          have HG := Lib.hid (show pbG s = [] by rw [HG0.out, HF.out]; rfl)
          rw [hpf]
          clear hp hpf own3 hb2
          go_wp2_with fail
          go_ret2
          rw [HF.out, HG.out]
          exact ⟨none, 0, [], rfl, rfl, Own.nil_list _ _ _, hbw⟩
      · obtain rfl : k = ws.length := by omega
        have HXA := Lib.hid (show ds.map Row.xs = ws.map ppG by rw [HX.out, List.take_length])
        have HAA := Lib.hid (show ws.all ppB = true by have := HA.out; rwa [List.take_length] at this)
        obtain ⟨bb, hbb⟩ : ∃ bb, basisB (ds.map Row.xs) = bb := ⟨_, rfl⟩
        have HI := Lib.hid (show Calls Tryz.prog 22 #[.slice A1 ds.length c1] wr (Rb wr (.bool bb)) from by
          rcases Nat.lt_or_ge 8 ds.length with h8 | h8
          · have hbf : basisB (ds.map Row.xs) = false := by
              cases hq : basisB (ds.map Row.xs) with
              | false => rfl
              | true => have h1 := basis_len hq; rw [List.length_map] at h1; omega
            rw [← hbb, hbf]
            exact basis_big A1 c1 ds.length wr h8
          · have hin : InL wr A1 c1 ds := hO.read.toL (by
              have h1 : sizeX (ds.map Row.xs) ≤ (ds.map Row.xs).length * 8 := by
                rw [HXA.out]
                exact sizeP ws
              rw [sizeR_eq]
              rw [List.length_map] at h1
              omega) (Nat.le_refl _)
            rw [← hbb]
            exact basis_impl A1 c1 ds wr hin)
        have HF := Lib.hid (show pbOk s = bb by rw [HB0.out, HAA.out, Bool.true_and, ← HXA.out]; exact hbb)
        clear hbb hdl
        go_wp2_with fail
        (with_reducible refine HI.out.mono ?_)
        rintro e w2 ⟨rfl, hb2⟩
        have hbw := hb.trans (hb2.mono hsz)
        cases bb with
        | true =>
          have HG := Lib.hid (show pbG s = ws.map ppG by rw [HG0.out, HF.out]; rfl)
          have hO3 := (hO.below hb2).wider (Nat.le_refl _) hb2.size
          go_wp2_with fail
          go_ret2
          rw [HF.out, HG.out]
          exact ⟨A1, c1, ds, rfl, HXA.out, hO3, hbw⟩
        | false =>
          have HG := Lib.hid (show pbG s = [] by rw [HG0.out, HF.out]; rfl)
          go_wp2_with fail
          go_ret2
          rw [HF.out, HG.out]
          exact ⟨none, 0, [], rfl, rfl, Own.nil_list _ _ _, hbw⟩
end Go.Proofs.YtodloeonlaljpaaGreatDoor

/- Contracts of without and ParentOf. -/
namespace Go.Proofs.YtodloeonlaljpaaGreatDoor
set_option maxRecDepth 100000
open Go Go.RowKit

open Go.Lib Go.Sort in
theorem delete_own (g n c i base : Nat) (xs : List Int) (w : World) (h : w.ownsRow base 3 1 (.slice (some ⟨g, 0, none⟩) n c) n (xs.map (Value.int .i64))) (hi : i < n) :
    Calls Tryz.prog 127 #[.slice (some ⟨g, 0, none⟩) n c, .int .i64 i, .int .i64 ((i : Int) + 1)] w fun e w' => e = .returned (.slice (some ⟨g, 0, none⟩) (n - 1) c) ∧
      w'.ownsRow base 3 1 (.slice (some ⟨g, 0, none⟩) (n - 1) c) (n - 1) ((cutAt xs i).map (Value.int .i64)) ∧ ∀ B w0, Below B w0 w → B ≤ g → Below B w0 w' := by
  obtain ⟨g', cap, he, _, _, hc1, hc2, hl, hH⟩ := holds_of_ownsRow h (by simp)
  simp only [Value.slice.injEq, Option.some.injEq, Addr.mk.injEq, and_true, true_and] at he
  obtain ⟨rfl, rfl⟩ := he
  subst hl
  have hcc : c ≤ 9223372036854775807 := by unfold maxLen at hc2; omega
  have hD := Tryz.slices_Delete_int g 0 c i (i + 1) xs w hH hc1 hcc (by omega) (by omega)
  rw [show i + 1 - i = 1 by omega, show ((i + 1 : Nat) : Int) = (i : Int) + 1 from rfl] at hD
  refine hD.mono ?_
  rintro e w' ⟨rfl, q, rfl⟩
  have hlen : (xs.take i ++ xs.drop (i + 1) ++ List.replicate 1 0).length = xs.length := by
    rw [List.length_append, List.length_append, List.length_take, List.length_drop, List.length_replicate]; omega
  refine ⟨rfl, ?_, fun B w0 hb hB => below_putRow hb hB⟩
  have := ownsRow_putRow (q := q) (k := xs.length - 1) h hlen (by omega)
  have he : (xs.take i ++ xs.drop (i + 1) ++ List.replicate 1 0).take (xs.length - 1) = cutAt xs i := by
    rw [List.take_append_of_le_length (by rw [List.length_append, List.length_take, List.length_drop]; omega), List.take_of_length_le (by rw [List.length_append, List.length_take, List.length_drop]; omega)]
    rfl
  rw [he] at this
  exact this

set_option maxHeartbeats 400000 in
theorem without_impl (A : Option Addr) (c i : Nat) (xs : List Int) (w : World) (h : In w A c xs) (hi : i < xs.length) :
    Calls Tryz.prog 106 #[.slice A xs.length c, .int .i64 i] w (Ret (Value.int .i64) 3 w (patL (cutAt xs i))) := by
  have hl := h.len
  go_enter Tryz.func106, Tryz.ntmps106
  go_wp2_with fail
  (with_reducible refine (clone_any _ _ _ _ h).mono ?_)
  rintro e w1 ⟨T, t, rfl, _, _, o1, b1⟩
  obtain ⟨g, cap, hv, hg, _⟩ := o1.form (by omega)
  have hT : T = some ⟨g, 0, none⟩ := by injection hv
  subst hT
  clear hv
  go_wp2_with fail
  (with_reducible refine (delete_own g xs.length t i w.heap.size xs _ o1 hi).mono ?_)
  rintro e w2 ⟨rfl, o2, hB⟩
  have b2 := hB _ _ b1 hg
  have hlen := cutAt_length xs i hi
  have r2 : Rd (Value.int .i64) w2 w2.heap.size (some ⟨g, 0, none⟩) (cutAt xs i) := Rd.of_own (by rw [hlen]; exact o2)
  have hk : xs.length - 1 ≤ 1048576 := by omega
  clear hB
  go_wp2_with fail
  (with_reducible refine (pattern_impl _ _ _ (cutAt xs i) _ hlen hk r2).mono ?_)
  rintro e w3 ⟨T3, t3, rfl, k1, k2, o3, b3⟩
  go_wp2_with fail
  go_ret
  exact ⟨T3, t3, rfl, k1, k2, own_mono o3 b2.size, b2.trans (b3.mono b2.size)⟩

def parentL (xs : List Int) : List Int := xs.filter fun y => decide (y < (xs.length : Int))
def parentG (xs : List Int) : List Int := if permB xs = true ∧ xs.length ≠ 0 then parentL xs else []
def parentB (xs : List Int) : Bool := permB xs && decide (xs.length ≠ 0)
theorem parentG_length (xs : List Int) : (parentG xs).length ≤ 8 := by
  unfold parentG
  split
  · rename_i h
    have := (permB_true h.1).1
    exact Nat.le_trans (List.length_filter_le _ _) this
  · simp


end Go.Proofs.YtodloeonlaljpaaGreatDoor

/- BasisText, program and reference. -/
namespace Go.Proofs.YtodloeonlaljpaaGreatDoor
set_option maxRecDepth 100000
open Go Go.RowKit

def wordsT (X : List (List Int)) : List ByteArray := X.map ptext
def btxt (X : List (List Int)) : ByteArray := if basisB X = true then ⟨(Lib.join ((wordsT X).map (·.data.toList)) [32]).toArray⟩ else bs []
theorem wordsT_succ (X : List (List Int)) (k : Nat) (h : k < X.length) : wordsT (X.take (k + 1)) = wordsT (X.take k) ++ [ptext X[k]] := by
  unfold wordsT; rw [List.take_succ_eq_append_getElem h, List.map_append]; rfl
theorem bs_list (l : List UInt8) : (bs l).data.toList = l := by simp [bs]
theorem btxt_yes {X : List (List Int)} (h : basisB X = true) : btxt X = ⟨(Lib.join ((wordsT X).map (·.data.toList)) [32]).toArray⟩ := by unfold btxt; rw [if_pos h]
theorem btxt_no {X : List (List Int)} (h : basisB X = false) : btxt X = bs [] := by unfold btxt; rw [h]; rfl
theorem lens_le (L : List (List UInt8)) (m : Nat) (h : ∀ l ∈ L, l.length ≤ m) : Lib.lens L ≤ m * L.length := by
  induction L with
  | nil => simp [Lib.lens]
  | cons a t ih =>
    have h1 := ih (fun l hl => h l (by simp [hl]))
    have h2 := h a (by simp)
    simp only [Lib.lens, List.map_cons, List.sum_cons, List.length_cons, Nat.mul_add] at h1 ⊢
    omega
theorem join_le (L : List (List UInt8)) (x : UInt8) (m : Nat) (h : ∀ l ∈ L, l.length ≤ m) : (Lib.join L [x]).length ≤ (m + 1) * L.length := by
  cases L with
  | nil => simp [Lib.join_nil]
  | cons a t =>
    rw [Lib.join_length]
    have := lens_le (a :: t) m h
    have h1 : [x].length = 1 := rfl
    rw [h1]
    simp only [List.length_cons, Nat.add_mul, Nat.mul_add] at this ⊢
    omega
theorem join_succ (L : List (List UInt8)) (sep : List UInt8) (k : Nat) (h : k < L.length) : Lib.join (L.take (k + 1)) sep = if k = 0 then L[k] else Lib.join (L.take k) sep ++ sep ++ L[k] := by
  cases L with
  | nil => simp at h
  | cons a t =>
    rcases k with _ | k
    · simp [Lib.join_one]
    · rw [if_neg (by omega), List.take_succ_cons, List.take_succ_cons, Lib.join_cons, Lib.join_cons, Lib.joinTail_take_succ sep t k (t[k]'(by simpa using h)) (List.getElem?_eq_getElem (by simpa using h))]
      simp [List.append_assoc]
theorem ptext_le (xs : List Int) : (ptext xs).data.toList.length ≤ 9 := by
  unfold ptext
  by_cases h : permB xs = true
  · rw [if_pos h, bs_list]
    have := (permB_true h).1
    unfold textD
    split <;> simp <;> omega
  · rw [if_neg h, bs_list]; simp
theorem words_join_le (X : List (List Int)) : (Lib.join ((wordsT X).map (·.data.toList)) [32]).length ≤ 10 * X.length := by
  have := join_le ((wordsT X).map (·.data.toList)) 32 9 (by
    intro l hl
    obtain ⟨b, hb, rfl⟩ := List.mem_map.1 hl
    obtain ⟨q, _, rfl⟩ := List.mem_map.1 hb
    exact ptext_le q)
  simpa [wordsT] using this
set_option maxHeartbeats 2000000 in
theorem basisText_impl (A : Option Addr) (c : Nat) (qs : List Row) (w : World) (h : InL w A c qs) :
    Calls Tryz.prog 24 #[.slice A qs.length c] w (Rb w (.string (btxt (qs.map Row.xs)))) := by
  obtain ⟨i0, hi, hz0, hz1, hz2⟩ := info_parts infoS
  have hlen := h.len
  by_cases hB : basisB (qs.map Row.xs) = true
  · have H1 := Lib.hid hB
    have HG := Lib.hid (btxt_yes hB)
    clear hB
    go_enter Tryz.func24, Tryz.ntmps24
    go_wp2_with fail
    (with_reducible refine (basis_ib A c qs w true h H1.out).mono ?_)
    rintro e w1 ⟨rfl, hb1⟩
    have hsz1 := hb1.size
    have hown0 : (w1.alloc (.cells #[] 9)).ownsRow w.heap.size 9 1 (.slice (some ⟨w1.heap.size, 0, none⟩) 0 0) 0 ((wordsT ((qs.map Row.xs).take 0)).map Value.string) := World.ownsRow_lit w1 #[] 0 hsz1 (by unfold maxLen; omega) rfl
    have hb0 := hb1.alloc hsz1 (.cells #[] 9)
    go_wp2_with fail
    go_loopw [3, 12] (fun v i wr => ∃ (k : Nat) (A1 : Option Addr) (c1 : Nat), k ≤ qs.length ∧ i = .int .i64 k ∧ v = .slice A1 k c1 ∧ wr.ownsRow w.heap.size 9 1 (.slice A1 k c1) k ((wordsT ((qs.map Row.xs).take k)).map Value.string) ∧ Below w.heap.size w wr) (fun _ i _ => qs.length - (intOf i).toNat)
    case atStart => exact ⟨0, _, _, Nat.zero_le _, rfl, rfl, hown0, hb0⟩
    case round =>
      clear hown0 hb0
      obtain ⟨k, A1, c1, hk, rfl, rfl, hown, hb⟩ := hrel
      rcases Nat.lt_or_ge k qs.length with hlt | hge
      · have HS := Lib.hid (show wordsT ((qs.map Row.xs).take (k + 1)) = wordsT ((qs.map Row.xs).take k) ++ [ptext qs[k].xs] by rw [wordsT_succ _ _ (by simpa using hlt)]; simp)
        obtain ⟨b', off, rfl, _, hc⟩ := (h.next hb).read.at (by omega)
        have g1 := hc k hlt
        have hin := (h.next hb).row (List.getElem_mem hlt)
        clear hc
        go_wp2_with fail
        (with_reducible refine (permText_impl qs[k].A qs[k].c qs[k].xs wr hin).mono ?_)
        rintro e w2 ⟨rfl, hb2⟩
        have hown2 := own_below hown hb2
        have hbw := hb.trans (hb2.mono hb.size)
        have hszw := hbw.size
        clear hown hb2
        go_wp2_with (at_builtin; refine wpList_append_own _ rfl _ _ 48 rfl (w.heap.size) 9 i0 (.string ⟨#[]⟩) 1 16 Tryz.underlying48 hi hz0 hz1 hz2 rfl (by decide) _ _ _ rfl (World.ownsRow.alloc hown2 _) ⟨w2.heap.size, 0, none⟩ 1 1 [.string (ptext qs[k].xs)] rfl rfl (cell_one_at _ _ (by simp)) (by intro u hu; simp at hu; subst hu; rfl) (by unfold maxLen; omega) (by omega) (by simp; omega) ?_; intro v7 w7 hown7 hgrow7 _)
        have hS2 : w7.ownsRow w.heap.size 9 1 v7 (k + 1) ((wordsT ((qs.map Row.xs).take (k + 1))).map Value.string) := by rw [HS.out]; simpa using hown7
        have hb3 := (hbw.alloc hszw _).grown hgrow7 (by simp; omega) (fun g hg => (hown2.lt g hg).1)
        obtain ⟨A3, c3, rfl, _, _⟩ := own_shape hS2
        have K := Lib.hid (And.intro hS2 hb3)
        clear hS2 hown7 hgrow7 hb3 hown2 hbw
        go_wp2_with fail
        go_roundw
        case rel => exact ⟨k + 1, A3, c3, by omega, by go_num, rfl, K.out.1, K.out.2⟩
        case measure => simp [intOf]; omega
      · obtain rfl : k = qs.length := by omega
        rw [List.take_of_length_le (by simp)] at hown
        have hwl : (wordsT (qs.map Row.xs)).length = qs.length := by simp [wordsT]
        have hrd : Rd Value.string wr wr.heap.size A1 (wordsT (qs.map Row.xs)) := Rd.of_own (e := 9) (c := c1) (by rw [hwl]; exact hown)
        have hcp := (own_caps hown).1
        rcases Nat.eq_zero_or_pos qs.length with h0 | h0
        · have hq : qs = [] := List.length_eq_zero_iff.1 h0
          have HG2 := Lib.hid (show btxt (qs.map Row.xs) = ⟨#[]⟩ by rw [HG.out, hq]; rfl)
          have HJ := Lib.hid (Tryz.strings_Join_none A1 c1 ⟨#[32]⟩ wr)
          have h0' := Lib.hid h0
          clear hrd hwl
          have hlz : (qs.length : Int) = 0 := by omega
          go_wp2_with fail
          (with_reducible refine HJ.out.mono ?_)
          rintro e w2 ⟨rfl, rfl⟩
          go_wp2_with fail
          go_ret
          exact ⟨by rw [HG2.out]; rfl, hb⟩
        · obtain ⟨bt, ot, rfl, hbt, hct⟩ := hrd (by omega)
          have hjl := words_join_le (qs.map Row.xs)
          rw [List.length_map] at hjl
          have ct := Tryz.strings_Join bt ot c1 (wordsT (qs.map Row.xs)) ⟨#[32]⟩ wr (fun j x hx => by
            obtain ⟨hj, rfl⟩ := List.getElem?_eq_some_iff.1 hx
            exact hct j hj) hbt (by omega) (by omega) (Nat.le_trans hjl (by omega))
          rw [hwl] at ct
          clear hct
          go_wp2_with fail
          (with_reducible refine ct.mono ?_)
          clear ct
          rintro e w2 ⟨rfl, hb2⟩
          go_wp2_with fail
          go_ret
          exact ⟨by rw [HG.out]; rfl, hb.trans (hb2.mono hb.size)⟩
  · have hBf : basisB (qs.map Row.xs) = false := by simpa using hB
    have H1 := Lib.hid hBf
    have HG := Lib.hid (btxt_no hBf)
    clear hB hBf
    go_enter Tryz.func24, Tryz.ntmps24
    go_wp2_with fail
    (with_reducible refine (basis_ib A c qs w false h H1.out).mono ?_)
    rintro e w1 ⟨rfl, hb1⟩
    go_wp2_with fail
    go_ret
    exact ⟨by rw [HG.out]; rfl, hb1⟩

def digT (xs : List Int) (k : Nat) : List UInt8 := (xs.take k).map dig
theorem digT_succ (xs : List Int) (k : Nat) (h : k < xs.length) : digT xs (k + 1) = digT xs k ++ [dig xs[k]] := by unfold digT; rw [List.take_succ_eq_append_getElem h, List.map_append]; rfl
theorem digT_len (xs : List Int) (k : Nat) : (digT xs k).length ≤ xs.length := by unfold digT; simp; omega
set_option maxHeartbeats 2000000 in
theorem permText_spec (A : Option Addr) (c : Nat) (xs : List Int) (w : World) (h : In w A c xs) :
    Calls Tryz.prog 66 #[.slice A xs.length c] w (Rb w (.string (ptext xs))) := by
  have hl := h.len
  by_cases hp : permB xs = true
  · have HT := Lib.hid (show ptext xs = bs (textD xs) by unfold ptext; rw [if_pos hp])
    have h8 := (permB_true hp).1
    have HR := Lib.hid (permB_true hp).2.1
    have HP := Lib.hid hp
    clear hp
    go_enter Tryz.func66, Tryz.ntmps66
    go_wp2_with fail
    (with_reducible refine (isPerm_sb A c xs w true h HP.out).mono ?_)
    rintro e w1 ⟨rfl, hd1⟩
    have hb := below_dr (Below.refl w.heap.size w) hd1
    by_cases h0 : xs = []
    · subst h0
      go_wp2_with fail
      go_ret
      exact ⟨by rw [HT.out]; rfl, hb⟩
    have hne : 0 < xs.length := List.length_pos_iff.2 h0
    have d0 : ((xs.length : Int) == 0) = false := by simp; omega
    have HD := Lib.hid (show textD xs = digT xs xs.length by unfold textD digT; rw [if_neg h0, List.take_length])
    clear h0
    go_wp2_with fail
    go_loopw [3, 4] (fun o i wr => ∃ j : Nat, j ≤ xs.length ∧ i = .int .i64 j ∧ o = .string (bs (digT xs j)) ∧ Below w.heap.size w wr) (fun _ i _ => xs.length - (intOf i).toNat)
    case atStart => exact ⟨0, Nat.zero_le _, rfl, rfl, hb⟩
    case round =>
      obtain ⟨j, hj, rfl, rfl, hbw⟩ := hrel
      have hsw := hbw.size
      by_cases hlt : j < xs.length
      · obtain ⟨b, off, rfl, _, hc⟩ := (h.next hbw).rd hne
        have c1 := hc j hlt
        have hv := HR.out xs[j] (List.getElem_mem hlt)
        have HS := Lib.hid (digT_succ xs j hlt)
        have hsz := bs_size (digT xs j)
        have hjs := digT_len xs j
        have hsd : (bs [dig xs[j]]).size = 1 := bs_size [dig xs[j]]
        clear hc
        go_wp2_with fail
        (with_reducible refine (format_one xs[j] wr ⟨hv.1, by omega⟩).mono ?_)
        rintro e w' ⟨rfl, hbf⟩
        go_wp2
        go_roundw
        case rel => exact ⟨j + 1, by omega, by go_num, by rw [HS.out]; exact congrArg Value.string (bs_append _ _), hbw.trans (hbf.mono hbw.size)⟩
        case measure => simp [intOf]; omega
      · obtain rfl : j = xs.length := by omega
        go_wp2
        go_ret
        exact ⟨by rw [HT.out, HD.out]; rfl, hbw⟩
  · have hpf : permB xs = false := by simpa using hp
    have HT := Lib.hid (show ptext xs = bs [] by unfold ptext; rw [hpf]; rfl)
    clear hp
    go_enter Tryz.func66, Tryz.ntmps66
    go_wp2_with fail
    (with_reducible refine (isPerm_sb A c xs w false h hpf).mono ?_)
    rintro e w1 ⟨rfl, hd1⟩
    go_wp2_with fail
    go_ret
    exact ⟨by rw [HT.out]; rfl, below_dr (Below.refl w.heap.size w) hd1⟩
def u8V (b : UInt8) : Value := .int .u8 b.toNat
theorem strCells_u8 (s : ByteArray) : Lib.strCells s = s.data.toList.map u8V := rfl
def jnT (ts : List ByteArray) (k : Nat) : List UInt8 := Lib.join ((ts.take k).map (·.data.toList)) [32]
theorem jnT_succ (ts : List ByteArray) (k : Nat) (h : k < ts.length) : jnT ts (k + 1) = if k = 0 then ts[k].data.toList else jnT ts k ++ [32] ++ ts[k].data.toList := by
  have := join_succ (ts.map (·.data.toList)) [32] k (by simpa using h)
  unfold jnT
  rw [List.map_take, this, List.map_take]
  simp
theorem jnT_le (ts : List ByteArray) (k : Nat) (hs : ∀ t ∈ ts, t.size ≤ 16) : (jnT ts k).length ≤ 17 * k := by
  have := join_le ((ts.take k).map (·.data.toList)) 32 16 (by
    intro l hl
    obtain ⟨t, ht, rfl⟩ := List.mem_map.1 hl
    exact hs t (List.mem_of_mem_take ht))
  rw [List.length_map] at this
  have h2 := List.length_take_le k ts
  unfold jnT
  omega
theorem own_some {w : World} {base e n : Nat} {v : Value} {vs : List Value} (h : w.ownsRow base e 1 v n vs) (hne : v ≠ .slice none 0 0) : ∃ g c, v = .slice (some ⟨g, 0, none⟩) n c := by
  rcases h.2 with ⟨rfl, _⟩ | ⟨g, cap, cur, rfl, _⟩
  · exact absurd rfl hne
  · exact ⟨g, cap, rfl⟩
theorem infoU8' : (Tryz.prog.info? 5).map (fun i => (i.zero, i.size, i.bytes)) = some (some (.int .u8 0), 1, 1) := by kernel_rfl
set_option maxHeartbeats 4000000 in
theorem join_spec (A : Option Addr) (c : Nat) (ts : List ByteArray) (w : World) (hl : ts.length ≤ 100) (hs : ∀ t ∈ ts, t.size ≤ 16) (h : Rd Value.string w w.heap.size A ts) :
    Calls Tryz.prog 67 #[.slice A ts.length c, .string ⟨#[32]⟩] w (Rb w (.string ⟨(Lib.join (ts.map (·.data.toList)) [32]).toArray⟩)) := by
  obtain ⟨i0, hi, hz0, hz1, hz2⟩ := info_parts infoU8'
  have hown0 : (w.alloc (.cells #[] 5)).ownsRow w.heap.size 5 1 (.slice (some ⟨w.heap.size, 0, none⟩) 0 0) (jnT ts 0).length ((jnT ts 0).map u8V) := World.ownsRow_lit w #[] 0 (Nat.le_refl _) (by unfold maxLen; omega) rfl
  have hb0 := (Below.refl w.heap.size w).alloc (Nat.le_refl _) (.cells #[] 5)
  have HSZ := Lib.hid hs
  clear hs
  go_enter Tryz.func67, Tryz.ntmps67
  go_wp2_with fail
  go_loopw [5, 6] (fun v i wr => ∃ (k : Nat) (A1 : Addr) (c1 : Nat), k ≤ ts.length ∧ i = .int .i64 k ∧ v = .slice (some A1) (jnT ts k).length c1 ∧ wr.ownsRow w.heap.size 5 1 (.slice (some A1) (jnT ts k).length c1) (jnT ts k).length ((jnT ts k).map u8V) ∧ Below w.heap.size w wr) (fun _ i _ => ts.length - (intOf i).toNat)
  case atStart => exact ⟨0, _, _, Nat.zero_le _, rfl, rfl, hown0, hb0⟩
  case round =>
    clear hown0 hb0
    obtain ⟨k, A1, c1, hk, rfl, rfl, hown, hb⟩ := hrel
    have hjl := jnT_le ts k HSZ.out
    have hsz := hb.size
    rcases Nat.lt_or_ge k ts.length with hlt | hge
    · obtain ⟨b, off, rfl, _, hc⟩ := (h.below hb) (by omega)
      have g1 := hc k hlt
      have hks := HSZ.out ts[k] (List.getElem_mem hlt)
      have HS := Lib.hid (jnT_succ ts k hlt)
      have hlk : (Lib.strCells ts[k]).length = ts[k].size := Lib.strCells_length _
      clear hc
      rcases Nat.eq_zero_or_pos k with h0 | h0
      · subst h0
        have g1' : wr.cell? ⟨b, off, none⟩ = some (.string ts[0]) := g1
        have HT := Lib.hid (show jnT ts 1 = ts[0].data.toList by rw [HS.out, if_pos rfl])
        have HZ := Lib.hid (show jnT ts 0 = [] from rfl)
        go_wp2_with (at_builtin; refine Lib.wpList_append_own_string _ rfl _ _ 22 9 rfl (w.heap.size) 5 i0 Tryz.underlying22 Tryz.underlying9 hi hz0 hz1 hz2 _ _ _ rfl hown (ts[0]) rfl (by unfold maxLen; omega) (by omega) (by omega) ?_; intro v1 w1 hown1 hgrow1 hnil1)
        obtain ⟨gq, cq, rfl⟩ := own_some hown1 (fun he => by have h2 : Value.slice (some A1) (jnT ts 0).length c1 = .slice none 0 0 := (hnil1.1 he).1; cases h2)
        have hS2 : w1.ownsRow w.heap.size 5 1 (.slice (some ⟨gq, 0, none⟩) (jnT ts 1).length cq) (jnT ts 1).length ((jnT ts 1).map u8V) := by
          rw [HZ.out] at hown1
          rw [HT.out]
          simpa [strCells_u8] using hown1
        have hb1 := hb.grown hgrow1 hsz (fun g hg => (hown.lt g hg).1)
        have HV := Lib.hid (show Value.slice (some ⟨gq, 0, none⟩) ((jnT ts 0).length + ts[0].size) cq = Value.slice (some ⟨gq, 0, none⟩) (jnT ts 1).length cq by rw [HT.out, HZ.out]; simp)
        have K := Lib.hid (And.intro hS2 hb1)
        clear hS2 hb1 hown1 hgrow1 hnil1 hown hb
        go_wp2_with fail
        go_roundw
        case rel => exact ⟨1, ⟨gq, 0, none⟩, cq, hlt, rfl, HV.out, K.out.1, K.out.2⟩
        case measure => simp [intOf]; omega
      · have d0 : decide ((k : Int) > 0) = true := decide_eq_true (by omega)
        have HT := Lib.hid (show jnT ts (k + 1) = jnT ts k ++ [32] ++ ts[k].data.toList by rw [HS.out, if_neg (by omega)])
        have hsp : (⟨#[32]⟩ : ByteArray).size = 1 := rfl
        go_wp2_with (first
          | ((at_builtin; refine Lib.wpList_append_own_string _ rfl _ _ 22 9 rfl (w.heap.size) 5 i0 Tryz.underlying22 Tryz.underlying9 hi hz0 hz1 hz2 _ _ _ rfl hown (⟨#[32]⟩) rfl (by unfold maxLen; omega) (by omega) (by omega) ?_; intro v1 w1 hown1 hgrow1 hnil1)
             obtain ⟨gq, cq, rfl⟩ := own_some hown1 (fun he => by have h2 : Value.slice (some A1) (jnT ts k).length c1 = .slice none 0 0 := (hnil1.1 he).1; cases h2)
             have hb1 := hb.grown hgrow1 hsz (fun g hg => (hown.lt g hg).1)
             have g2 : w1.cell? ⟨b, off + k, none⟩ = some (.string ts[k]) := by
               obtain ⟨b', off', he, _, hc⟩ := (h.below hb1) (by omega)
               injection he with he
               injection he with he1 he2 _
               subst he1 he2
               exact hc k hlt
             have hsz1 := hb1.size
             have hown0 : w1.ownsRow w.heap.size 5 1 (.slice (some ⟨gq, 0, none⟩) ((jnT ts k).length + 1) cq) ((jnT ts k).length + 1) ((jnT ts k).map u8V ++ Lib.strCells ⟨#[32]⟩) := hown1
             clear hgrow1 hown hb g1 hown1 hnil1)
          | (at_builtin; refine Lib.wpList_append_own_string _ rfl _ _ 22 9 rfl (w.heap.size) 5 i0 Tryz.underlying22 Tryz.underlying9 hi hz0 hz1 hz2 _ _ _ rfl hown0 (ts[k]) rfl (by unfold maxLen; omega) (by omega) (by omega) ?_; intro v2 w2 hown2 hgrow2 hnil2))
        obtain ⟨gq2, cq2, rfl⟩ := own_some hown2 (fun he => by have h2 : Value.slice (some ⟨gq, 0, none⟩) ((jnT ts k).length + 1) cq = .slice none 0 0 := (hnil2.1 he).1; cases h2)
        have HL := Lib.hid (show (jnT ts (k + 1)).length = (jnT ts k).length + 1 + ts[k].size by rw [HT.out, List.length_append, List.length_append]; rfl)
        have hS2 : w2.ownsRow w.heap.size 5 1 (.slice (some ⟨gq2, 0, none⟩) (jnT ts (k + 1)).length cq2) (jnT ts (k + 1)).length ((jnT ts (k + 1)).map u8V) := by
          rw [HL.out, HT.out]
          simpa [strCells_u8, u8V] using hown2
        have hb2 := hb1.grown hgrow2 hsz1 (fun g hg => (hown0.lt g hg).1)
        have HV := Lib.hid (show Value.slice (some ⟨gq2, 0, none⟩) ((jnT ts k).length + 1 + ts[k].size) cq2 = Value.slice (some ⟨gq2, 0, none⟩) (jnT ts (k + 1)).length cq2 by rw [HL.out])
        have K := Lib.hid (And.intro hS2 hb2)
        clear hS2 hb1 hb2 hown2 hgrow2 hnil2 hown0
        go_wp2_with fail
        go_roundw
        case rel => exact ⟨k + 1, ⟨gq2, 0, none⟩, cq2, by omega, by go_num, HV.out, K.out.1, K.out.2⟩
        case measure => simp [intOf]; omega
    · obtain rfl : k = ts.length := by omega
      obtain ⟨gq, cq, hv⟩ := own_some hown (by simp)
      injection hv with hv _ hcc
      injection hv with hv
      subst hv hcc
      have hrd : Rd (Value.int .u8) wr wr.heap.size (some ⟨gq, 0, none⟩) ((jnT ts ts.length).map fun b : UInt8 => (b.toNat : Int)) := Rd.of_own (c := c1) (by rw [List.length_map, List.map_map]; exact hown)
      have hcv := conv_bytes (c := c1) hrd (List.length_map _)
      have HE := Lib.hid (show bs (((jnT ts ts.length).map fun b : UInt8 => (b.toNat : Int)).map fun n => UInt8.ofNat n.toNat) = ⟨(Lib.join (ts.map (·.data.toList)) [32]).toArray⟩ by
        rw [List.map_map]
        have : ((fun n : Int => UInt8.ofNat n.toNat) ∘ fun b : UInt8 => (b.toNat : Int)) = id := by funext b; simp
        rw [this, List.map_id]
        unfold jnT bs; rw [List.take_length])
      clear hrd hown
      go_wp2_with fail
      go_ret
      exact ⟨by rw [← HE.out, List.map_map]; rfl, hb⟩
set_option maxHeartbeats 2000000 in
theorem basisText_spec (A : Option Addr) (c : Nat) (qs : List Row) (w : World) (h : InL w A c qs) :
    Calls Tryz.prog 25 #[.slice A qs.length c] w (Rb w (.string (btxt (qs.map Row.xs)))) := by
  obtain ⟨i0, hi, hz0, hz1, hz2⟩ := info_parts infoS
  have hlen := h.len
  have hown0 : (w.alloc (.cells #[] 9)).ownsRow w.heap.size 9 1 (.slice (some ⟨w.heap.size, 0, none⟩) 0 0) 0 ((wordsT ((qs.map Row.xs).take 0)).map Value.string) := World.ownsRow_lit w #[] 0 (Nat.le_refl _) (by unfold maxLen; omega) rfl
  have hb0 := (Below.refl w.heap.size w).alloc (Nat.le_refl _) (.cells #[] 9)
  by_cases hB : basisB (qs.map Row.xs) = true
  · have H1 := Lib.hid hB
    have h8 := basis_len hB
    rw [List.length_map] at h8
    have HG := Lib.hid (btxt_yes hB)
    clear hB
    go_enter Tryz.func25, Tryz.ntmps25
    go_wp2_with fail
    go_loopw [3, 4] (fun v i wr => ∃ (k : Nat) (A1 : Option Addr) (c1 : Nat), k ≤ qs.length ∧ i = .int .i64 k ∧ v = .slice A1 k c1 ∧ wr.ownsRow w.heap.size 9 1 (.slice A1 k c1) k ((wordsT ((qs.map Row.xs).take k)).map Value.string) ∧ Below w.heap.size w wr) (fun _ i _ => qs.length - (intOf i).toNat)
    case atStart => exact ⟨0, _, _, Nat.zero_le _, rfl, rfl, hown0, hb0⟩
    case round =>
      clear hown0 hb0
      obtain ⟨k, A1, c1, hk, rfl, rfl, hown, hb⟩ := hrel
      rcases Nat.lt_or_ge k qs.length with hlt | hge
      · have HS := Lib.hid (show wordsT ((qs.map Row.xs).take (k + 1)) = wordsT ((qs.map Row.xs).take k) ++ [ptext qs[k].xs] by rw [wordsT_succ _ _ (by simpa using hlt)]; simp)
        go_wp2_with fail
        (with_reducible refine (basis_sb A c qs wr true (h.next hb) H1.out).mono ?_)
        rintro e w1 ⟨rfl, hb1⟩
        have hown := own_below hown hb1
        have hb := hb.trans (hb1.mono hb.size)
        obtain ⟨b', off, rfl, _, hc⟩ := (h.next hb).read.at (by omega)
        have g1 := hc k hlt
        have hin := (h.next hb).row (List.getElem_mem hlt)
        clear hc hb1
        go_wp2_with fail
        (with_reducible refine (permText_spec qs[k].A qs[k].c qs[k].xs w1 hin).mono ?_)
        rintro e w2 ⟨rfl, hb2⟩
        have hown2 := own_below hown hb2
        have hbw := hb.trans (hb2.mono hb.size)
        have hszw := hbw.size
        clear hown hb2
        go_wp2_with (at_builtin; refine wpList_append_own _ rfl _ _ 48 rfl (w.heap.size) 9 i0 (.string ⟨#[]⟩) 1 16 Tryz.underlying48 hi hz0 hz1 hz2 rfl (by decide) _ _ _ rfl (World.ownsRow.alloc hown2 _) ⟨w2.heap.size, 0, none⟩ 1 1 [.string (ptext qs[k].xs)] rfl rfl (cell_one_at _ _ (by simp)) (by intro u hu; simp at hu; subst hu; rfl) (by unfold maxLen; omega) (by omega) (by simp; omega) ?_; intro v7 w7 hown7 hgrow7 _)
        have hS2 : w7.ownsRow w.heap.size 9 1 v7 (k + 1) ((wordsT ((qs.map Row.xs).take (k + 1))).map Value.string) := by rw [HS.out]; simpa using hown7
        have hb3 := (hbw.alloc hszw _).grown hgrow7 (by simp; omega) (fun g hg => (hown2.lt g hg).1)
        obtain ⟨A3, c3, rfl, _, _⟩ := own_shape hS2
        have K := Lib.hid (And.intro hS2 hb3)
        clear hS2 hown7 hgrow7 hb3 hown2 hbw
        go_wp2_with fail
        go_roundw
        case rel => exact ⟨k + 1, A3, c3, by omega, by go_num, rfl, K.out.1, K.out.2⟩
        case measure => simp [intOf]; omega
      · obtain rfl : k = qs.length := by omega
        rw [List.take_of_length_le (by simp)] at hown
        have hwl : (wordsT (qs.map Row.xs)).length = qs.length := by simp [wordsT]
        have hrd : Rd Value.string wr wr.heap.size A1 (wordsT (qs.map Row.xs)) := Rd.of_own (e := 9) (c := c1) (by rw [hwl]; exact hown)
        have ct := join_spec A1 c1 (wordsT (qs.map Row.xs)) wr (by omega) (fun t ht => by
          obtain ⟨q, _, rfl⟩ := List.mem_map.1 ht
          have := ptext_le q
          rw [← ByteArray.size_data, ← Array.length_toList]
          omega) hrd
        rw [hwl] at ct
        have HC := Lib.hid ct
        clear ct hrd hown
        go_wp2_with fail
        (with_reducible refine HC.out.mono ?_)
        rintro e w2 ⟨rfl, hb2⟩
        go_wp2_with fail
        go_ret
        exact ⟨by rw [HG.out]; rfl, hb.trans (hb2.mono hb.size)⟩
  · have hBf : basisB (qs.map Row.xs) = false := by simpa using hB
    have hne : 0 < qs.length := by
      rcases Nat.eq_zero_or_pos qs.length with h0 | h0
      · have : qs = [] := List.eq_nil_of_length_eq_zero h0
        subst this
        exact absurd rfl hB
      · exact h0
    have H1 := Lib.hid hBf
    have HG := Lib.hid (btxt_no hBf)
    clear hB hBf
    go_enter Tryz.func25, Tryz.ntmps25
    go_wp2_with fail
    go_loopw [3, 4] (fun v i wr => i = .int .i64 0 ∧ ∃ (A1 : Option Addr) (c1 : Nat), v = .slice A1 0 c1 ∧ wr.ownsRow w.heap.size 9 1 (.slice A1 0 c1) 0 ([] : List Value) ∧ Below w.heap.size w wr) (fun _ _ _ => 0)
    case atStart => exact ⟨rfl, _, _, rfl, hown0, hb0⟩
    case round =>
      clear hown0 hb0
      obtain ⟨rfl, A1, c1, rfl, hown, hb⟩ := hrel
      go_wp2_with fail
      (with_reducible refine (basis_sb A c qs wr false (h.next hb) H1.out).mono ?_)
      rintro e w1 ⟨rfl, hb1⟩
      have hown := own_below hown hb1
      have hb := hb.trans (hb1.mono hb.size)
      have ct : Calls Tryz.prog 67 #[.slice A1 0 c1, .string ⟨#[32]⟩] w1 (Rb w1 (.string ⟨(Lib.join ([] : List (List UInt8)) [32]).toArray⟩)) := join_spec A1 c1 [] w1 (by simp) (by simp) Rd.nil_
      have HC := Lib.hid ct
      clear ct hown hb1
      go_wp2_with fail
      (with_reducible refine HC.out.mono ?_)
      rintro e w2 ⟨rfl, hb2⟩
      go_wp2_with fail
      go_ret
      exact ⟨by rw [HG.out]; rfl, hb.trans (hb2.mono hb.size)⟩
end Go.Proofs.YtodloeonlaljpaaGreatDoor
