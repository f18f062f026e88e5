/- The draws of permutations: a list of as many numbers as was asked. -/
import Derived.Test.YthipikllgpnlhaaD1
import Derived.Test.YthipikllgpnlhaaZ2
import Derived.Test.YthipikllgpnlhaaC3
namespace Go.Proofs.Ythipikllgpnlhaa
set_option maxRecDepth 100000
open Go Go.RowKit

section
variable {w w' wa wb : World} {q : Nat} {A : Option Addr} {c : Nat} {bs : List Int}
theorem own_drawn {base e n : Nat} {v : Value} {vs : List Value} (h : w.ownsRow base e 1 v n vs) (k : Drawn w w' q A c bs) (hq : q < base) : w'.ownsRow base e 1 v n vs :=
  own_span h k.span fun g hg => by have := (h.lt g hg).1; omega
theorem Drawn.next (h : Drawn wa wb q A c bs) (hb : Below wa.heap.size wb w') (hq : q < wa.heap.size) : Drawn wa w' q A c bs :=
  ⟨h.cur.below hb hq, ⟨hb.os.trans h.span.os, hb.tape.trans h.span.tape, hb.output.trans h.span.output, Nat.le_trans h.span.size hb.size, fun k hk hlh => (hb.block k hk).trans (h.span.block k hk hlh)⟩⟩
theorem Rd.drawn {α : Type} {f : α → Value} {B : Nat} {D : Option Addr} {xs : List α} (h : Rd f w B D xs) (k : Drawn w w' q A c bs) (hB : B ≤ q) (hw : B ≤ w.heap.size) : Rd f w' B D xs := h.below (k.span.below hB hw)
end
/-- 1, 2, .., m. -/
def upToL (m : Nat) : List Int := (List.range m).map fun i => ((i : Nat) : Int) + 1
theorem upToL_succ (m : Nat) : upToL (m + 1) = upToL m ++ [(m : Int) + 1] := by simp [upToL, List.range_succ]
theorem upToL_length (m : Nat) : (upToL m).length = m := by simp [upToL]
theorem ins_perm (xs : List Int) (t : Nat) (x : Int) : (xs.take t ++ [x] ++ xs.drop t).Perm (xs ++ [x]) := by
  have h : (xs.take t ++ [x] ++ xs.drop t).Perm (xs.take t ++ (xs.drop t ++ [x])) := by
    rw [List.append_assoc]
    exact List.Perm.append_left _ List.perm_append_comm
  rwa [← List.append_assoc, List.take_append_drop] at h
/-- A list of the call's own was drawn. -/
def RetD (w : World) (q : Nat) (A : Option Addr) (c : Nat) (bs : List Int) (ok : List Int → Prop) (en : Ending) (w' : World) : Prop :=
  ∃ D k ys, en = .returned (.slice D ys.length k) ∧ ok ys ∧ w'.ownsRow w.heap.size 3 1 (.slice D ys.length k) ys.length (ys.map (Value.int .i64)) ∧ Drawn w w' q A c bs

set_option maxHeartbeats 2000000 in
theorem l2Draw_any (w : World) (q : Nat) (A : Option Addr) (c : Nat) (bs : List Int) (n : Nat) (hn : n ≤ 1000000) (hc : Cur w q A c bs) :
    Calls Try.prog 104 #[.pointer (some ⟨q, 0, none⟩), .int .i64 n] w (RetD w q A c bs fun ys => ys.Perm (upToL n)) := by
  obtain ⟨i0, hi, hz0, hz1, hz2⟩ := info_parts infoI
  have hq := hc.lt
  have own0 : (w.alloc (.cells #[] 3)).ownsRow w.heap.size 3 1 (.slice (some ⟨w.heap.size, 0, none⟩) 0 0) 0 [] := World.ownsRow_lit w #[] 0 (Nat.le_refl _) (by unfold maxLen; omega) rfl
  have k0 := (Drawn.refl hc).next ((Below.refl w.heap.size w).alloc (Nat.le_refl _) (.cells #[] 3)) hq
  go_enter Try.func104, Try.ntmps104
  go_wp2_with fail
  go_loopw [5, 6] (fun o i wr => ∃ (m : Nat) (A1 : Option Addr) (c1 : Nat) (ys : List Int), m ≤ n ∧ i = .int .i64 ((m : Int) + 1) ∧ o = .slice A1 ys.length c1 ∧ Hid (ys.Perm (upToL m)) ∧
    wr.ownsRow w.heap.size 3 1 (.slice A1 ys.length c1) ys.length (ys.map (Value.int .i64)) ∧ Drawn w wr q A c bs) (fun _ i _ => n + 1 - (intOf i).toNat)
  case atStart => exact ⟨0, _, _, [], Nat.zero_le _, rfl, rfl, Lib.hid (by rw [show upToL 0 = [] from rfl]), own0, k0⟩
  case round =>
    clear own0 k0
    obtain ⟨m, A1, c1, ys, hm, rfl, rfl, HP, own1, k1⟩ := hrel
    have hyl : ys.length = m := by rw [HP.out.length_eq, upToL_length]
    have hsz := k1.span.size
    rcases Nat.lt_or_ge m n with hlt | hge
    · have hy1 : ys.length ≤ 1000000 := by omega
      have HYL := Lib.hid hyl
      have e1 : IntKind.i64.wrap ((ys.length : Int) + 1) = (ys.length : Int) + 1 := IntWalk.i64_in _ (by omega)
      have l1 : (m : Int) + 1 ≤ (n : Int) := by omega
      have HC := Lib.hid (l1Below_any wr q A c bs ((ys.length : Int) + 1) (by omega) k1.cur)
      clear hyl
      go_wp2_with fail
      (with_reducible refine HC.out.mono ?_)
      rintro e w0 ⟨x, rfl, hx, kx⟩
      obtain ⟨t, rfl⟩ := Int.eq_ofNat_of_zero_le hx.1
      have htl : t ≤ ys.length := by have := hx.2.1 (by omega); omega
      have own1 := own_drawn own1 kx hq
      have k1 := k1.trans kx
      have hsz0 := k1.span.size
      obtain ⟨cp1, cp2⟩ := own_caps own1
      clear hx kx HC
      have hsl1 := fun w => run_cut (P := Try.prog) (t := 24) Try.underlying24 sizeI A1 ys.length c1 t (t : Int) rfl htl w
      have hsl2 := fun w => run_slice_h (P := Try.prog) w 24 A1 ys.length c1 Try.underlying24 .i64 t (by omega) (by omega)
      have q2 : (t : Int) ≤ (ys.length : Int) := by omega
      have hown0 : (w0.alloc (.cells #[] 3)).ownsRow w0.heap.size 3 1 (.slice (some ⟨w0.heap.size, 0, none⟩) 0 0) 0 [] := World.ownsRow_lit w0 #[] 0 (Nat.le_refl _) (by unfold maxLen; omega) rfl
      have HX0 := Lib.hid ((((Rd.of_own own1).alloc (Nat.le_refl _) (.cells #[] 3)).cut (k := t) (c := c1) htl cp1))
      have HD1 := Lib.hid (show (ys.drop t).length = ys.length - t from List.length_drop)
      have HT1 := Lib.hid (show (ys.take t).length = t by simp; omega)
      have hbA := (Below.refl w0.heap.size w0).alloc (Nat.le_refl _) (.cells #[] 3)
      go_wp2_with (first
        | ((at_builtin; refine wpList_append_rd _ rfl _ _ 24 rfl (w0.heap.size) 3 i0 (.int .i64 0) 8 Try.underlying24 hi hz0 hz1 hz2 rfl _ _ _ rfl hown0 _ _ _ _ (ys.drop t) rfl HD1.out HX0.out (fun _ => rfl) (by unfold maxLen; omega) (by omega) (by first | omega | (simp; done) | (simp; omega)) ?_; intro v1 w1 hown1 hgrow1)
           simp only [Nat.zero_add, List.nil_append] at hown1
           obtain ⟨A3, c3, rfl, _, _⟩ := own_shape hown1
           have hbB := hbA.grown hgrow1 (by simp) (fun g hg => (hown0.lt g hg).1)
           have hszB := hbB.size
           have HT := own_take (own_below own1 hbB) htl)
        | ((at_builtin; refine wpList_append_own _ rfl _ _ 24 rfl (w.heap.size) 3 i0 (.int .i64 0) 1 8 Try.underlying24 hi hz0 hz1 hz2 rfl (by decide) _ _ _ rfl (World.ownsRow.alloc HT _) ⟨w1.heap.size, 0, none⟩ 1 1 [.int .i64 ((m : Int) + 1)] rfl rfl (cell_one_new _ _ _) (by intro u hu; simp at hu; subst hu; rfl) (by unfold maxLen; omega) (by omega) (by simp; omega) ?_; intro v2 w2 hown2 hgrow2 _)
           have hR2 := (hown1.alloc (Obj.cells #[Value.int .i64 ((m : Int) + 1)] 3)).kept hgrow2 (by
             rcases hv : (Value.slice A3 (ys.length - t) c3).ownBlock with _ | g
             · exact .inl rfl
             · refine .inr fun he => ?_
               have h1 := (hown1.lt g hv).1
               have h2 := ((own_take own1 htl).lt g he.symm).2
               omega)
           have HRR : Rd (Value.int .i64) w2 w2.heap.size A3 (ys.drop t) := Rd.of_own (c := c3) (by rw [HD1.out]; exact hR2)
           have hsz2 : w.heap.size ≤ w2.heap.size := by have := hgrow2.size; simp at this; omega)
        | (at_builtin; refine wpList_append_rd _ rfl _ _ 24 rfl (w.heap.size) 3 i0 (.int .i64 0) 8 Try.underlying24 hi hz0 hz1 hz2 rfl _ _ _ rfl hown2 _ _ _ _ (ys.drop t) rfl HD1.out HRR (fun _ => rfl) (by unfold maxLen; omega) (by omega) (by first | omega | (simp; done) | (simp; omega)) ?_; intro v4 w4 hown4 hgrow4))
      have hzl : (ys.take t ++ [(m : Int) + 1] ++ ys.drop t).length = t + 1 + (ys.length - t) := by simp only [List.length_append, List.length_singleton, HT1.out, HD1.out]
      have hown5 : w4.ownsRow w.heap.size 3 1 v4 (ys.take t ++ [(m : Int) + 1] ++ ys.drop t).length ((ys.take t ++ [(m : Int) + 1] ++ ys.drop t).map (Value.int .i64)) := by
        rw [hzl]
        simpa only [List.map_append, List.map_take, List.map_drop, List.map_cons, List.map_nil] using hown4
      obtain ⟨A5, c5, rfl, _, _⟩ := own_shape hown5
      have hbC := ((hbB.mono hsz0).alloc (by omega) (Obj.cells #[Value.int .i64 ((m : Int) + 1)] 3)).grown hgrow2 (by simp; omega) (fun g hg => (HT.lt g hg).1)
      have hbD := hbC.grown hgrow4 (by omega) (fun g hg => (hown2.lt g hg).1)
      have k5 := k1.next hbD hq
      have HP5 : Hid ((ys.take t ++ [(m : Int) + 1] ++ ys.drop t).Perm (upToL (m + 1))) := Lib.hid ((ins_perm ys t ((m : Int) + 1)).trans (by rw [upToL_succ]; exact List.Perm.append_right _ HP.out))
      exact ⟨⟨m + 1, A5, c5, _, by omega, by go_num, rfl, HP5, hown5, k5⟩, by simp [intOf]; omega⟩
    · obtain rfl : m = n := by omega
      go_wp2_with fail
      go_ret
      exact ⟨A1, c1, ys, rfl, HP.out, own1, k1⟩
set_option maxHeartbeats 2000000 in
theorem l2Any_any (w : World) (q : Nat) (A : Option Addr) (c : Nat) (bs : List Int) (hc : Cur w q A c bs) :
    Calls Try.prog 120 #[.pointer (some ⟨q, 0, none⟩)] w (RetD w q A c bs fun ys => ys.length ≤ 8 ∧ ys.Perm (upToL ys.length)) := by
  have hq := hc.lt
  have k0 := (Drawn.refl hc).next ((Below.refl w.heap.size w).alloc (Nat.le_refl _) (.cells #[.int .i64 0, .int .i64 1, .int .i64 2, .int .i64 3, .int .i64 4, .int .i64 5, .int .i64 5, .int .i64 6, .int .i64 6, .int .i64 7, .int .i64 8] 3)) hq
  have HC := Lib.hid (l1PickInt_any _ q A c bs w.heap.size 11 11 [0, 1, 2, 3, 4, 5, 5, 6, 6, 7, 8] rfl (by decide) (by decide) (by omega) (by simp) (fun j hj => (obj_cell (obj_new w _)).trans (by
    have hj : j < 11 := hj
    rcases j with _ | _ | _ | _ | _ | _ | _ | _ | _ | _ | _ | j
    all_goals first | rfl | omega)) k0.cur)
  go_enter Try.func120, Try.ntmps120
  go_wp2_with fail
  (with_reducible refine HC.out.mono ?_)
  rintro e w1 ⟨x, rfl, hx, k1⟩
  have hx8 : 0 ≤ x ∧ x ≤ 8 := by simp at hx; omega
  obtain ⟨n, rfl⟩ := Int.eq_ofNat_of_zero_le hx8.1
  have k1 := k0.trans k1
  have hsz := k1.span.size
  have HD := Lib.hid (l2Draw_any w1 q A c bs n (by omega) k1.cur)
  go_wp2_with fail
  (with_reducible refine HD.out.mono ?_)
  rintro e w2 ⟨D, k, ys, rfl, hp, ho, k2⟩
  go_wp2_with fail
  go_ret
  have hl : ys.length = n := by rw [hp.length_eq, upToL_length]
  exact ⟨D, k, ys, rfl, ⟨by omega, by rw [hl]; exact hp⟩, own_mono ho hsz, k1.trans k2⟩
set_option maxHeartbeats 2000000 in
theorem l2Bent_any (w : World) (q : Nat) (A : Option Addr) (c : Nat) (bs : List Int) (hc : Cur w q A c bs) :
    Calls Try.prog 72 #[.pointer (some ⟨q, 0, none⟩)] w (RetD w q A c bs fun ys => ys.length ≤ 9) := by
  obtain ⟨i0, hi, hz0, hz1, hz2⟩ := info_parts infoI
  have hq := hc.lt
  have HC := Lib.hid (l2Any_any w q A c bs hc)
  go_enter Try.func72, Try.ntmps72
  go_wp2_with fail
  (with_reducible refine HC.out.mono ?_)
  rintro e w1 ⟨D, k, ys, rfl, ⟨hl8, hp⟩, ho, k1⟩
  have HB := Lib.hid (l1Below_any w1 q A c bs 14 (by omega) k1.cur)
  have hsz := k1.span.size
  clear hp
  go_wp2_with fail
  (with_reducible refine HB.out.mono ?_)
  rintro e w2 ⟨x, rfl, hx, kx⟩
  have ho := own_drawn ho kx hq
  have k2 := k1.trans kx
  have hsz := k2.span.size
  by_cases hx0 : x = 0
  · subst hx0
    have HB := Lib.hid (l1Below_any w2 q A c bs 12 (by omega) k2.cur)
    clear hx
    go_wp2_with fail
    (with_reducible refine HB.out.mono ?_)
    rintro e w3 ⟨y, rfl, hy, ky⟩
    have ho := own_drawn ho ky hq
    have k3 := k2.trans ky
    have hsz := k3.span.size
    have e1 : IntKind.i64.wrap (y - 1) = y - 1 := IntWalk.i64_in _ (by omega)
    go_wp2_with (at_builtin; refine wpList_append_own _ rfl _ _ 24 rfl (w.heap.size) 3 i0 (.int .i64 0) 1 8 Try.underlying24 hi hz0 hz1 hz2 rfl (by decide) _ _ _ rfl (World.ownsRow.alloc ho _) ⟨w3.heap.size, 0, none⟩ 1 1 [.int .i64 (y - 1)] rfl rfl (cell_one_new _ _ _) (by intro u hu; simp at hu; subst hu; rfl) (by unfold maxLen; omega) (by omega) (by simp; omega) ?_; intro v1 w1 hown1 hgrow1 _)
    have hown5 : w1.ownsRow w.heap.size 3 1 v1 (ys ++ [y - 1]).length ((ys ++ [y - 1]).map (Value.int .i64)) := by simpa using hown1
    obtain ⟨A5, c5, rfl, _, _⟩ := own_shape hown5
    have hbC := ((Below.refl w.heap.size w3).alloc hsz (Obj.cells #[Value.int .i64 (y - 1)] 3)).grown hgrow1 (by simp; omega) (fun g hg => (ho.lt g hg).1)
    go_ret
    exact ⟨A5, c5, _, by simp, by simp; omega, hown5, k3.next hbC hq⟩
  by_cases hx1 : x = 1
  · subst hx1
    clear hx
    rcases Nat.eq_zero_or_pos ys.length with h0 | h0
    · obtain rfl : ys = [] := List.eq_nil_of_length_eq_zero h0
      go_wp2_with fail
      go_ret
      exact ⟨D, k, [], rfl, by simp, ho, k2⟩
    · have HB := Lib.hid (l1Below_any w2 q A c bs 11 (by omega) k2.cur)
      obtain ⟨g, cap, hv, hg1, hlt⟩ := ho.form (by simpa using h0)
      injection hv with hv1 hv2 hv3
      subst hv1 hv3
      go_wp2_with fail
      (with_reducible refine HB.out.mono ?_)
      rintro e w3 ⟨y, rfl, hy, ky⟩
      have ho := own_drawn ho ky hq
      have k3 := k2.trans ky
      have hsz := k3.span.size
      have e1 : IntKind.i64.wrap (y - 1) = y - 1 := IntWalk.i64_in _ (by omega)
      obtain ⟨f0, g0, ho5⟩ := own_put ho 0 h0 (y - 1)
      go_wp2_with fail
      go_ret
      exact ⟨some ⟨g, 0, none⟩, k, ys.set 0 (y - 1), by simp, by simp; omega, by simpa using ho5, k3.next ((Below.refl _ _).setCell (p := ⟨g, 0, none⟩) (ho.lt g rfl).1 _) hq⟩
  · go_wp2_with fail
    go_ret
    exact ⟨D, k, ys, rfl, by omega, ho, k2⟩
end Go.Proofs.Ythipikllgpnlhaa
