/- Several texts in one, each with its own head: D8, CS, Y1. No program of ours. -/
import Derived.Deep.RegionHeld3
import Derived.Deep.CutRange
import Derived.Deep.DeepCutAuto
import Derived.Lib.SliceRun
import Derived.Test.YthipikllgpnlhaaMMeshes9
/- l8Draw: a pattern with joined places that is drawn. Written by gen/gend8.py. -/
namespace Go.Proofs.Ythipikllgpnlhaa
set_option maxRecDepth 100000
open Go Go.RowKit

/-- The pattern in block G; the result's box in block b2. -/
structure NearSt (w0 wz : World) (q G b2 : Nat) (A : Option Addr) (c : Nat) (bs : List Int) (P : Option Addr) (pk : Nat) (p : List Int) (J : Option Addr) (k : Nat) (ys : List Int) : Prop where
  og : wz.heap[G]? = some (Obj.cells #[Value.slice P p.length pk, Value.slice J ys.length k] 32)
  ob : wz.heap[b2]? = some (Obj.cells #[Value.slice none 0 0, Value.slice none 0 0] 32)
  ownJ : wz.ownsRow (G + 1) 3 1 (.slice J ys.length k) ys.length (ys.map (Value.int .i64))
  ownP : wz.ownsRow w0.heap.size 3 1 (.slice P p.length pk) p.length (p.map (Value.int .i64))
  hPl : ∀ g, (Value.slice P p.length pk).ownBlock = some g → g < G
  dr : Drawn w0 wz q A c bs
  hq : q < w0.heap.size
  hG : w0.heap.size ≤ G
  hb : w0.heap.size ≤ b2
  hne : G ≠ b2
section
variable {w0 wz wy : World} {q G b2 : Nat} {A : Option Addr} {c : Nat} {bs : List Int} {P : Option Addr} {pk : Nat} {p : List Int} {J : Option Addr} {k : Nat} {ys : List Int}
theorem NearSt.below (h : NearSt w0 wz q G b2 A c bs P pk p J k ys) (hb : Below wz.heap.size wz wy) : NearSt w0 wy q G b2 A c bs P pk p J k ys :=
  ⟨obj_below h.og hb (obj_lt h.og), obj_below h.ob hb (obj_lt h.ob), own_below h.ownJ hb, own_below h.ownP hb, h.hPl, h.dr.next (hb.mono h.dr.span.size) h.hq, h.hq, h.hG, h.hb, h.hne⟩
theorem NearSt.alloc (h : NearSt w0 wz q G b2 A c bs P pk p J k ys) (o : Obj) : NearSt w0 (wz.alloc o) q G b2 A c bs P pk p J k ys := h.below ((Below.refl _ _).alloc (Nat.le_refl _) o)
theorem NearSt.moved (h : NearSt w0 wz q G b2 A c bs P pk p J k ys) (hd : Dr wz wy) : NearSt w0 wy q G b2 A c bs P pk p J k ys := h.below (below_dr (Below.refl _ _) hd)
theorem NearSt.drawn (h : NearSt w0 wz q G b2 A c bs P pk p J k ys) (ka : Drawn wz wy q A c bs) : NearSt w0 wy q G b2 A c bs P pk p J k ys :=
  ⟨(ka.span.block G (obj_lt h.og) (.inr (by have := h.hG; have := h.hq; omega))).trans h.og, (ka.span.block b2 (obj_lt h.ob) (.inr (by have := h.hb; have := h.hq; omega))).trans h.ob,
    own_drawn h.ownJ ka (by have := h.hG; have := h.hq; omega), own_drawn h.ownP ka h.hq, h.hPl, h.dr.trans ka, h.hq, h.hG, h.hb, h.hne⟩
theorem NearSt.cells (h : NearSt w0 wz q G b2 A c bs P pk p J k ys) : wz.cell? ⟨G, 0, none⟩ = some (Value.slice P p.length pk) ∧ wz.cell? ⟨G, 1, none⟩ = some (Value.slice J ys.length k) := ⟨(obj_cell h.og).trans rfl, (obj_cell h.og).trans rfl⟩
/-- A number is put at the end. -/
theorem NearSt.push {w9 : World} {x : Int} {lit : Obj} {v9 : Value} {n : Nat} (h : NearSt w0 wz q G b2 A c bs P pk p J k ys) (hn : ys.length = n)
    (h9 : w9.ownsRow (G + 1) 3 1 v9 (n + 1) (ys.map (Value.int .i64) ++ [.int .i64 x])) (hg : (wz.alloc lit).grownBy w9 (Value.slice J n k).ownBlock) :
    ∃ A2 c2, v9 = .slice A2 (n + 1) c2 ∧ w9.cell? ⟨G, 1, none⟩ = some (.slice J n k) ∧ w9.frozen? ⟨G, 1, none⟩ = false ∧
      Hid (NearSt w0 (w9.setCell ⟨G, 1, none⟩ (.slice A2 (n + 1) c2)) q G b2 A c bs P pk p A2 c2 (ys ++ [x])) := by
  subst hn
  obtain ⟨A2, c2, rfl, _, _⟩ := own_shape h9
  have hA := h.alloc lit
  have hlt := hA.ownJ.lt
  have og := (hg.block G (obj_lt hA.og) (fun e => by have := (hlt G e.symm).1; omega)).trans hA.og
  have ob := (hg.block b2 (obj_lt hA.ob) (own_noblock hA.ownJ hA.ob (by decide))).trans hA.ob
  have hP := hA.ownP.kept hg (own_off (lim := G) h.hPl fun g hg => by have := (hlt g hg).1; omega)
  have hb9 : Below w0.heap.size (wz.alloc lit) w9 := (Below.refl _ _).grown hg hA.dr.span.size fun g hg => by have := (hlt g hg).1; have := h.hG; omega
  have hd9 := (hA.dr.next hb9 h.hq).next ((Below.refl w0.heap.size w9).setCell (p := ⟨G, 1, none⟩) h.hG (.slice A2 (ys.length + 1) c2)) h.hq
  refine ⟨A2, c2, rfl, (obj_cell og).trans rfl, obj_frozen og, Lib.hid ⟨?_, obj_other ob h.hne _, ?_, own_boxed hP og (by decide), h.hPl, hd9, h.hq, h.hG, h.hb, h.hne⟩⟩
  · have := obj_set (i := 1) og (Value.slice A2 (ys.length + 1) c2)
    simpa using this
  · have := own_boxed (g := G) (i := 1) (u := Value.slice A2 (ys.length + 1) c2) h9 og (by decide)
    simpa using this
/-- The result is laid into its box. -/
theorem NearSt.fin (h : NearSt w0 wz q G b2 A c bs P pk p J k ys) :
    ((wz.setCell ⟨b2, 0, none⟩ (.slice P p.length pk)).setCell ⟨b2, 1, none⟩ (.slice J ys.length k)).ownsRow w0.heap.size 3 1 (.slice P p.length pk) p.length (p.map (Value.int .i64)) ∧
    ((wz.setCell ⟨b2, 0, none⟩ (.slice P p.length pk)).setCell ⟨b2, 1, none⟩ (.slice J ys.length k)).ownsRow w0.heap.size 3 1 (.slice J ys.length k) ys.length (ys.map (Value.int .i64)) ∧
    Drawn w0 ((wz.setCell ⟨b2, 0, none⟩ (.slice P p.length pk)).setCell ⟨b2, 1, none⟩ (.slice J ys.length k)) q A c bs ∧
    ((wz.setCell ⟨b2, 0, none⟩ (.slice P p.length pk)).setCell ⟨b2, 1, none⟩ (.slice J ys.length k)).heap[b2]? = some (Obj.cells #[Value.slice P p.length pk, Value.slice J ys.length k] 32) := by
  have o1 := obj_set (i := 0) h.ob (Value.slice P p.length pk)
  have o2 := obj_set (i := 1) o1 (Value.slice J ys.length k)
  have hP := own_boxed (i := 1) (u := Value.slice J ys.length k) (own_boxed (i := 0) (u := Value.slice P p.length pk) h.ownP h.ob (by decide)) o1 (by decide)
  have hJ := own_boxed (i := 1) (u := Value.slice J ys.length k) (own_boxed (i := 0) (u := Value.slice P p.length pk) h.ownJ h.ob (by decide)) o1 (by decide)
  refine ⟨hP, own_mono hJ (by have := h.hG; omega), h.dr.next (((Below.refl w0.heap.size wz).setCell (p := ⟨b2, 0, none⟩) h.hb _).setCell (p := ⟨b2, 1, none⟩) h.hb _) h.hq, ?_⟩
  simpa using o2
end
/-- A pattern with joined places was drawn. -/
def RetDN (w : World) (q : Nat) (A : Option Addr) (c : Nat) (bs : List Int) (en : Ending) (w' : World) : Prop :=
  ∃ (P : Option Addr) (pk : Nat) (p : List Int) (J : Option Addr) (k : Nat) (ys : List Int), en = .returned (.agg #[.slice P p.length pk, .slice J ys.length k]) ∧ p.length ≤ 4 ∧ ys.length ≤ 4 ∧ p.Perm (upToL p.length) ∧
    w'.ownsRow w.heap.size 3 1 (.slice P p.length pk) p.length (p.map (Value.int .i64)) ∧ w'.ownsRow w.heap.size 3 1 (.slice J ys.length k) ys.length (ys.map (Value.int .i64)) ∧ Drawn w w' q A c bs
set_option maxHeartbeats 8000000 in
theorem l8Draw_any (w : World) (q : Nat) (A : Option Addr) (c : Nat) (bs : List Int) (hc : Cur w q A c bs) :
    Calls Try.prog 76 #[.pointer (some ⟨q, 0, none⟩)] w (RetDN w q A c bs) := by
  obtain ⟨i0, hi, hz0, hz1, hz2⟩ := info_parts infoI
  have hq := hc.lt
  have ob := obj_alloc (obj_new w (Obj.cells #[Value.slice none 0 0, Value.slice none 0 0] 32)) (Obj.cells #[Value.int .i64 0, Value.int .i64 1, Value.int .i64 2, Value.int .i64 3, Value.int .i64 3, Value.int .i64 4] 3)
  have hbA : Below w.heap.size w ((w.alloc (Obj.cells #[Value.slice none 0 0, Value.slice none 0 0] 32)).alloc (Obj.cells #[Value.int .i64 0, Value.int .i64 1, Value.int .i64 2, Value.int .i64 3, Value.int .i64 3, Value.int .i64 4] 3)) := ((Below.refl _ _).alloc (Nat.le_refl _) _).alloc (by simp) _
  have kA := (Drawn.refl hc).next hbA hq
  have HP := Lib.hid (l1PickInt_any _ q A c bs (w.heap.size + 1) 6 6 [0, 1, 2, 3, 3, 4] rfl (by decide) (by decide) (by omega) (by simp) (fun j hj => (obj_cell (by have := obj_new (w.alloc (Obj.cells #[Value.slice none 0 0, Value.slice none 0 0] 32)) (Obj.cells #[Value.int .i64 0, Value.int .i64 1, Value.int .i64 2, Value.int .i64 3, Value.int .i64 3, Value.int .i64 4] 3); simpa using this)).trans (by
    have hj : j < 6 := hj
    rcases j with _ | _ | _ | _ | _ | _ | j
    all_goals first | rfl | omega)) kA.cur)
  go_enter Try.func76, Try.ntmps76
  go_wp2_with fail
  (with_reducible refine HP.out.mono ?_)
  rintro e w1 ⟨x, rfl, hx, k1⟩
  have hx8 : 0 ≤ x ∧ x ≤ 4 := by simp at hx; omega
  obtain ⟨n, rfl⟩ := Int.eq_ofNat_of_zero_le hx8.1
  have ob := (k1.span.block w.heap.size (obj_lt ob) (.inr (by omega))).trans ob
  have k1 := kA.trans k1
  have HD := Lib.hid (l2Draw_any w1 q A c bs n (by omega) k1.cur)
  clear HP hx
  go_wp2_with fail
  (with_reducible refine HD.out.mono ?_)
  rintro e w2 ⟨P, pk, p, rfl, hp, ho, k2⟩
  have hpn : p.length = n := by rw [hp.length_eq, upToL_length]
  have HPP := Lib.hid (show p.Perm (upToL p.length) by rw [hpn]; exact hp)
  have hp4 : p.length ≤ 4 := by omega
  have ob := (k2.span.block w.heap.size (obj_lt ob) (.inr (by omega))).trans ob
  have hsz := k1.span.size
  have k2 := k1.trans k2
  have hsz2 := k2.span.size
  have hlt2 : w.heap.size < w2.heap.size := obj_lt ob
  have hoL : ∀ g, (Value.slice P p.length pk).ownBlock = some g → g < w2.heap.size := fun g hg => (ho.lt g hg).2
  have ho := (own_mono ho hsz).alloc (Obj.cells #[Value.slice P p.length pk, Value.slice none 0 0] 32)
  obtain ⟨G, hG⟩ : ∃ G, G = w2.heap.size := ⟨_, rfl⟩
  have M0 : NearSt w (w2.alloc (Obj.cells #[Value.slice P p.length pk, Value.slice none 0 0] 32)) q G w.heap.size A c bs P pk p none 0 [] :=
    ⟨by rw [hG]; exact obj_new w2 _, obj_alloc ob _, ⟨rfl, .inl ⟨rfl, rfl⟩⟩, ho, by rw [hG]; exact hoL, k2.next ((Below.refl w.heap.size w2).alloc hsz2 _) hq, hq, by omega, Nat.le_refl _, by omega⟩
  have HGG := Lib.hid hG
  clear HD hp ob ho k1 k2 hbA kA hG hpn hoL
  go_wp2_with fail
  rw [← HGG.out]
  go_loopw [4] (fun ix wr => ∃ (i : Nat) (J : Option Addr) (k : Nat) (ys : List Int), 1 ≤ i ∧ (i ≤ p.length ∨ i = 1) ∧ ix = .int .i64 i ∧ NearSt w wr q G w.heap.size A c bs P pk p J k ys ∧ ys.length + 1 ≤ i) (fun ix _ => p.length + 1 - (intOf ix).toNat)
  case atStart => exact ⟨1, none, 0, [], Nat.le_refl _, .inr rfl, rfl, M0, Nat.le_refl _⟩
  case round =>
    clear M0
    obtain ⟨i, J, k, ys, hi1, hi2, rfl, M, hyl⟩ := hrel
    have HI2 := Lib.hid hi2
    have f0 := M.cells.1
    clear hi2
    rcases Nat.lt_or_ge i p.length with hlt | hge
    · have l1 : (i : Int) < (p.length : Int) := by omega
      have HO := Lib.hid (l1Once_any wr q A c bs 2 (by omega) M.dr.cur)
      go_wp2_with fail
      (with_reducible refine HO.out.mono ?_)
      rintro e wa ⟨b, rfl, ka⟩
      have M := M.drawn ka
      clear ka HO f0
      rcases b with _ | _
      · go_wp2_with fail
        go_roundw
        case rel => exact ⟨i + 1, J, k, ys, by omega, .inl (by omega), by go_num, M, by omega⟩
        case measure => simp [intOf]; omega
      · have f1 := M.cells.2
        have hO1 := M.ownJ
        have hw0 := obj_lt M.og
        have HM := Lib.hid M
        clear M
        go_wp2_with ((at_builtin; refine wpList_append_own _ rfl _ _ 24 rfl (G + 1) 3 i0 (.int .i64 0) 1 8 Try.underlying24 hi hz0 hz1 hz2 rfl (by decide) _ _ _ rfl (World.ownsRow.alloc hO1 _) ⟨wa.heap.size, 0, none⟩ 1 1 [.int .i64 ((i : Int))] rfl rfl (cell_one_new _ _ _) (by intro u hu; simp at hu; subst hu; rfl) (by unfold maxLen; omega) (by omega) (by simp; omega) ?_; intro v1 w1 hown1 hgrow1 _)
                     obtain ⟨A2, c2, rfl, f7, u7, K⟩ := NearSt.push (x := (i : Int)) HM.out rfl hown1 hgrow1)
        go_roundw
        case rel => exact ⟨i + 1, A2, c2, ys ++ [(i : Int)], by omega, .inl (by omega), by go_num, by simpa using K.out, by simp; omega⟩
        case measure => simp [intOf]; omega
    · have l1 : ¬ (i : Int) < (p.length : Int) := by omega
      have hyl4 : ys.length ≤ 3 := by rcases HI2.out with h | h <;> omega
      have HO := Lib.hid (l1Once_any wr q A c bs 14 (by omega) M.dr.cur)
      clear HI2 hyl
      go_wp2_with fail
      (with_reducible refine HO.out.mono ?_)
      rintro e wa ⟨b, rfl, ka⟩
      have M := M.drawn ka
      clear ka HO f0
      rcases b with _ | _
      · have HFN := Lib.hid M.fin
        have g0 := M.cells.1
        have g1 := M.cells.2
        have t0 := (obj_cell (i := 0) M.ob).trans rfl
        have t1 := (obj_cell (i := 1) M.ob).trans rfl
        have u0 := obj_frozen (i := 0) M.ob
        have u1 := obj_frozen (i := 1) M.ob
        have l0 := (obj_cell (i := 0) HFN.out.2.2.2).trans rfl
        have l2 := (obj_cell (i := 1) HFN.out.2.2.2).trans rfl
        go_wp2_with fail
        refine bodyPost_ret (v := .agg #[.slice P p.length pk, .slice J ys.length k]) (by simp [results, Try.results76, go_sem, l0, l2]) rfl ?_
        exact ⟨P, pk, p, J, k, ys, rfl, hp4, by omega, HPP.out, HFN.out.1, HFN.out.2.1, HFN.out.2.2.1⟩
      · have M := M.moved (Dr.refl wa).drew
        have f1 := M.cells.2
        have M0 := M
        clear M
        go_wp2_with fail
        refine wp_region_held_drew (S := (fun _ => True)) (by kernel_rfl) trivial (fun hHeld => ?_)
        refine wpAnyH_take (i := 0) (oi := _) (v := ?_) rfl (by kernel_rfl) (by kernel_rfl) (by kernel_rfl) (fun _ _ _ h => h) (Or.inl ⟨by rfl, ?_⟩) (by assumption) ?_
        rotate_left
        · intro w hSw
          try dsimp only at hSw
          go_simp
          all_goals with_reducible rfl
        try simp only [Act.put, List.setIfInBounds_toArray, List.set_cons_zero, List.set_cons_succ, List.getElem_toArray, List.getElem_cons_succ, List.getElem_cons_zero]
        refine wpAnyH_take (i := 2) (oi := _) (v := ?_) rfl (by kernel_rfl) (by kernel_rfl) (by kernel_rfl) (fun _ _ _ h => h) (Or.inl ⟨by rfl, ?_⟩) (by assumption) ?_
        rotate_left
        · intro w hSw
          try dsimp only at hSw
          go_simp
          all_goals with_reducible rfl
        try simp only [Act.put, List.setIfInBounds_toArray, List.set_cons_zero, List.set_cons_succ, List.getElem_toArray, List.getElem_cons_succ, List.getElem_cons_zero]
        refine wpAnyH_ready (rs := [1, 3]) (by kernel_rfl) (by simp) ?_
        refine AllReadyH.cons (o := _) rfl (fun K hK => ?_) (AllReadyH.cons (o := _) rfl (fun K hK => ?_) AllReadyH.nil)
        · go_simp
          refine hK.out _ _ (trivial) (fun hHeld => ?_)
          clear hK K
          try simp only [Act.put, List.setIfInBounds_toArray, List.set_cons_zero, List.set_cons_succ, List.getElem_toArray, List.getElem_cons_succ, List.getElem_cons_zero]
          refine wpAnyH_ready (rs := [3]) (by kernel_rfl) (by simp) ?_
          refine AllReadyH.cons (o := _) rfl (fun K hK => ?_) AllReadyH.nil
          go_simp
          refine Calls.mono (l1Below_any _ q A c bs 5 (by omega) M0.dr.cur) ?_
          rintro e w5 ⟨x1, rfl, hx1, ka⟩
          have M5 := M0.drawn ka
          have f1 := M5.cells.2
          clear ka hx1
          go_wp2_with fail
          refine hK.out _ _ (trivial) (fun hHeld => ?_)
          clear hK K
          try simp only [Act.put, List.setIfInBounds_toArray, List.set_cons_zero, List.set_cons_succ, List.getElem_toArray, List.getElem_cons_succ, List.getElem_cons_zero]
          refine wpAnyH_ready (rs := [4]) (by kernel_rfl) (by simp) ?_
          refine AllReadyH.cons (o := _) rfl (fun K hK => ?_) AllReadyH.nil
          have f1 := (M5.alloc (Obj.cells #[Value.int .i64 x1] 3)).cells.2
          go_simp
          refine hK.out _ _ (trivial) (fun hHeld => ?_)
          clear hK K
          try simp only [Act.put, List.setIfInBounds_toArray, List.set_cons_zero, List.set_cons_succ, List.getElem_toArray, List.getElem_cons_succ, List.getElem_cons_zero]
          refine wpAnyH_ready (rs := [5]) (by kernel_rfl) (by simp) ?_
          refine AllReadyH.cons (o := _) rfl (fun K hK => ?_) AllReadyH.nil
          refine step_append_lies _ (by rfl) _ _ _ (by rfl) (G + 1) 3 i0 (.int .i64 0) 1 8 Try.underlying24 hi hz0 hz1 hz2 rfl (by decide) (Value.slice J ys.length k) ys.length _ (by rfl) (M5.alloc (Obj.cells #[Value.int .i64 x1] 3)).ownJ ⟨w5.heap.size, 0, none⟩ 1 1 [.int .i64 x1] (by rfl) (by rfl) (cell_one_new _ _ _) (by intro u hu; simp at hu; subst hu; rfl) (by omega) (by unfold maxLen; omega) (by omega) (by have := obj_lt M5.og; simp; omega) (w5.heap.size + 1) (by simp) ?_
          intro g cap w9 hown9 hgrow9 hlies9 hglt9
          obtain ⟨A2, c2, hA2, f7, u7, KM⟩ := NearSt.push (x := x1) (lit := Obj.cells #[Value.int .i64 x1] 3) M5 rfl hown9 hgrow9
          injection hA2 with hA2 _ hc2
          subst hA2 hc2
          refine hK.out _ _ (trivial) (fun hHeld => ?_)
          clear hK K
          try simp only [Act.put, List.setIfInBounds_toArray, List.set_cons_zero, List.set_cons_succ, List.getElem_toArray, List.getElem_cons_succ, List.getElem_cons_zero]
          refine wpAnyH_take (i := 6) (oi := _) (v := ?_) rfl (by kernel_rfl) (by kernel_rfl) (by kernel_rfl) (fun _ _ _ h => h) (Or.inl ⟨by rfl, ?_⟩) (by assumption) ?_
          rotate_left
          · intro w hSw
            try dsimp only at hSw
            go_simp
            all_goals with_reducible rfl
          try simp only [Act.put, List.setIfInBounds_toArray, List.set_cons_zero, List.set_cons_succ, List.getElem_toArray, List.getElem_cons_succ, List.getElem_cons_zero]
          refine wpAnyH_ready (rs := [7]) (by kernel_rfl) (by simp) ?_
          refine AllReadyH.cons (o := _) rfl (fun K hK => ?_) AllReadyH.nil
          go_simp
          refine hK.out _ _ (trivial) (fun hHeld => ?_)
          clear hK K
          try simp only [Act.put, List.setIfInBounds_toArray, List.set_cons_zero, List.set_cons_succ, List.getElem_toArray, List.getElem_cons_succ, List.getElem_cons_zero]
          refine wpAnyH_done (by kernel_rfl) ?_ _
          have HL := Lib.hid (show (ys ++ [x1]).length = ys.length + 1 by simp)
          have KM2 : NearSt w (w9.setCell ⟨G, 1, none⟩ (.slice (some ⟨g, 0, none⟩) (ys.length + 1) cap)) q G w.heap.size A c bs P pk p (some ⟨g, 0, none⟩) cap (ys ++ [x1]) := KM.out
          clear f7 u7 KM M5 f1 hown9 hgrow9 M0
          generalize w9.setCell ⟨G, 1, none⟩ (.slice (some ⟨g, 0, none⟩) (ys.length + 1) cap) = wq at KM2 ⊢
          have HFN := Lib.hid KM2.fin
          rw [HL.out] at HFN
          have g0 := KM2.cells.1
          have g1 := KM2.cells.2
          rw [HL.out] at g1
          have t0 := (obj_cell (i := 0) KM2.ob).trans rfl
          have t1 := (obj_cell (i := 1) KM2.ob).trans rfl
          have u0 := obj_frozen (i := 0) KM2.ob
          have u1 := obj_frozen (i := 1) KM2.ob
          have l0 := (obj_cell (i := 0) HFN.out.2.2.2).trans rfl
          have l2 := (obj_cell (i := 1) HFN.out.2.2.2).trans rfl
          go_wp2_with fail
          refine bodyPost_ret (v := .agg #[.slice P p.length pk, .slice (some ⟨g, 0, none⟩) (ys.length + 1) cap]) (by simp [results, Try.results76, go_sem, l0, l2]) rfl ?_
          exact ⟨P, pk, p, (some ⟨g, 0, none⟩), cap, (ys ++ [x1]), (by rw [HL.out]), hp4, by rw [HL.out]; omega, HPP.out, HFN.out.1, (by rw [HL.out]; exact HFN.out.2.1), HFN.out.2.2.1⟩
        · go_simp
          refine Calls.mono (l1Below_any _ q A c bs 5 (by omega) M0.dr.cur) ?_
          rintro e w5 ⟨x1, rfl, hx1, ka⟩
          have M5 := M0.drawn ka
          have f1 := M5.cells.2
          clear ka hx1
          go_wp2_with fail
          refine hK.out _ _ (trivial) (fun hHeld => ?_)
          clear hK K
          try simp only [Act.put, List.setIfInBounds_toArray, List.set_cons_zero, List.set_cons_succ, List.getElem_toArray, List.getElem_cons_succ, List.getElem_cons_zero]
          refine wpAnyH_ready (rs := [1, 4]) (by kernel_rfl) (by simp) ?_
          refine AllReadyH.cons (o := _) rfl (fun K hK => ?_) (AllReadyH.cons (o := _) rfl (fun K hK => ?_) AllReadyH.nil)
          · go_simp
            refine hK.out _ _ (trivial) (fun hHeld => ?_)
            clear hK K
            try simp only [Act.put, List.setIfInBounds_toArray, List.set_cons_zero, List.set_cons_succ, List.getElem_toArray, List.getElem_cons_succ, List.getElem_cons_zero]
            refine wpAnyH_ready (rs := [4]) (by kernel_rfl) (by simp) ?_
            refine AllReadyH.cons (o := _) rfl (fun K hK => ?_) AllReadyH.nil
            have f1 := (M5.alloc (Obj.cells #[Value.int .i64 x1] 3)).cells.2
            go_simp
            refine hK.out _ _ (trivial) (fun hHeld => ?_)
            clear hK K
            try simp only [Act.put, List.setIfInBounds_toArray, List.set_cons_zero, List.set_cons_succ, List.getElem_toArray, List.getElem_cons_succ, List.getElem_cons_zero]
            refine wpAnyH_ready (rs := [5]) (by kernel_rfl) (by simp) ?_
            refine AllReadyH.cons (o := _) rfl (fun K hK => ?_) AllReadyH.nil
            refine step_append_lies _ (by rfl) _ _ _ (by rfl) (G + 1) 3 i0 (.int .i64 0) 1 8 Try.underlying24 hi hz0 hz1 hz2 rfl (by decide) (Value.slice J ys.length k) ys.length _ (by rfl) (M5.alloc (Obj.cells #[Value.int .i64 x1] 3)).ownJ ⟨w5.heap.size, 0, none⟩ 1 1 [.int .i64 x1] (by rfl) (by rfl) (cell_one_new _ _ _) (by intro u hu; simp at hu; subst hu; rfl) (by omega) (by unfold maxLen; omega) (by omega) (by have := obj_lt M5.og; simp; omega) (w5.heap.size + 1) (by simp) ?_
            intro g cap w9 hown9 hgrow9 hlies9 hglt9
            obtain ⟨A2, c2, hA2, f7, u7, KM⟩ := NearSt.push (x := x1) (lit := Obj.cells #[Value.int .i64 x1] 3) M5 rfl hown9 hgrow9
            injection hA2 with hA2 _ hc2
            subst hA2 hc2
            refine hK.out _ _ (trivial) (fun hHeld => ?_)
            clear hK K
            try simp only [Act.put, List.setIfInBounds_toArray, List.set_cons_zero, List.set_cons_succ, List.getElem_toArray, List.getElem_cons_succ, List.getElem_cons_zero]
            refine wpAnyH_take (i := 6) (oi := _) (v := ?_) rfl (by kernel_rfl) (by kernel_rfl) (by kernel_rfl) (fun _ _ _ h => h) (Or.inl ⟨by rfl, ?_⟩) (by assumption) ?_
            rotate_left
            · intro w hSw
              try dsimp only at hSw
              go_simp
              all_goals with_reducible rfl
            try simp only [Act.put, List.setIfInBounds_toArray, List.set_cons_zero, List.set_cons_succ, List.getElem_toArray, List.getElem_cons_succ, List.getElem_cons_zero]
            refine wpAnyH_ready (rs := [7]) (by kernel_rfl) (by simp) ?_
            refine AllReadyH.cons (o := _) rfl (fun K hK => ?_) AllReadyH.nil
            go_simp
            refine hK.out _ _ (trivial) (fun hHeld => ?_)
            clear hK K
            try simp only [Act.put, List.setIfInBounds_toArray, List.set_cons_zero, List.set_cons_succ, List.getElem_toArray, List.getElem_cons_succ, List.getElem_cons_zero]
            refine wpAnyH_done (by kernel_rfl) ?_ _
            have HL := Lib.hid (show (ys ++ [x1]).length = ys.length + 1 by simp)
            have KM2 : NearSt w (w9.setCell ⟨G, 1, none⟩ (.slice (some ⟨g, 0, none⟩) (ys.length + 1) cap)) q G w.heap.size A c bs P pk p (some ⟨g, 0, none⟩) cap (ys ++ [x1]) := KM.out
            clear f7 u7 KM M5 f1 hown9 hgrow9 M0
            generalize w9.setCell ⟨G, 1, none⟩ (.slice (some ⟨g, 0, none⟩) (ys.length + 1) cap) = wq at KM2 ⊢
            have HFN := Lib.hid KM2.fin
            rw [HL.out] at HFN
            have g0 := KM2.cells.1
            have g1 := KM2.cells.2
            rw [HL.out] at g1
            have t0 := (obj_cell (i := 0) KM2.ob).trans rfl
            have t1 := (obj_cell (i := 1) KM2.ob).trans rfl
            have u0 := obj_frozen (i := 0) KM2.ob
            have u1 := obj_frozen (i := 1) KM2.ob
            have l0 := (obj_cell (i := 0) HFN.out.2.2.2).trans rfl
            have l2 := (obj_cell (i := 1) HFN.out.2.2.2).trans rfl
            go_wp2_with fail
            refine bodyPost_ret (v := .agg #[.slice P p.length pk, .slice (some ⟨g, 0, none⟩) (ys.length + 1) cap]) (by simp [results, Try.results76, go_sem, l0, l2]) rfl ?_
            exact ⟨P, pk, p, (some ⟨g, 0, none⟩), cap, (ys ++ [x1]), (by rw [HL.out]), hp4, by rw [HL.out]; omega, HPP.out, HFN.out.1, (by rw [HL.out]; exact HFN.out.2.1), HFN.out.2.2.1⟩
          · have f1 := (M5.alloc (Obj.cells #[Value.int .i64 x1] 3)).cells.2
            go_simp
            refine hK.out _ _ (trivial) (fun hHeld => ?_)
            clear hK K
            try simp only [Act.put, List.setIfInBounds_toArray, List.set_cons_zero, List.set_cons_succ, List.getElem_toArray, List.getElem_cons_succ, List.getElem_cons_zero]
            refine wpAnyH_ready (rs := [1]) (by kernel_rfl) (by simp) ?_
            refine AllReadyH.cons (o := _) rfl (fun K hK => ?_) AllReadyH.nil
            go_simp
            refine hK.out _ _ (trivial) (fun hHeld => ?_)
            clear hK K
            try simp only [Act.put, List.setIfInBounds_toArray, List.set_cons_zero, List.set_cons_succ, List.getElem_toArray, List.getElem_cons_succ, List.getElem_cons_zero]
            refine wpAnyH_ready (rs := [5]) (by kernel_rfl) (by simp) ?_
            refine AllReadyH.cons (o := _) rfl (fun K hK => ?_) AllReadyH.nil
            refine step_append_lies _ (by rfl) _ _ _ (by rfl) (G + 1) 3 i0 (.int .i64 0) 1 8 Try.underlying24 hi hz0 hz1 hz2 rfl (by decide) (Value.slice J ys.length k) ys.length _ (by rfl) (M5.alloc (Obj.cells #[Value.int .i64 x1] 3)).ownJ ⟨w5.heap.size, 0, none⟩ 1 1 [.int .i64 x1] (by rfl) (by rfl) (cell_one_new _ _ _) (by intro u hu; simp at hu; subst hu; rfl) (by omega) (by unfold maxLen; omega) (by omega) (by have := obj_lt M5.og; simp; omega) (w5.heap.size + 1) (by simp) ?_
            intro g cap w9 hown9 hgrow9 hlies9 hglt9
            obtain ⟨A2, c2, hA2, f7, u7, KM⟩ := NearSt.push (x := x1) (lit := Obj.cells #[Value.int .i64 x1] 3) M5 rfl hown9 hgrow9
            injection hA2 with hA2 _ hc2
            subst hA2 hc2
            refine hK.out _ _ (trivial) (fun hHeld => ?_)
            clear hK K
            try simp only [Act.put, List.setIfInBounds_toArray, List.set_cons_zero, List.set_cons_succ, List.getElem_toArray, List.getElem_cons_succ, List.getElem_cons_zero]
            refine wpAnyH_take (i := 6) (oi := _) (v := ?_) rfl (by kernel_rfl) (by kernel_rfl) (by kernel_rfl) (fun _ _ _ h => h) (Or.inl ⟨by rfl, ?_⟩) (by assumption) ?_
            rotate_left
            · intro w hSw
              try dsimp only at hSw
              go_simp
              all_goals with_reducible rfl
            try simp only [Act.put, List.setIfInBounds_toArray, List.set_cons_zero, List.set_cons_succ, List.getElem_toArray, List.getElem_cons_succ, List.getElem_cons_zero]
            refine wpAnyH_ready (rs := [7]) (by kernel_rfl) (by simp) ?_
            refine AllReadyH.cons (o := _) rfl (fun K hK => ?_) AllReadyH.nil
            go_simp
            refine hK.out _ _ (trivial) (fun hHeld => ?_)
            clear hK K
            try simp only [Act.put, List.setIfInBounds_toArray, List.set_cons_zero, List.set_cons_succ, List.getElem_toArray, List.getElem_cons_succ, List.getElem_cons_zero]
            refine wpAnyH_done (by kernel_rfl) ?_ _
            have HL := Lib.hid (show (ys ++ [x1]).length = ys.length + 1 by simp)
            have KM2 : NearSt w (w9.setCell ⟨G, 1, none⟩ (.slice (some ⟨g, 0, none⟩) (ys.length + 1) cap)) q G w.heap.size A c bs P pk p (some ⟨g, 0, none⟩) cap (ys ++ [x1]) := KM.out
            clear f7 u7 KM M5 f1 hown9 hgrow9 M0
            generalize w9.setCell ⟨G, 1, none⟩ (.slice (some ⟨g, 0, none⟩) (ys.length + 1) cap) = wq at KM2 ⊢
            have HFN := Lib.hid KM2.fin
            rw [HL.out] at HFN
            have g0 := KM2.cells.1
            have g1 := KM2.cells.2
            rw [HL.out] at g1
            have t0 := (obj_cell (i := 0) KM2.ob).trans rfl
            have t1 := (obj_cell (i := 1) KM2.ob).trans rfl
            have u0 := obj_frozen (i := 0) KM2.ob
            have u1 := obj_frozen (i := 1) KM2.ob
            have l0 := (obj_cell (i := 0) HFN.out.2.2.2).trans rfl
            have l2 := (obj_cell (i := 1) HFN.out.2.2.2).trans rfl
            go_wp2_with fail
            refine bodyPost_ret (v := .agg #[.slice P p.length pk, .slice (some ⟨g, 0, none⟩) (ys.length + 1) cap]) (by simp [results, Try.results76, go_sem, l0, l2]) rfl ?_
            exact ⟨P, pk, p, (some ⟨g, 0, none⟩), cap, (ys ++ [x1]), (by rw [HL.out]), hp4, by rw [HL.out]; omega, HPP.out, HFN.out.1, (by rw [HL.out]; exact HFN.out.2.1), HFN.out.2.2.1⟩
set_option maxHeartbeats 2000000 in
theorem drawMeshOf (A : Option Addr) (c : Nat) (bs : List Int) (w : World) (h : InY w A c bs) :
    Calls Try.prog 10 #[.slice A bs.length c] w (fun en w' => ∃ (P : Option Addr) (pk : Nat) (p : List Int) (J : Option Addr) (k : Nat) (ys : List Int), en = .returned (.agg #[.slice P p.length pk, .slice J ys.length k]) ∧
      p.length ≤ 4 ∧ ys.length ≤ 4 ∧ InN w' P pk p J k ys ∧ Below w.heap.size w w') := by
  have hb0 := (Below.refl w.heap.size w).alloc (Nat.le_refl _) (Obj.cells #[Value.slice none 0 0, Value.slice none 0 0] 32)
  have ob := obj_new w (Obj.cells #[Value.slice none 0 0, Value.slice none 0 0] 32)
  have HC := Lib.hid (l1New_any A c bs _ h.len (h.next hb0).rd)
  go_enter Try.func10, Try.ntmps10
  go_wp2_with fail
  (with_reducible refine HC.out.mono ?_)
  rintro e w1 ⟨q, rfl, hq, hc, hb⟩
  have ob := obj_below ob hb (by simp)
  have hb0 := hb0.trans (hb.mono hb0.size)
  have hq0 : w.heap.size < q := by simp at hq; omega
  have HE := Lib.hid (l8Draw_any w1 q A c bs hc)
  clear HC hb hq
  go_wp2_with fail
  (with_reducible refine HE.out.mono ?_)
  rintro e w3 ⟨P, pk, p, S, k, rs, rfl, hp4, hr4, hpp, hoP, hoR, k3⟩
  have hq1 := hc.lt
  have ob := obj_below ob (k3.below (B := q) (Nat.le_refl _) (Nat.le_of_lt hq1)) hq0
  have hb0 := hb0.trans (k3.below (by omega) hb0.size)
  have t0 := (obj_cell (i := 0) ob).trans rfl
  have t1 := (obj_cell (i := 1) ob).trans rfl
  have u0 := obj_frozen (i := 0) ob
  have u1 := obj_frozen (i := 1) ob
  have o1 := obj_set (i := 0) ob (Value.slice P p.length pk)
  have o2 := obj_set (i := 1) o1 (Value.slice S rs.length k)
  have l0 := (obj_cell (i := 0) o2).trans rfl
  have l1 := (obj_cell (i := 1) o2).trans rfl
  have hP := In.of_own (own_boxed (i := 1) (u := Value.slice S rs.length k) (own_boxed (i := 0) (u := Value.slice P p.length pk) hoP ob (by decide)) o1 (by decide)) (by omega)
  have hR := In.of_own (own_boxed (i := 1) (u := Value.slice S rs.length k) (own_boxed (i := 0) (u := Value.slice P p.length pk) hoR ob (by decide)) o1 (by decide)) (by omega)
  have hb9 := (hb0.setCell (p := ⟨w.heap.size, 0, none⟩) (Nat.le_refl _) (Value.slice P p.length pk)).setCell (p := ⟨w.heap.size, 1, none⟩) (Nat.le_refl _) (Value.slice S rs.length k)
  clear HE k3 o1 o2 ob hoP hoR hpp
  go_wp2_with fail
  refine bodyPost_ret (v := .agg #[.slice P p.length pk, .slice S rs.length k]) (by simp [results, Try.results10, go_sem, l0, l1]) rfl ?_
  exact ⟨P, pk, p, S, k, rs, rfl, hp4, hr4, ⟨hP, hR⟩, hb9⟩
end Go.Proofs.Ythipikllgpnlhaa

/- CanShade, program and reference. -/
namespace Go.Proofs.Ythipikllgpnlhaa
set_option maxRecDepth 100000
open Go Go.RowKit

theorem shB_congr {X Y : List (List Int)} (h : ∀ s, s ∈ X ↔ s ∈ Y) (x y : Int) : shB X x y = shB Y x y := by
  unfold shB
  rw [Bool.eq_iff_iff, List.any_eq_true, List.any_eq_true]
  constructor
  · rintro ⟨s, hs, e⟩; exact ⟨s, (h s).1 hs, e⟩
  · rintro ⟨s, hs, e⟩; exact ⟨s, (h s).2 hs, e⟩
theorem cntM_congr {X Y : List (List Int)} (h : ∀ s, s ∈ X ↔ s ∈ Y) (p q : List Int) : cntM p q X = cntM p q Y := by
  unfold cntM
  congr 1
  apply List.filter_congr
  intro l _
  unfold freeB freeTo
  congr 1
  funext i
  unfold freeAt
  rw [shB_congr h]
theorem shB_mem (X : List (List Int)) (x y : Int) : shB X x y = decide ([x, y] ∈ X) := by
  unfold shB
  rw [Bool.eq_iff_iff, List.any_eq_true, decide_eq_true_eq]
  constructor
  · rintro ⟨s, hs, e⟩; rw [← of_decide_eq_true e]; exact hs
  · intro h; exact ⟨_, h, decide_eq_true rfl⟩

def inBox (n : Nat) (x y : Int) : Bool := decide (0 ≤ x ∧ x ≤ n ∧ 0 ≤ y ∧ y ≤ n)
def canAt (xs : List Int) (X Y : List (List Int)) (p : List Int) : Bool := decide (0 < cntM p xs X) == decide (0 < cntM p xs Y)
def canN (xs : List Int) (X Y : List (List Int)) (n : Nat) : Bool := (permsL n).all (canAt xs X Y)
def canTo (xs : List Int) (X Y : List (List Int)) (n : Nat) : Bool := (List.range n).all (canN xs X Y)
def csB (xs : List Int) (X : List (List Int)) (x y : Int) : Bool := meshB xs X && inBox xs.length x y && !shB X x y && canTo xs X (X ++ [[x, y]]) 6
theorem canTo_succ (xs : List Int) (X Y : List (List Int)) (n : Nat) : canTo xs X Y (n + 1) = (canTo xs X Y n && canN xs X Y n) := by simp [canTo, List.range_succ]
theorem canTo_false {xs : List Int} {X Y : List (List Int)} {n m : Nat} (h : n < m) (h1 : canN xs X Y n = false) : canTo xs X Y m = false := by
  unfold canTo
  rw [List.all_eq_false]
  exact ⟨n, List.mem_range.2 h, by simp [h1]⟩
theorem canTo_congr {xs : List Int} {X Y Z : List (List Int)} (h : ∀ s, s ∈ Y ↔ s ∈ Z) (n : Nat) : canTo xs X Y n = canTo xs X Z n := by
  unfold canTo canN
  congr 1
  funext k
  congr 1
  funext p
  unfold canAt
  rw [cntM_congr h]
theorem sizeR_two {rs : List Row} (h : ∀ r ∈ rs, r.xs.length = 2) : sizeR rs = 2 * rs.length := by
  induction rs with
  | nil => rfl
  | cons a t ih =>
    have h1 := h a (by simp)
    have h2 := ih (fun r hr => h r (by simp [hr]))
    simp only [sizeR, List.map_cons, List.sum_cons, List.length_cons] at h2 ⊢
    omega
section
variable {w wc w4 wx : World} {A B : Option Addr} {c k base : Nat} {xs : List Int} {rs : List Row} {x y : Int} {g bl cap n : Nat}
theorem more_leaf (hown4 : w4.ownsRow base 24 1 (.slice (some ⟨g, 0, none⟩) (rs.length + 1) cap) (rs.length + 1) (rs.map Row.v ++ [Value.slice (some ⟨bl, 0, none⟩) 2 2])) (hrow4 : w4.heap[bl]? = some (.cells #[.int .i64 x, .int .i64 y] 3 (0, 0)))
    (hR : Read wc wc.heap.size rs [⟨B, k, rs.map Row.v⟩]) (hB : Below wc.heap.size wc wx)
    (hk : ∀ (q : Nat) (cs : Array Value) (t : TypeId), t ≠ 27 → w4.heap[q]? = some (.cells cs t (0, 0)) → wx.heap[q]? = some (.cells cs t (0, 0))) :
    Read wx wx.heap.size (rs ++ [(⟨some ⟨bl, 0, none⟩, 2, [x, y]⟩ : Row)]) [⟨some ⟨g, 0, none⟩, cap, (rs ++ [(⟨some ⟨bl, 0, none⟩, 2, [x, y]⟩ : Row)]).map Row.v⟩] := by
  have hrx := hk _ _ _ (by decide) hrow4
  have hox : wx.ownsRow base 24 1 (.slice (some ⟨g, 0, none⟩) (rs.length + 1) cap) (rs.length + 1) (rs.map Row.v ++ [Value.slice (some ⟨bl, 0, none⟩) 2 2]) := by
    refine ⟨hown4.1, ?_⟩
    rcases hown4.2 with ⟨e, _⟩ | ⟨g', cap', cur, hv, hg, hh, r⟩
    · cases e
    · exact .inr ⟨g', cap', cur, hv, hg, hk _ _ _ (by decide) hh, r⟩
  have he : (rs ++ [(⟨some ⟨bl, 0, none⟩, 2, [x, y]⟩ : Row)]).map Row.v = rs.map Row.v ++ [Value.slice (some ⟨bl, 0, none⟩) 2 2] := by simp [Row.v]
  refine ⟨fun r hr => ?_, fun r hr => ?_, fun o ho => ?_, fun o ho => ?_⟩
  · rcases List.mem_append.1 hr with hr | hr
    · exact hR.cap r hr
    · obtain rfl := List.mem_singleton.1 hr
      exact Nat.le_refl _
  · rcases List.mem_append.1 hr with hr | hr
    · exact ((hR.rd r hr).below hB).more hB.size
    · obtain rfl := List.mem_singleton.1 hr
      refine fun _ => ⟨bl, 0, rfl, obj_lt hrx, fun j hj => ?_⟩
      rw [Nat.zero_add, obj_cell hrx]
      match j, hj with
      | 0, _ => rfl
      | 1, _ => rfl
  · obtain rfl := List.mem_singleton.1 ho
    have := (own_caps hox).1
    simpa using this
  · obtain rfl := List.mem_singleton.1 ho
    have hl : (rs.map Row.v ++ [Value.slice (some ⟨bl, 0, none⟩) 2 2]).length = rs.length + 1 := by simp
    have := Rd.of_own (f := id) (xs := rs.map Row.v ++ [Value.slice (some ⟨bl, 0, none⟩) 2 2]) (e := 24) (c := cap) (A := some ⟨g, 0, none⟩) (by rw [List.map_id, hl]; exact hox)
    simp only [he]
    exact this
/-- What CanShade's second mesh is, behind the statement that makes it. -/
def MoreAt (w : World) (A B : Option Addr) (c k : Nat) (xs : List Int) (rs : List Row) (x y : Int) (s7 : Value) (wx : World) : Prop :=
  ∃ (g : Nat) (A' : Option Addr) (c' : Nat) (ms : List Row), s7 = .pointer (some ⟨g, 0, none⟩) ∧ wx.heap[g]? = some (Obj.cells #[Value.slice A xs.length c, Value.slice A' ms.length c'] 27) ∧ (∀ s, s ∈ ms.map Row.xs ↔ s ∈ rs.map Row.xs ++ [[x, y]]) ∧ ms.length = rs.length + 1 ∧ Read wx wx.heap.size ms [⟨A', c', ms.map Row.v⟩] ∧ wx.heap[w.heap.size]? = some (Obj.cells #[Value.slice A xs.length c, Value.slice B rs.length k] 27) ∧ Below w.heap.size w wx
theorem leaf_alloc (hown4 : w4.ownsRow base 24 1 (.slice (some ⟨g, 0, none⟩) (rs.length + 1) cap) (rs.length + 1) (rs.map Row.v ++ [Value.slice (some ⟨bl, 0, none⟩) 2 2])) (hrow4 : w4.heap[bl]? = some (.cells #[.int .i64 x, .int .i64 y] 3 (0, 0)))
    (hR : Read wc wc.heap.size rs [⟨B, k, rs.map Row.v⟩]) (hb4 : Below wc.heap.size wc w4) (hb : Below w.heap.size w wc) (ob : wc.heap[w.heap.size]? = some (Obj.cells #[Value.slice A xs.length c, Value.slice B rs.length k] 27)) :
    MoreAt w A B c k xs rs x y (.pointer (some ⟨w4.heap.size, 0, none⟩)) (w4.alloc (Obj.cells #[Value.slice A xs.length c, Value.slice (some ⟨g, 0, none⟩) (rs.length + 1) cap] 27)) := by
  have hbx := hb4.alloc hb4.size (Obj.cells #[Value.slice A xs.length c, Value.slice (some ⟨g, 0, none⟩) (rs.length + 1) cap] 27)
  refine ⟨w4.heap.size, some ⟨g, 0, none⟩, cap, rs ++ [⟨some ⟨bl, 0, none⟩, 2, [x, y]⟩], rfl, ?_, fun s => by simp, by simp, more_leaf hown4 hrow4 hR hbx (fun q cs t _ h => obj_alloc h _), obj_alloc (obj_below ob hb4 (obj_lt ob)) _, hb.trans (hbx.mono hb.size)⟩
  rw [List.length_append]; exact obj_new _ _
theorem leaf_set {G : Nat} {z0 z1 : Value} (hz4 : w4.heap[G]? = some (.cells #[z0, z1] 27 (0, 0))) (hG : wc.heap.size ≤ G) (hown4 : w4.ownsRow base 24 1 (.slice (some ⟨g, 0, none⟩) (rs.length + 1) cap) (rs.length + 1) (rs.map Row.v ++ [Value.slice (some ⟨bl, 0, none⟩) 2 2])) (hrow4 : w4.heap[bl]? = some (.cells #[.int .i64 x, .int .i64 y] 3 (0, 0)))
    (hR : Read wc wc.heap.size rs [⟨B, k, rs.map Row.v⟩]) (hb4 : Below wc.heap.size wc w4) (hb : Below w.heap.size w wc) (ob : wc.heap[w.heap.size]? = some (Obj.cells #[Value.slice A xs.length c, Value.slice B rs.length k] 27)) :
    MoreAt w A B c k xs rs x y (.pointer (some ⟨G, 0, none⟩)) ((w4.setCell ⟨G, 0, none⟩ (Value.slice A xs.length c)).setCell ⟨G, 1, none⟩ (Value.slice (some ⟨g, 0, none⟩) (rs.length + 1) cap)) := by
  have hbx := (hb4.setCell (p := ⟨G, 0, none⟩) hG (Value.slice A xs.length c)).setCell (p := ⟨G, 1, none⟩) hG (Value.slice (some ⟨g, 0, none⟩) (rs.length + 1) cap)
  have hlt := obj_lt ob
  refine ⟨G, some ⟨g, 0, none⟩, cap, rs ++ [⟨some ⟨bl, 0, none⟩, 2, [x, y]⟩], rfl, ?_, fun s => by simp, by simp, more_leaf hown4 hrow4 hR hbx (fun q cs t ht h => ?_), obj_other (obj_other (obj_below ob hb4 hlt) (by omega) _) (by omega) _, hb.trans (hbx.mono hb.size)⟩
  · rw [List.length_append]; exact obj_set (i := 1) (obj_set (i := 0) hz4 _) _
  · have hne : G ≠ q := fun e => by
      subst e
      rw [hz4] at h
      injection h with h
      injection h with _ h2 _
      exact ht h2.symm
    exact obj_other (obj_other h hne _) hne _
end
set_option maxHeartbeats 8000000 in
theorem canShade_impl (A B : Option Addr) (c k : Nat) (xs : List Int) (rs : List Row) (x : Int) (wx : -9223372036854775808 ≤ x ∧ x ≤ 9223372036854775807) (y : Int) (wy : -9223372036854775808 ≤ y ∧ y ≤ 9223372036854775807) (w : World) (h : InM w A c xs B k rs) :
    Calls Try.prog 69 #[.agg #[.slice A xs.length c, .slice B rs.length k], .int .i64 x, .int .i64 y] w (Rb w (.bool (csB xs (rs.map Row.xs) x y))) := by
  obtain ⟨j0, hj, hy0, hy1, hy2⟩ := info_parts infoL
  go_enter Try.func69, Try.ntmps69
  have hb0 : Below w.heap.size w (w.alloc (Obj.cells #[Value.slice A xs.length c, Value.slice B rs.length k] 27)) := (Below.refl _ _).alloc (Nat.le_refl _) _
  have ob := obj_new w (Obj.cells #[Value.slice A xs.length c, Value.slice B rs.length k] 27)
  have f00 : (w.alloc (Obj.cells #[Value.slice A xs.length c, Value.slice B rs.length k] 27)).cell? ⟨w.heap.size, 0, none⟩ = some (Value.slice A xs.length c) := (obj_cell ob).trans rfl
  have f01 : (w.alloc (Obj.cells #[Value.slice A xs.length c, Value.slice B rs.length k] 27)).cell? ⟨w.heap.size, 1, none⟩ = some (Value.slice B rs.length k) := (obj_cell ob).trans rfl
  go_upto_region 1 with fail
  generalize (w.alloc (Obj.cells #[Value.slice A xs.length c, Value.slice B rs.length k] 27)) = w0 at hb0 ob f00 f01 ⊢
  go_cut [34] (fun s wq => s = .bool (!(meshB xs (rs.map Row.xs) && inBox xs.length x y && !shB (rs.map Row.xs) x y)) ∧ wq.heap[w.heap.size]? = some (Obj.cells #[Value.slice A xs.length c, Value.slice B rs.length k] 27) ∧ Below w.heap.size w wq)
  case first =>
    go_wp2_with fail
    by_cases hM : meshB xs (rs.map Row.xs) = true
    · have H1 := Lib.hid hM
      have H2 := Lib.hid (rows_two hM)
      (with_reducible refine (mesh_ib A B c k xs rs w0 true (h.next hb0) hM).mono ?_)
      rintro e w1 ⟨rfl, hb1⟩
      have ob := obj_below ob hb1 (obj_lt ob)
      have hb := hb0.trans (hb1.mono hb0.size)
      have f10 : w1.cell? ⟨w.heap.size, 0, none⟩ = some (Value.slice A xs.length c) := (obj_cell ob).trans rfl
      have f11 : w1.cell? ⟨w.heap.size, 1, none⟩ = some (Value.slice B rs.length k) := (obj_cell ob).trans rfl
      clear hM f00 f01
      by_cases hyx : y < x
      · have hxy : ¬ x < y := by omega
        by_cases h1 : y < 0
        · have d1 : decide (y < 0) = true := decide_eq_true h1
          have HI := Lib.hid (show inBox xs.length x y = false by unfold inBox; exact decide_eq_false (by omega))
          go_wp2_with fail
          go_meet
          case rel => exact ⟨by rw [H1.out, HI.out]; rfl, ob, hb⟩
        · have d1 : decide (y < 0) = false := decide_eq_false h1
          by_cases h2 : (xs.length : Int) < x
          · have d2 : decide ((xs.length : Int) < x) = true := decide_eq_true h2
            have HI := Lib.hid (show inBox xs.length x y = false by unfold inBox; exact decide_eq_false (by omega))
            go_wp2_with fail
            go_meet
            case rel => exact ⟨by rw [H1.out, HI.out]; rfl, ob, hb⟩
          · have d2 : decide ((xs.length : Int) < x) = false := decide_eq_false h2
            have HI := Lib.hid (show inBox xs.length x y = true by unfold inBox; exact decide_eq_true (by omega))
            go_wp2_with fail
            (with_reducible refine (isShaded_b A B c k xs rs x y w1 _ (h.next hb) H2.out rfl).mono ?_)
            rintro e w2 ⟨rfl, hb2⟩
            have ob := obj_below ob hb2 (obj_lt ob)
            go_wp2_with fail
            go_meet
            case rel => exact ⟨by rw [H1.out, HI.out]; simp, ob, hb.trans (hb2.mono hb.size)⟩
      · by_cases hxy : x < y
        · have hxy' := hxy
          by_cases h1 : x < 0
          · have d1 : decide (x < 0) = true := decide_eq_true h1
            have HI := Lib.hid (show inBox xs.length x y = false by unfold inBox; exact decide_eq_false (by omega))
            go_wp2_with fail
            go_meet
            case rel => exact ⟨by rw [H1.out, HI.out]; rfl, ob, hb⟩
          · have d1 : decide (x < 0) = false := decide_eq_false h1
            by_cases h2 : (xs.length : Int) < y
            · have d2 : decide ((xs.length : Int) < y) = true := decide_eq_true h2
              have HI := Lib.hid (show inBox xs.length x y = false by unfold inBox; exact decide_eq_false (by omega))
              go_wp2_with fail
              go_meet
              case rel => exact ⟨by rw [H1.out, HI.out]; rfl, ob, hb⟩
            · have d2 : decide ((xs.length : Int) < y) = false := decide_eq_false h2
              have HI := Lib.hid (show inBox xs.length x y = true by unfold inBox; exact decide_eq_true (by omega))
              go_wp2_with fail
              (with_reducible refine (isShaded_b A B c k xs rs x y w1 _ (h.next hb) H2.out rfl).mono ?_)
              rintro e w2 ⟨rfl, hb2⟩
              have ob := obj_below ob hb2 (obj_lt ob)
              go_wp2_with fail
              go_meet
              case rel => exact ⟨by rw [H1.out, HI.out]; simp, ob, hb.trans (hb2.mono hb.size)⟩
        · have hee : y = x := by omega
          subst hee
          by_cases h1 : y < 0
          · have d1 : decide (y < 0) = true := decide_eq_true h1
            have HI := Lib.hid (show inBox xs.length y y = false by unfold inBox; exact decide_eq_false (by omega))
            go_wp2_with fail
            go_meet
            case rel => exact ⟨by rw [H1.out, HI.out]; rfl, ob, hb⟩
          · have d1 : decide (y < 0) = false := decide_eq_false h1
            by_cases h2 : (xs.length : Int) < y
            · have d2 : decide ((xs.length : Int) < y) = true := decide_eq_true h2
              have HI := Lib.hid (show inBox xs.length y y = false by unfold inBox; exact decide_eq_false (by omega))
              go_wp2_with fail
              go_meet
              case rel => exact ⟨by rw [H1.out, HI.out]; rfl, ob, hb⟩
            · have d2 : decide ((xs.length : Int) < y) = false := decide_eq_false h2
              have HI := Lib.hid (show inBox xs.length y y = true by unfold inBox; exact decide_eq_true (by omega))
              go_wp2_with fail
              (with_reducible refine (isShaded_b A B c k xs rs y y w1 _ (h.next hb) H2.out rfl).mono ?_)
              rintro e w2 ⟨rfl, hb2⟩
              have ob := obj_below ob hb2 (obj_lt ob)
              go_wp2_with fail
              go_meet
              case rel => exact ⟨by rw [H1.out, HI.out]; simp, ob, hb.trans (hb2.mono hb.size)⟩
    · have hMf : meshB xs (rs.map Row.xs) = false := by simpa using hM
      have H1 := Lib.hid hMf
      (with_reducible refine (mesh_ib A B c k xs rs w0 false (h.next hb0) hMf).mono ?_)
      rintro e w1 ⟨rfl, hb1⟩
      have ob := obj_below ob hb1 (obj_lt ob)
      clear hM hMf f00 f01
      go_wp2_with fail
      go_meet
      case rel => exact ⟨by rw [H1.out]; rfl, ob, hb0.trans (hb1.mono hb0.size)⟩
  case rest =>
    obtain ⟨rfl, ob, hb⟩ := hcut
    by_cases hA : (meshB xs (rs.map Row.xs) && inBox xs.length x y && !shB (rs.map Row.xs) x y) = true
    · have HA := Lib.hid hA
      have hM : meshB xs (rs.map Row.xs) = true := by rw [Bool.and_eq_true, Bool.and_eq_true] at hA; exact hA.1.1
      have hx4 := (mesh_perm hM).2
      have HP1 := Lib.hid (mesh_perm hM).1
      have H2 := Lib.hid (rows_two hM)
      have hl25 := mesh_len hM
      rw [List.length_map] at hl25
      rw [hA]
      have HG := Lib.hid (show csB xs (rs.map Row.xs) x y = canTo xs (rs.map Row.xs) (rs.map Row.xs ++ [[x, y]]) 6 by unfold csB; rw [HA.out, Bool.true_and])
      clear hA hM
      go_upto_region 3 with fail
      have f10 : wc.cell? ⟨w.heap.size, 0, none⟩ = some (Value.slice A xs.length c) := (obj_cell ob).trans rfl
      have f11 : wc.cell? ⟨w.heap.size, 1, none⟩ = some (Value.slice B rs.length k) := (obj_cell ob).trans rfl
      have hbs := hb.size
      have hblt := obj_lt ob
      have hr0 : Rd Row.v wc wc.heap.size B rs := read_rows (h.next hb).2.read
      have hrn : rs.length ≤ 1048576 := by omega
      have KB : ∀ (v v' : World), (v.cell? ⟨w.heap.size, 0, none⟩ = some (Value.slice A xs.length c) ∧ v.cell? ⟨w.heap.size, 1, none⟩ = some (Value.slice B rs.length k) ∧ Below wc.heap.size wc v) → Below v.heap.size v v' → (v'.cell? ⟨w.heap.size, 0, none⟩ = some (Value.slice A xs.length c) ∧ v'.cell? ⟨w.heap.size, 1, none⟩ = some (Value.slice B rs.length k) ∧ Below wc.heap.size wc v') := fun v v' hv hvv => by
        have hs := hv.2.2.size
        exact ⟨(hvv.cell (p := ⟨w.heap.size, 0, none⟩) (by show w.heap.size < v.heap.size; omega)).trans hv.1, (hvv.cell (p := ⟨w.heap.size, 1, none⟩) (by show w.heap.size < v.heap.size; omega)).trans hv.2.1, hv.2.2.trans (hvv.mono hs)⟩
      have RB : ∀ (v : World), (v.cell? ⟨w.heap.size, 0, none⟩ = some (Value.slice A xs.length c) ∧ v.cell? ⟨w.heap.size, 1, none⟩ = some (Value.slice B rs.length k) ∧ Below wc.heap.size wc v) → Rd Row.v v v.heap.size B rs := fun v hv => (hr0.below hv.2.2).more hv.2.2.size
      have SB : ∀ (v : World), (v.cell? ⟨w.heap.size, 0, none⟩ = some (Value.slice A xs.length c) ∧ v.cell? ⟨w.heap.size, 1, none⟩ = some (Value.slice B rs.length k) ∧ Below wc.heap.size wc v) → wc.heap.size ≤ v.heap.size := fun v hv => hv.2.2.size
      have KG : ∀ (v v' : World) (row : Option Nat), (v.cell? ⟨w.heap.size, 0, none⟩ = some (Value.slice A xs.length c) ∧ v.cell? ⟨w.heap.size, 1, none⟩ = some (Value.slice B rs.length k) ∧ Below wc.heap.size wc v) → v.grownBy v' row → (∀ g, row = some g → wc.heap.size ≤ g) → (v'.cell? ⟨w.heap.size, 0, none⟩ = some (Value.slice A xs.length c) ∧ v'.cell? ⟨w.heap.size, 1, none⟩ = some (Value.slice B rs.length k) ∧ Below wc.heap.size wc v') := fun v v' row hv hg hr => by
        have hs := hv.2.2.size
        exact ⟨(World.cell?_of_block (a := ⟨w.heap.size, 0, none⟩) (hg.block _ (show w.heap.size < v.heap.size by omega) (fun e => by have : wc.heap.size ≤ w.heap.size := hr _ e.symm; omega))).trans hv.1, (World.cell?_of_block (a := ⟨w.heap.size, 1, none⟩) (hg.block _ (show w.heap.size < v.heap.size by omega) (fun e => by have : wc.heap.size ≤ w.heap.size := hr _ e.symm; omega))).trans hv.2.1, hv.2.2.grown hg hs hr⟩
      have KS : ∀ (v : World) (G : Nat) (a b : Value), (v.cell? ⟨w.heap.size, 0, none⟩ = some (Value.slice A xs.length c) ∧ v.cell? ⟨w.heap.size, 1, none⟩ = some (Value.slice B rs.length k) ∧ Below wc.heap.size wc v) → wc.heap.size ≤ G → (((v.setCell ⟨G, 0, none⟩ a).setCell ⟨G, 1, none⟩ b).cell? ⟨w.heap.size, 0, none⟩ = some (Value.slice A xs.length c) ∧ ((v.setCell ⟨G, 0, none⟩ a).setCell ⟨G, 1, none⟩ b).cell? ⟨w.heap.size, 1, none⟩ = some (Value.slice B rs.length k) ∧ Below wc.heap.size wc ((v.setCell ⟨G, 0, none⟩ a).setCell ⟨G, 1, none⟩ b)) := fun v G a b hv hG => by
        refine ⟨?_, ?_, (hv.2.2.setCell (p := ⟨G, 0, none⟩) hG a).setCell (p := ⟨G, 1, none⟩) hG b⟩
        · refine ((World.cell?_setCell_other _ _ _ _ (fun e => by injection e with e; omega)).trans (World.cell?_setCell_other _ _ _ _ (fun e => by injection e with e; omega))).trans hv.1
        · refine ((World.cell?_setCell_other _ _ _ _ (fun e => by injection e with e; omega)).trans (World.cell?_setCell_other _ _ _ _ (fun e => by injection e with e; omega))).trans hv.2.1
      have KSH := Lib.hid KS
      have KGH := Lib.hid KG
      have KBH := Lib.hid KB
      have RBH := Lib.hid RB
      have SBH := Lib.hid SB
      clear KB RB SB KG KS
      have hR0 := (h.next hb).2.read
      go_cut [7] (fun s7 wx => MoreAt w A B c k xs rs x y s7 wx)
      case first =>
        have hS0 : wc.drew.cell? ⟨w.heap.size, 0, none⟩ = some (Value.slice A xs.length c) ∧ wc.drew.cell? ⟨w.heap.size, 1, none⟩ = some (Value.slice B rs.length k) ∧ Below wc.heap.size wc wc.drew := ⟨f10, f11, below_dr (Below.refl _ _) (Dr.refl _).drew⟩
        go_region_held3 (fun v => v.cell? ⟨w.heap.size, 0, none⟩ = some (Value.slice A xs.length c) ∧ v.cell? ⟨w.heap.size, 1, none⟩ = some (Value.slice B rs.length k) ∧ Below wc.heap.size wc v)
          (first
            | exact hS0
            | exact hS4
            | exact KSH.out _ _ _ _ hS4 hG
            | exact KBH.out _ _ (by assumption) hbq
            | exact KBH.out _ _ (by assumption) ((Below.refl _ _).alloc (Nat.le_refl _) _))
          ((first
            | (go_at_call 117
               (with_reducible refine (cloneL_any B k rs _ hrn (RBH.out _ (by assumption))).mono ?_)
               rintro e wq ⟨A', c', rfl, ownq0, hbq⟩
               have ownq := own_mono ownq0 (SBH.out _ (by assumption))
               clear ownq0)
            | (refine step_append_liesX _ (by rfl) _ _ _ (by rfl) wc.heap.size 24 j0 (.slice none 0 0) 1 24 Try.underlying25 hj hy0 hy1 hy2 rfl (by decide) (Value.slice A' rs.length c') rs.length (rs.map Row.v) (by rfl) (by ((repeat (first | exact ownq | refine World.ownsRow.alloc ?_ _ | fail)); first | done | fail)) _ _ _ [_] (by rfl) (by rfl) (World.news_of_block (cs := #[_]) (t := 24) (fr := (0, 0)) (by ((repeat (first | exact obj_newH (by (simp; first | done | fail)) | refine obj_belowS ?_ hbq | refine obj_alloc ?_ _ | fail)); first | done | fail))) (by intro u hu; simp at hu; subst hu; rfl) (by omega) (by unfold maxLen; omega) (by omega) (by have := SBH.out _ (by assumption); omega) _ (by rfl) ?_
               intro g cap w4 hownV hown4 hgrow4 hat4 hlt4
               have hS4 := KGH.out _ _ _ (by assumption) hgrow4 (fun q hq => (hownV.lt q hq).1)
               have hrow4 := rowfact (cs := #[.int .i64 x, .int .i64 y]) (t := 3) hown4 hgrow4 hownV (by decide) (by ((repeat (first | exact obj_newH (by (simp; first | done | fail)) | refine obj_belowS ?_ hbq | refine obj_alloc ?_ _ | fail)); first | done | fail))
               try (first
                 | (have hz4 := obj_grownT (G := wc.heap.size) (cs := #[.slice none 0 0, .slice none 0 0]) (t := 27) (by ((repeat (first | exact obj_newH (by (simp; first | done | fail)) | refine obj_belowS ?_ hbq | refine obj_alloc ?_ _ | fail)); first | done | fail)) hownV (by decide) hgrow4; have hG : wc.heap.size ≤ wc.heap.size := by (first | omega | (have h1 := hbq.size; simp at h1 ⊢; omega)))
                 | (have hz4 := obj_grownT (G := wc.heap.size + 1) (cs := #[.slice none 0 0, .slice none 0 0]) (t := 27) (by ((repeat (first | exact obj_newH (by (simp; first | done | fail)) | refine obj_belowS ?_ hbq | refine obj_alloc ?_ _ | fail)); first | done | fail)) hownV (by decide) hgrow4; have hG : wc.heap.size ≤ wc.heap.size + 1 := by (first | omega | (have h1 := hbq.size; simp at h1 ⊢; omega)))
                 | (have hz4 := obj_grownT (G := wc.heap.size + 2) (cs := #[.slice none 0 0, .slice none 0 0]) (t := 27) (by ((repeat (first | exact obj_newH (by (simp; first | done | fail)) | refine obj_belowS ?_ hbq | refine obj_alloc ?_ _ | fail)); first | done | fail)) hownV (by decide) hgrow4; have hG : wc.heap.size ≤ wc.heap.size + 2 := by (first | omega | (have h1 := hbq.size; simp at h1 ⊢; omega)))
                 | (have hz4 := obj_grownT (G := wq.heap.size) (cs := #[.slice none 0 0, .slice none 0 0]) (t := 27) (by ((repeat (first | exact obj_newH (by (simp; first | done | fail)) | refine obj_belowS ?_ hbq | refine obj_alloc ?_ _ | fail)); first | done | fail)) hownV (by decide) hgrow4; have hG : wc.heap.size ≤ wq.heap.size := by (first | omega | (have h1 := hbq.size; simp at h1 ⊢; omega)))
                 | (have hz4 := obj_grownT (G := wq.heap.size + 1) (cs := #[.slice none 0 0, .slice none 0 0]) (t := 27) (by ((repeat (first | exact obj_newH (by (simp; first | done | fail)) | refine obj_belowS ?_ hbq | refine obj_alloc ?_ _ | fail)); first | done | fail)) hownV (by decide) hgrow4; have hG : wc.heap.size ≤ wq.heap.size + 1 := by (first | omega | (have h1 := hbq.size; simp at h1 ⊢; omega)))
                 | (have hz4 := obj_grownT (G := wq.heap.size + 2) (cs := #[.slice none 0 0, .slice none 0 0]) (t := 27) (by ((repeat (first | exact obj_newH (by (simp; first | done | fail)) | refine obj_belowS ?_ hbq | refine obj_alloc ?_ _ | fail)); first | done | fail)) hownV (by decide) hgrow4; have hG : wc.heap.size ≤ wq.heap.size + 2 := by (first | omega | (have h1 := hbq.size; simp at h1 ⊢; omega)))
                 | fail)
               try (have cz0 := obj_cell (i := 0) hz4; have cz1 := obj_cell (i := 1) hz4; have fz0 := obj_frozen (i := 0) hz4; have fz1 := obj_frozen (i := 1) hz4))
            | fail))
        all_goals
          go_wp2_with fail
          go_meet
          case rel => first | exact leaf_alloc hown4 hrow4 hR0 hS4.2.2 hb ob | exact leaf_set hz4 hG hown4 hrow4 hR0 hS4.2.2 hb ob
      case rest =>
        obtain ⟨g1, A', c', ms, rfl, ob1, hms, hml, hRm, ob, hb⟩ := hcut
        have HMS := Lib.hid hms
        have H2m := Lib.hid (show ∀ r ∈ ms, r.xs.length = 2 from fun r hr => by
          rcases List.mem_append.1 ((hms _).1 (List.mem_map.2 ⟨r, hr, rfl⟩)) with h1 | h1
          · obtain ⟨q, hq, he⟩ := List.mem_map.1 h1
            rw [← he]; exact H2.out q hq
          · rw [List.mem_singleton.1 h1]; rfl)
        have hM0 := h.next hb
        have hM1 : InM wc A c xs A' c' ms := ⟨hM0.1, ⟨by rw [sizeR_two H2m.out]; omega, hRm⟩⟩
        have HCN := Lib.hid (fun p => cntM_congr (X := ms.map Row.xs) hms p xs)
        clear hms hRm hml
        go_wp2_with fail
        go_loopw [46] (fun i wr => ∃ n : Nat, n ≤ 6 ∧ i = .int .i64 n ∧ Hid (canTo xs (rs.map Row.xs) (rs.map Row.xs ++ [[x, y]]) n = true) ∧ wr.heap[w.heap.size]? = some (Obj.cells #[Value.slice A xs.length c, Value.slice B rs.length k] 27) ∧ wr.heap[g1]? = some (Obj.cells #[Value.slice A xs.length c, Value.slice A' ms.length c'] 27) ∧ Below wc.heap.size wc wr) (fun i _ => 6 - (intOf i).toNat)
        case atStart => exact ⟨0, Nat.zero_le _, rfl, Lib.hid rfl, ob, ob1, Below.refl _ _⟩
        case round =>
          clear ob ob1
          obtain ⟨n, hn, rfl, HT, ob, ob1, hbr⟩ := hrel
          rcases Nat.lt_or_ge n 6 with hlt | hge
          · have hn6 : n ≤ 6 := hn
            have HCS := Lib.hid (canTo_succ xs (rs.map Row.xs) (rs.map Row.xs ++ [[x, y]]) n)
            go_wp2_with fail
            (with_reducible refine (perms_impl n wr hn6).mono ?_)
            rintro e w1 ⟨A1, c1, ps, rfl, hX, hO, hb1⟩
            have ob := obj_below ob hb1 (obj_lt ob)
            have ob1 := obj_below ob1 hb1 (obj_lt ob1)
            have hbw := hbr.trans (hb1.mono hbr.size)
            have hRp := hO.read
            have hpl : ps.length ≤ 46656 := by have h1 := permsL_le hn6; rw [← hX, List.length_map] at h1; exact h1
            have HX := Lib.hid hX
            clear hX hO hb1
            go_wp2_with fail
            go_loopw [52] (fun i wr => ∃ j : Nat, j ≤ ps.length ∧ i = .int .i64 j ∧ Hid ((ps.take j).all (fun r : Row => canAt xs (rs.map Row.xs) (rs.map Row.xs ++ [[x, y]]) r.xs) = true) ∧ wr.heap[w.heap.size]? = some (Obj.cells #[Value.slice A xs.length c, Value.slice B rs.length k] 27) ∧ wr.heap[g1]? = some (Obj.cells #[Value.slice A xs.length c, Value.slice A' ms.length c'] 27) ∧ Below w1.heap.size w1 wr) (fun i _ => ps.length - (intOf i).toNat)
            case atStart => exact ⟨0, Nat.zero_le _, rfl, Lib.hid rfl, ob, ob1, Below.refl _ _⟩
            case round =>
              clear ob ob1
              obtain ⟨j, hj, rfl, HJ, ob, ob1, hbj⟩ := hrel
              rcases Nat.lt_or_ge j ps.length with hjl | hjg
              · have hRp2 := hRp.below hbj
                obtain ⟨bp, op, rfl, _, hcp⟩ := hRp2.at (by omega)
                have cp := hcp j hjl
                have hpm := map_memX HX.out (List.getElem_mem hjl)
                have hp8 : ps[j].xs.length ≤ 8 := by have := (permsI_mem hpm).1; omega
                have hbd : Below wr.heap.size wr wr.drew := below_dr (Below.refl _ _) (Dr.refl _).drew
                have hbD := (hbw.trans (hbj.mono hbw.size))
                have hin := row_in ((hRp2.dr (w' := wr.drew) (Dr.refl _).drew)) (List.getElem_mem hjl) (by omega) hbj.size
                have hM0d := hM0.next (hbD.trans (hbd.mono hbD.size))
                have hM1d := hM1.next (hbD.trans (hbd.mono hbD.size))
                have HALL := Lib.hid (show ∀ b : Bool, canAt xs (rs.map Row.xs) (rs.map Row.xs ++ [[x, y]]) ps[j].xs = b → (ps.take (j + 1)).all (fun r : Row => canAt xs (rs.map Row.xs) (rs.map Row.xs ++ [[x, y]]) r.xs) = b from fun b hb => by rw [List.take_succ_eq_append_getElem hjl, List.all_append, HJ.out, ← hb]; simp)
                have HCA := Lib.hid (show canAt xs (rs.map Row.xs) (rs.map Row.xs ++ [[x, y]]) ps[j].xs = (decide (0 < cntM ps[j].xs xs (rs.map Row.xs)) == decide (0 < cntM ps[j].xs xs (ms.map Row.xs))) by unfold canAt; rw [HCN.out])
                clear hcp hpm
                go_upto_region 10 with fail
                go_cut [64] (fun s wq => s = .bool (!canAt xs (rs.map Row.xs) (rs.map Row.xs ++ [[x, y]]) ps[j].xs) ∧ wq.heap[w.heap.size]? = some (Obj.cells #[Value.slice A xs.length c, Value.slice B rs.length k] 27) ∧ wq.heap[g1]? = some (Obj.cells #[Value.slice A xs.length c, Value.slice A' ms.length c'] 27) ∧ Below wr.heap.size wr wq)
                case first =>
                  have ob0d : wr.drew.heap[w.heap.size]? = some (Obj.cells #[Value.slice A xs.length c, Value.slice B rs.length k] 27) := ob
                  have ob1d : wr.drew.heap[g1]? = some (Obj.cells #[Value.slice A xs.length c, Value.slice A' ms.length c'] 27) := ob1
                  have d00 : wr.drew.cell? ⟨w.heap.size, 0, none⟩ = some (Value.slice A xs.length c) := (obj_cell ob0d).trans rfl
                  have d01 : wr.drew.cell? ⟨w.heap.size, 1, none⟩ = some (Value.slice B rs.length k) := (obj_cell ob0d).trans rfl
                  have d10 : wr.drew.cell? ⟨g1, 0, none⟩ = some (Value.slice A xs.length c) := (obj_cell ob1d).trans rfl
                  have d11 : wr.drew.cell? ⟨g1, 1, none⟩ = some (Value.slice A' ms.length c') := (obj_cell ob1d).trans rfl
                  have hx8 : xs.length ≤ 8 := by omega
                  by_cases ha : 0 < cntM ps[j].xs xs (rs.map Row.xs)
                  · have ea : decide (0 < cntM ps[j].xs xs (rs.map Row.xs)) = true := decide_eq_true ha
                    have ea' : decide (((cntM ps[j].xs xs (rs.map Row.xs) : Nat) : Int) > 0) = true := decide_eq_true (by omega)
                    by_cases hb' : 0 < cntM ps[j].xs xs (ms.map Row.xs)
                    · have eb : decide (0 < cntM ps[j].xs xs (ms.map Row.xs)) = true := decide_eq_true hb'
                      have eb' : decide (((cntM ps[j].xs xs (ms.map Row.xs) : Nat) : Int) > 0) = true := decide_eq_true (by omega)
                      have HCB := Lib.hid (show canAt xs (rs.map Row.xs) ((rs.map Row.xs) ++ [[x, y]]) ps[j].xs = true by rw [HCA.out, ea, eb]; rfl)
                      clear ha hb'
                      go_region_held3 (fun v => v.cell? ⟨w.heap.size, 0, none⟩ = some (Value.slice A xs.length c) ∧ v.cell? ⟨w.heap.size, 1, none⟩ = some (Value.slice B rs.length k) ∧ v.cell? ⟨g1, 0, none⟩ = some (Value.slice A xs.length c) ∧ v.cell? ⟨g1, 1, none⟩ = some (Value.slice A' ms.length c')) (first | exact ⟨d00, d01, d10, d11⟩ | exact ⟨e00, e01, e10, e11⟩ | exact ⟨f00, f01, f10, f11⟩) ((first | (go_at_call 75; (with_reducible refine (count_impl A B c k xs rs ps[j].A ps[j].c ps[j].xs wr.drew hM0d H2.out hin hp8 hx8).mono ?_); rintro e w2 ⟨rfl, hb2⟩; have ob02 := obj_below ob0d hb2 (obj_lt ob0d); have ob12 := obj_below ob1d hb2 (obj_lt ob1d); have e00 : w2.cell? ⟨w.heap.size, 0, none⟩ = some (Value.slice A xs.length c) := (obj_cell ob02).trans rfl; have e01 : w2.cell? ⟨w.heap.size, 1, none⟩ = some (Value.slice B rs.length k) := (obj_cell ob02).trans rfl; have e10 : w2.cell? ⟨g1, 0, none⟩ = some (Value.slice A xs.length c) := (obj_cell ob12).trans rfl; have e11 : w2.cell? ⟨g1, 1, none⟩ = some (Value.slice A' ms.length c') := (obj_cell ob12).trans rfl) | (go_at_call 75; (with_reducible refine (count_impl A A' c c' xs ms ps[j].A ps[j].c ps[j].xs wr.drew hM1d H2m.out hin hp8 hx8).mono ?_); rintro e w2 ⟨rfl, hb2⟩; have ob02 := obj_below ob0d hb2 (obj_lt ob0d); have ob12 := obj_below ob1d hb2 (obj_lt ob1d); have e00 : w2.cell? ⟨w.heap.size, 0, none⟩ = some (Value.slice A xs.length c) := (obj_cell ob02).trans rfl; have e01 : w2.cell? ⟨w.heap.size, 1, none⟩ = some (Value.slice B rs.length k) := (obj_cell ob02).trans rfl; have e10 : w2.cell? ⟨g1, 0, none⟩ = some (Value.slice A xs.length c) := (obj_cell ob12).trans rfl; have e11 : w2.cell? ⟨g1, 1, none⟩ = some (Value.slice A' ms.length c') := (obj_cell ob12).trans rfl) | (go_at_call 75; (with_reducible refine (count_impl A B c k xs rs ps[j].A ps[j].c ps[j].xs w2 (hM0d.next hb2) H2.out (hin.next hb2) hp8 hx8).mono ?_); rintro e w3 ⟨rfl, hb3⟩; have ob03 := obj_below ob02 hb3 (obj_lt ob02); have ob13 := obj_below ob12 hb3 (obj_lt ob12); have f00 : w3.cell? ⟨w.heap.size, 0, none⟩ = some (Value.slice A xs.length c) := (obj_cell ob03).trans rfl; have f01 : w3.cell? ⟨w.heap.size, 1, none⟩ = some (Value.slice B rs.length k) := (obj_cell ob03).trans rfl; have f10 : w3.cell? ⟨g1, 0, none⟩ = some (Value.slice A xs.length c) := (obj_cell ob13).trans rfl; have f11 : w3.cell? ⟨g1, 1, none⟩ = some (Value.slice A' ms.length c') := (obj_cell ob13).trans rfl) | (go_at_call 75; (with_reducible refine (count_impl A A' c c' xs ms ps[j].A ps[j].c ps[j].xs w2 (hM1d.next hb2) H2m.out (hin.next hb2) hp8 hx8).mono ?_); rintro e w3 ⟨rfl, hb3⟩; have ob03 := obj_below ob02 hb3 (obj_lt ob02); have ob13 := obj_below ob12 hb3 (obj_lt ob12); have f00 : w3.cell? ⟨w.heap.size, 0, none⟩ = some (Value.slice A xs.length c) := (obj_cell ob03).trans rfl; have f01 : w3.cell? ⟨w.heap.size, 1, none⟩ = some (Value.slice B rs.length k) := (obj_cell ob03).trans rfl; have f10 : w3.cell? ⟨g1, 0, none⟩ = some (Value.slice A xs.length c) := (obj_cell ob13).trans rfl; have f11 : w3.cell? ⟨g1, 1, none⟩ = some (Value.slice A' ms.length c') := (obj_cell ob13).trans rfl) | fail))
                      all_goals
                        go_wp2_with fail
                        go_meet
                        case rel => exact ⟨by rw [HCB.out]; rfl, ob03, ob13, (hbd.trans (hb2.mono hbd.size)).trans (hb3.mono (hbd.trans (hb2.mono hbd.size)).size)⟩
                    · have eb : decide (0 < cntM ps[j].xs xs (ms.map Row.xs)) = false := decide_eq_false hb'
                      have eb' : decide (((cntM ps[j].xs xs (ms.map Row.xs) : Nat) : Int) > 0) = false := decide_eq_false (by omega)
                      have HCB := Lib.hid (show canAt xs (rs.map Row.xs) ((rs.map Row.xs) ++ [[x, y]]) ps[j].xs = false by rw [HCA.out, ea, eb]; rfl)
                      clear ha hb'
                      go_region_held3 (fun v => v.cell? ⟨w.heap.size, 0, none⟩ = some (Value.slice A xs.length c) ∧ v.cell? ⟨w.heap.size, 1, none⟩ = some (Value.slice B rs.length k) ∧ v.cell? ⟨g1, 0, none⟩ = some (Value.slice A xs.length c) ∧ v.cell? ⟨g1, 1, none⟩ = some (Value.slice A' ms.length c')) (first | exact ⟨d00, d01, d10, d11⟩ | exact ⟨e00, e01, e10, e11⟩ | exact ⟨f00, f01, f10, f11⟩) ((first | (go_at_call 75; (with_reducible refine (count_impl A B c k xs rs ps[j].A ps[j].c ps[j].xs wr.drew hM0d H2.out hin hp8 hx8).mono ?_); rintro e w2 ⟨rfl, hb2⟩; have ob02 := obj_below ob0d hb2 (obj_lt ob0d); have ob12 := obj_below ob1d hb2 (obj_lt ob1d); have e00 : w2.cell? ⟨w.heap.size, 0, none⟩ = some (Value.slice A xs.length c) := (obj_cell ob02).trans rfl; have e01 : w2.cell? ⟨w.heap.size, 1, none⟩ = some (Value.slice B rs.length k) := (obj_cell ob02).trans rfl; have e10 : w2.cell? ⟨g1, 0, none⟩ = some (Value.slice A xs.length c) := (obj_cell ob12).trans rfl; have e11 : w2.cell? ⟨g1, 1, none⟩ = some (Value.slice A' ms.length c') := (obj_cell ob12).trans rfl) | (go_at_call 75; (with_reducible refine (count_impl A A' c c' xs ms ps[j].A ps[j].c ps[j].xs wr.drew hM1d H2m.out hin hp8 hx8).mono ?_); rintro e w2 ⟨rfl, hb2⟩; have ob02 := obj_below ob0d hb2 (obj_lt ob0d); have ob12 := obj_below ob1d hb2 (obj_lt ob1d); have e00 : w2.cell? ⟨w.heap.size, 0, none⟩ = some (Value.slice A xs.length c) := (obj_cell ob02).trans rfl; have e01 : w2.cell? ⟨w.heap.size, 1, none⟩ = some (Value.slice B rs.length k) := (obj_cell ob02).trans rfl; have e10 : w2.cell? ⟨g1, 0, none⟩ = some (Value.slice A xs.length c) := (obj_cell ob12).trans rfl; have e11 : w2.cell? ⟨g1, 1, none⟩ = some (Value.slice A' ms.length c') := (obj_cell ob12).trans rfl) | (go_at_call 75; (with_reducible refine (count_impl A B c k xs rs ps[j].A ps[j].c ps[j].xs w2 (hM0d.next hb2) H2.out (hin.next hb2) hp8 hx8).mono ?_); rintro e w3 ⟨rfl, hb3⟩; have ob03 := obj_below ob02 hb3 (obj_lt ob02); have ob13 := obj_below ob12 hb3 (obj_lt ob12); have f00 : w3.cell? ⟨w.heap.size, 0, none⟩ = some (Value.slice A xs.length c) := (obj_cell ob03).trans rfl; have f01 : w3.cell? ⟨w.heap.size, 1, none⟩ = some (Value.slice B rs.length k) := (obj_cell ob03).trans rfl; have f10 : w3.cell? ⟨g1, 0, none⟩ = some (Value.slice A xs.length c) := (obj_cell ob13).trans rfl; have f11 : w3.cell? ⟨g1, 1, none⟩ = some (Value.slice A' ms.length c') := (obj_cell ob13).trans rfl) | (go_at_call 75; (with_reducible refine (count_impl A A' c c' xs ms ps[j].A ps[j].c ps[j].xs w2 (hM1d.next hb2) H2m.out (hin.next hb2) hp8 hx8).mono ?_); rintro e w3 ⟨rfl, hb3⟩; have ob03 := obj_below ob02 hb3 (obj_lt ob02); have ob13 := obj_below ob12 hb3 (obj_lt ob12); have f00 : w3.cell? ⟨w.heap.size, 0, none⟩ = some (Value.slice A xs.length c) := (obj_cell ob03).trans rfl; have f01 : w3.cell? ⟨w.heap.size, 1, none⟩ = some (Value.slice B rs.length k) := (obj_cell ob03).trans rfl; have f10 : w3.cell? ⟨g1, 0, none⟩ = some (Value.slice A xs.length c) := (obj_cell ob13).trans rfl; have f11 : w3.cell? ⟨g1, 1, none⟩ = some (Value.slice A' ms.length c') := (obj_cell ob13).trans rfl) | fail))
                      all_goals
                        go_wp2_with fail
                        go_meet
                        case rel => exact ⟨by rw [HCB.out]; rfl, ob03, ob13, (hbd.trans (hb2.mono hbd.size)).trans (hb3.mono (hbd.trans (hb2.mono hbd.size)).size)⟩
                  · have ea : decide (0 < cntM ps[j].xs xs (rs.map Row.xs)) = false := decide_eq_false ha
                    have ea' : decide (((cntM ps[j].xs xs (rs.map Row.xs) : Nat) : Int) > 0) = false := decide_eq_false (by omega)
                    by_cases hb' : 0 < cntM ps[j].xs xs (ms.map Row.xs)
                    · have eb : decide (0 < cntM ps[j].xs xs (ms.map Row.xs)) = true := decide_eq_true hb'
                      have eb' : decide (((cntM ps[j].xs xs (ms.map Row.xs) : Nat) : Int) > 0) = true := decide_eq_true (by omega)
                      have HCB := Lib.hid (show canAt xs (rs.map Row.xs) ((rs.map Row.xs) ++ [[x, y]]) ps[j].xs = false by rw [HCA.out, ea, eb]; rfl)
                      clear ha hb'
                      go_region_held3 (fun v => v.cell? ⟨w.heap.size, 0, none⟩ = some (Value.slice A xs.length c) ∧ v.cell? ⟨w.heap.size, 1, none⟩ = some (Value.slice B rs.length k) ∧ v.cell? ⟨g1, 0, none⟩ = some (Value.slice A xs.length c) ∧ v.cell? ⟨g1, 1, none⟩ = some (Value.slice A' ms.length c')) (first | exact ⟨d00, d01, d10, d11⟩ | exact ⟨e00, e01, e10, e11⟩ | exact ⟨f00, f01, f10, f11⟩) ((first | (go_at_call 75; (with_reducible refine (count_impl A B c k xs rs ps[j].A ps[j].c ps[j].xs wr.drew hM0d H2.out hin hp8 hx8).mono ?_); rintro e w2 ⟨rfl, hb2⟩; have ob02 := obj_below ob0d hb2 (obj_lt ob0d); have ob12 := obj_below ob1d hb2 (obj_lt ob1d); have e00 : w2.cell? ⟨w.heap.size, 0, none⟩ = some (Value.slice A xs.length c) := (obj_cell ob02).trans rfl; have e01 : w2.cell? ⟨w.heap.size, 1, none⟩ = some (Value.slice B rs.length k) := (obj_cell ob02).trans rfl; have e10 : w2.cell? ⟨g1, 0, none⟩ = some (Value.slice A xs.length c) := (obj_cell ob12).trans rfl; have e11 : w2.cell? ⟨g1, 1, none⟩ = some (Value.slice A' ms.length c') := (obj_cell ob12).trans rfl) | (go_at_call 75; (with_reducible refine (count_impl A A' c c' xs ms ps[j].A ps[j].c ps[j].xs wr.drew hM1d H2m.out hin hp8 hx8).mono ?_); rintro e w2 ⟨rfl, hb2⟩; have ob02 := obj_below ob0d hb2 (obj_lt ob0d); have ob12 := obj_below ob1d hb2 (obj_lt ob1d); have e00 : w2.cell? ⟨w.heap.size, 0, none⟩ = some (Value.slice A xs.length c) := (obj_cell ob02).trans rfl; have e01 : w2.cell? ⟨w.heap.size, 1, none⟩ = some (Value.slice B rs.length k) := (obj_cell ob02).trans rfl; have e10 : w2.cell? ⟨g1, 0, none⟩ = some (Value.slice A xs.length c) := (obj_cell ob12).trans rfl; have e11 : w2.cell? ⟨g1, 1, none⟩ = some (Value.slice A' ms.length c') := (obj_cell ob12).trans rfl) | (go_at_call 75; (with_reducible refine (count_impl A B c k xs rs ps[j].A ps[j].c ps[j].xs w2 (hM0d.next hb2) H2.out (hin.next hb2) hp8 hx8).mono ?_); rintro e w3 ⟨rfl, hb3⟩; have ob03 := obj_below ob02 hb3 (obj_lt ob02); have ob13 := obj_below ob12 hb3 (obj_lt ob12); have f00 : w3.cell? ⟨w.heap.size, 0, none⟩ = some (Value.slice A xs.length c) := (obj_cell ob03).trans rfl; have f01 : w3.cell? ⟨w.heap.size, 1, none⟩ = some (Value.slice B rs.length k) := (obj_cell ob03).trans rfl; have f10 : w3.cell? ⟨g1, 0, none⟩ = some (Value.slice A xs.length c) := (obj_cell ob13).trans rfl; have f11 : w3.cell? ⟨g1, 1, none⟩ = some (Value.slice A' ms.length c') := (obj_cell ob13).trans rfl) | (go_at_call 75; (with_reducible refine (count_impl A A' c c' xs ms ps[j].A ps[j].c ps[j].xs w2 (hM1d.next hb2) H2m.out (hin.next hb2) hp8 hx8).mono ?_); rintro e w3 ⟨rfl, hb3⟩; have ob03 := obj_below ob02 hb3 (obj_lt ob02); have ob13 := obj_below ob12 hb3 (obj_lt ob12); have f00 : w3.cell? ⟨w.heap.size, 0, none⟩ = some (Value.slice A xs.length c) := (obj_cell ob03).trans rfl; have f01 : w3.cell? ⟨w.heap.size, 1, none⟩ = some (Value.slice B rs.length k) := (obj_cell ob03).trans rfl; have f10 : w3.cell? ⟨g1, 0, none⟩ = some (Value.slice A xs.length c) := (obj_cell ob13).trans rfl; have f11 : w3.cell? ⟨g1, 1, none⟩ = some (Value.slice A' ms.length c') := (obj_cell ob13).trans rfl) | fail))
                      all_goals
                        go_wp2_with fail
                        go_meet
                        case rel => exact ⟨by rw [HCB.out]; rfl, ob03, ob13, (hbd.trans (hb2.mono hbd.size)).trans (hb3.mono (hbd.trans (hb2.mono hbd.size)).size)⟩
                    · have eb : decide (0 < cntM ps[j].xs xs (ms.map Row.xs)) = false := decide_eq_false hb'
                      have eb' : decide (((cntM ps[j].xs xs (ms.map Row.xs) : Nat) : Int) > 0) = false := decide_eq_false (by omega)
                      have HCB := Lib.hid (show canAt xs (rs.map Row.xs) ((rs.map Row.xs) ++ [[x, y]]) ps[j].xs = true by rw [HCA.out, ea, eb]; rfl)
                      clear ha hb'
                      go_region_held3 (fun v => v.cell? ⟨w.heap.size, 0, none⟩ = some (Value.slice A xs.length c) ∧ v.cell? ⟨w.heap.size, 1, none⟩ = some (Value.slice B rs.length k) ∧ v.cell? ⟨g1, 0, none⟩ = some (Value.slice A xs.length c) ∧ v.cell? ⟨g1, 1, none⟩ = some (Value.slice A' ms.length c')) (first | exact ⟨d00, d01, d10, d11⟩ | exact ⟨e00, e01, e10, e11⟩ | exact ⟨f00, f01, f10, f11⟩) ((first | (go_at_call 75; (with_reducible refine (count_impl A B c k xs rs ps[j].A ps[j].c ps[j].xs wr.drew hM0d H2.out hin hp8 hx8).mono ?_); rintro e w2 ⟨rfl, hb2⟩; have ob02 := obj_below ob0d hb2 (obj_lt ob0d); have ob12 := obj_below ob1d hb2 (obj_lt ob1d); have e00 : w2.cell? ⟨w.heap.size, 0, none⟩ = some (Value.slice A xs.length c) := (obj_cell ob02).trans rfl; have e01 : w2.cell? ⟨w.heap.size, 1, none⟩ = some (Value.slice B rs.length k) := (obj_cell ob02).trans rfl; have e10 : w2.cell? ⟨g1, 0, none⟩ = some (Value.slice A xs.length c) := (obj_cell ob12).trans rfl; have e11 : w2.cell? ⟨g1, 1, none⟩ = some (Value.slice A' ms.length c') := (obj_cell ob12).trans rfl) | (go_at_call 75; (with_reducible refine (count_impl A A' c c' xs ms ps[j].A ps[j].c ps[j].xs wr.drew hM1d H2m.out hin hp8 hx8).mono ?_); rintro e w2 ⟨rfl, hb2⟩; have ob02 := obj_below ob0d hb2 (obj_lt ob0d); have ob12 := obj_below ob1d hb2 (obj_lt ob1d); have e00 : w2.cell? ⟨w.heap.size, 0, none⟩ = some (Value.slice A xs.length c) := (obj_cell ob02).trans rfl; have e01 : w2.cell? ⟨w.heap.size, 1, none⟩ = some (Value.slice B rs.length k) := (obj_cell ob02).trans rfl; have e10 : w2.cell? ⟨g1, 0, none⟩ = some (Value.slice A xs.length c) := (obj_cell ob12).trans rfl; have e11 : w2.cell? ⟨g1, 1, none⟩ = some (Value.slice A' ms.length c') := (obj_cell ob12).trans rfl) | (go_at_call 75; (with_reducible refine (count_impl A B c k xs rs ps[j].A ps[j].c ps[j].xs w2 (hM0d.next hb2) H2.out (hin.next hb2) hp8 hx8).mono ?_); rintro e w3 ⟨rfl, hb3⟩; have ob03 := obj_below ob02 hb3 (obj_lt ob02); have ob13 := obj_below ob12 hb3 (obj_lt ob12); have f00 : w3.cell? ⟨w.heap.size, 0, none⟩ = some (Value.slice A xs.length c) := (obj_cell ob03).trans rfl; have f01 : w3.cell? ⟨w.heap.size, 1, none⟩ = some (Value.slice B rs.length k) := (obj_cell ob03).trans rfl; have f10 : w3.cell? ⟨g1, 0, none⟩ = some (Value.slice A xs.length c) := (obj_cell ob13).trans rfl; have f11 : w3.cell? ⟨g1, 1, none⟩ = some (Value.slice A' ms.length c') := (obj_cell ob13).trans rfl) | (go_at_call 75; (with_reducible refine (count_impl A A' c c' xs ms ps[j].A ps[j].c ps[j].xs w2 (hM1d.next hb2) H2m.out (hin.next hb2) hp8 hx8).mono ?_); rintro e w3 ⟨rfl, hb3⟩; have ob03 := obj_below ob02 hb3 (obj_lt ob02); have ob13 := obj_below ob12 hb3 (obj_lt ob12); have f00 : w3.cell? ⟨w.heap.size, 0, none⟩ = some (Value.slice A xs.length c) := (obj_cell ob03).trans rfl; have f01 : w3.cell? ⟨w.heap.size, 1, none⟩ = some (Value.slice B rs.length k) := (obj_cell ob03).trans rfl; have f10 : w3.cell? ⟨g1, 0, none⟩ = some (Value.slice A xs.length c) := (obj_cell ob13).trans rfl; have f11 : w3.cell? ⟨g1, 1, none⟩ = some (Value.slice A' ms.length c') := (obj_cell ob13).trans rfl) | fail))
                      all_goals
                        go_wp2_with fail
                        go_meet
                        case rel => exact ⟨by rw [HCB.out]; rfl, ob03, ob13, (hbd.trans (hb2.mono hbd.size)).trans (hb3.mono (hbd.trans (hb2.mono hbd.size)).size)⟩
                case rest =>
                  obtain ⟨rfl, ob, ob1, hbq⟩ := hcut
                  have hbj2 := hbj.trans (hbq.mono hbj.size)
                  by_cases hca : canAt xs (rs.map Row.xs) (rs.map Row.xs ++ [[x, y]]) ps[j].xs = true
                  · have HJ2 := Lib.hid (HALL.out true hca)
                    rw [hca]
                    clear hca
                    go_wp2_with fail
                    go_roundw
                    case rel => exact ⟨j + 1, by omega, by go_num, HJ2, ob, ob1, hbj2⟩
                    case measure => simp [intOf]; omega
                  · have hcaf : canAt xs (rs.map Row.xs) (rs.map Row.xs ++ [[x, y]]) ps[j].xs = false := by simpa using hca
                    have HF := Lib.hid (show canTo xs (rs.map Row.xs) (rs.map Row.xs ++ [[x, y]]) 6 = false from canTo_false hlt (by
                      unfold canN
                      rw [← HX.out, List.all_map, List.all_eq_false]
                      exact ⟨ps[j], List.getElem_mem hjl, by simp [hcaf]⟩))
                    rw [hcaf]
                    clear hca hcaf
                    go_wp2_with fail
                    go_ret
                    exact ⟨ret_bool (by rw [HG.out, HF.out]), (hb.trans (hbw.mono hb.size)).trans (hbj2.mono (by have h1 := hb.size; have h2 := hbw.size; omega))⟩
              · obtain rfl : j = ps.length := by omega
                have HN := Lib.hid (show canTo xs (rs.map Row.xs) (rs.map Row.xs ++ [[x, y]]) (n + 1) = true by
                  rw [HCS.out, HT.out, Bool.true_and]
                  unfold canN
                  have h1 := HJ.out
                  rw [List.take_length] at h1
                  rw [← HX.out, List.all_map]; exact h1)
                have hb2 := hbw.trans (hbj.mono hbw.size)
                go_wp2_with fail
                go_roundw
                case rel => exact ⟨n + 1, by omega, by go_num, HN, ob, ob1, hb2⟩
                case measure => simp [intOf]; omega
          · obtain rfl : n = 6 := by omega
            go_wp2_with fail
            go_ret
            exact ⟨ret_bool (by rw [HG.out, HT.out]), hb.trans (hbr.mono hb.size)⟩
    · have hAf : (meshB xs (rs.map Row.xs) && inBox xs.length x y && !shB (rs.map Row.xs) x y) = false := by simpa using hA
      have HG := Lib.hid (show csB xs (rs.map Row.xs) x y = false by unfold csB; rw [hAf, Bool.false_and])
      rw [hAf]
      clear hA hAf
      go_wp2_with fail
      go_ret
      exact ⟨ret_bool HG.out.symm, hb⟩
end Go.Proofs.Ythipikllgpnlhaa

/- slices.CompactFunc of a list of rows: of equal neighbors the first one is kept. -/
namespace Go.Proofs.Ythipikllgpnlhaa
set_option maxRecDepth 100000
open Go Go.RowKit

theorem compL_snoc (L : List (List Int)) (x y : List Int) : compL (L ++ [x] ++ [y]) = if x = y then compL (L ++ [x]) else compL (L ++ [x]) ++ [y] := by
  match L with
  | [] =>
    simp only [List.nil_append, List.cons_append, compL]
    by_cases h : x = y <;> simp [h]
  | [a] =>
    simp only [List.cons_append, List.nil_append, compL]
    by_cases h1 : a = x
    · by_cases h : x = y <;> simp [h1, h]
    · by_cases h : x = y <;> simp [h1, h]
  | a :: b :: t =>
    have ih := compL_snoc (b :: t) x y
    simp only [List.cons_append, compL] at ih ⊢
    by_cases h1 : a = b
    · rw [if_pos h1, if_pos h1]; exact ih
    · rw [if_neg h1, if_neg h1, ih]
      by_cases h : x = y
      · rw [if_pos h, if_pos h]
      · rw [if_neg h, if_neg h]; rfl
theorem compL_take (X : List (List Int)) (k : Nat) (h0 : 0 < k) (h : k < X.length) : compL (X.take (k + 1)) = if X[k - 1]'(by omega) = X[k] then compL (X.take k) else compL (X.take k) ++ [X[k]] := by
  have e1 : X.take k = X.take (k - 1) ++ [X[k - 1]'(by omega)] := by
    have := List.take_succ_eq_append_getElem (l := X) (i := k - 1) (by omega)
    rwa [Nat.sub_add_cancel h0] at this
  rw [List.take_succ_eq_append_getElem h, e1]
  exact compL_snoc _ _ _
section
variable {w w' : World} {base e g k n cap j : Nat} {V : List Value}
theorem own_beyond (h : w.ownsRow base e 1 (.slice (some ⟨g, 0, none⟩) k cap) k V) (hj : k ≤ j) (u : Value) : (w.setCell ⟨g, j, none⟩ u).ownsRow base e 1 (.slice (some ⟨g, 0, none⟩) k cap) k V := by
  refine ⟨h.1, ?_⟩
  rcases h.2 with ⟨e, _⟩ | ⟨g', cap', cur, hv, hb, hh, h1, h2, h3, h4⟩
  · cases e
  · injection hv with hv _ hc
    injection hv with hv
    injection hv with hv _ _
    subst hv hc
    refine .inr ⟨g, cap, cur.setIfInBounds j u, rfl, hb, obj_set hh u, h1, h2, by simpa using h3, ?_⟩
    rw [← h4, Array.toList_setIfInBounds, Nat.mul_one, List.take_set_of_le hj]
theorem grown_set (w : World) (g j : Nat) (u : Value) : w.grownBy (w.setCell ⟨g, j, none⟩ u) (some g) :=
  ⟨rfl, rfl, rfl, by simp [World.setCell], fun k _ hk => by
    simp only [World.setCell, Array.getElem?_modify]
    rw [if_neg (fun h => hk (by rw [h]))]⟩
theorem own_sets (vs : List Value) : ∀ (o : Nat) (w : World), w.ownsRow base e 1 (.slice (some ⟨g, 0, none⟩) k cap) k V → k ≤ o → (w.setCells g o vs).ownsRow base e 1 (.slice (some ⟨g, 0, none⟩) k cap) k V ∧ w.grownBy (w.setCells g o vs) (some g) := by
  induction vs with
  | nil => intro o w h _; exact ⟨h, World.grownBy.refl w _⟩
  | cons a t ih =>
    intro o w h ho
    obtain ⟨h1, h2⟩ := ih (o + 1) (w.setCell ⟨g, o, none⟩ a) (own_beyond h ho a) (by omega)
    exact ⟨h1, grown_trans (grown_set w g o a) h2⟩
theorem own_set_at (h : w.ownsRow base e 1 (.slice (some ⟨g, 0, none⟩) n cap) n V) (hj : j < n) (u : Value) : (w.setCell ⟨g, j, none⟩ u).ownsRow base e 1 (.slice (some ⟨g, 0, none⟩) n cap) n (V.set j u) := by
  exact (h.stored j u).1
end
end Go.Proofs.Ythipikllgpnlhaa
