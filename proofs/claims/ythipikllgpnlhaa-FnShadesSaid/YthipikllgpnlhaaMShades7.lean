/- Several texts in one, each with its own head: D6, G4, G5. No program of ours. -/
import Derived.Deep.RegionHeld3
import Derived.Test.YthipikllgpnlhaaMShades6
/- DrawCanShade: a mesh of one or two numbers with at most one shaded box. Written by gen/gend6.py. -/
namespace Go.Proofs.Ythipikllgpnlhaa
set_option maxRecDepth 100000
open Go Go.RowKit

theorem sizeR_2s {rs : List Row} (h : ∀ r ∈ rs, r.xs.length = 2) : sizeR rs = 2 * rs.length := by
  induction rs with
  | nil => rfl
  | cons r t ih =>
    have h1 := ih fun s hs => h s (List.mem_cons_of_mem _ hs)
    have h2 := h r List.mem_cons_self
    simp only [sizeR, List.map_cons, List.sum_cons, List.length_cons] at h1 ⊢
    omega
theorem own_two {w : World} {lo bl : Nat} {x y : Int} (h : w.heap[bl]? = some (Obj.cells #[.int .i64 x, .int .i64 y] 3 (0, 0))) (hl : lo ≤ bl) : w.ownsRow lo 3 1 (.slice (some ⟨bl, 0, none⟩) [x, y].length 2) [x, y].length ([x, y].map (Value.int .i64)) :=
  ⟨rfl, .inr ⟨bl, 2, #[.int .i64 x, .int .i64 y], rfl, hl, h, Nat.le_refl _, by unfold maxLen; omega, rfl, rfl⟩⟩
set_option maxHeartbeats 4000000 in
theorem drawCanShade (A : Option Addr) (c : Nat) (bs : List Int) (w : World) (h : InY w A c bs) :
    Calls Try.prog 68 #[.slice A bs.length c] w (fun en w' => ∃ (P : Option Addr) (pk : Nat) (p : List Int) (S : Option Addr) (k : Nat) (rs : List Row) (x y : Int), en = .returned (.tuple #[.agg #[.slice P p.length pk, .slice S rs.length k], .int .i64 x, .int .i64 y]) ∧
      p.length ≤ 2 ∧ rs.length ≤ 1 ∧ (∀ r ∈ rs, r.xs.length = 2) ∧ -1 ≤ x ∧ x ≤ 3 ∧ 0 ≤ y ∧ y ≤ 2 ∧ InM w' P pk p S k rs ∧ Below w.heap.size w w') := by
  obtain ⟨i0, hi, hz0, hz1, hz2⟩ := info_parts infoI
  obtain ⟨j0, hj, hy0, hy1, hy2⟩ := info_parts infoL
  have hb0 := (Below.refl w.heap.size w).alloc (Nat.le_refl _) (Obj.cells #[Value.slice none 0 0, Value.slice none 0 0] 27)
  have ob := obj_new w (Obj.cells #[Value.slice none 0 0, Value.slice none 0 0] 27)
  have HC := Lib.hid (l1New_any A c bs _ h.len (h.next hb0).rd)
  go_enter Try.func68, Try.ntmps68
  go_wp2_with fail
  (with_reducible refine HC.out.mono ?_)
  rintro e w1 ⟨q, rfl, hq, hc, hb⟩
  have ob := obj_below ob hb (by simp)
  have hb0 := hb0.trans (hb.mono hb0.size)
  have hq0 : w.heap.size < q := by simp at hq; omega
  have HD := Lib.hid (l1Below_any w1 q A c bs 2 (by omega) hc)
  clear HC hb hq
  go_wp2_with fail
  (with_reducible refine HD.out.mono ?_)
  rintro e w2 ⟨x, rfl, hx, k1⟩
  obtain ⟨n, rfl⟩ := Int.eq_ofNat_of_zero_le hx.1
  have hn2 : n < 2 := by have := hx.2.1 (by omega); omega
  obtain ⟨m, hm⟩ : ∃ m, m = n + 1 := ⟨_, rfl⟩
  have e1 : IntKind.i64.wrap (1 + (n : Int)) = (m : Int) := by rw [IntWalk.i64_in _ (by omega)]; omega
  have hm2 : m ≤ 2 := by omega
  have HE := Lib.hid (l2Draw_any w2 q A c bs m (by omega) k1.cur)
  have hq1 := hc.lt
  clear HD hx hm
  go_wp2_with fail
  (with_reducible refine HE.out.mono ?_)
  rintro e w3 ⟨P, pk, p, rfl, hp, ho, k3⟩
  have hpl := Lib.hid (show p.length ≤ 2 by rw [hp.length_eq, upToL_length]; omega)
  have k3 := k1.trans k3
  have hq3 : q < w3.heap.size := k3.cur.lt
  have ob := obj_below ob (k3.below (B := q) (Nat.le_refl _) (Nat.le_of_lt hq1)) hq0
  have hb0 := hb0.trans (k3.below (by omega) hb0.size)
  have kA := k3.next (((Below.refl w3.heap.size w3).alloc (Nat.le_refl _) (Obj.cells #[Value.slice P p.length pk, Value.slice none 0 0] 27)).mono k3.span.size) hq1
  clear HE hp e1
  have og := obj_new w3 (Obj.cells #[Value.slice P p.length pk, Value.slice none 0 0] 27)
  have ob := obj_alloc ob (Obj.cells #[Value.slice P p.length pk, Value.slice none 0 0] 27)
  have hb0 := hb0.alloc hb0.size (Obj.cells #[Value.slice P p.length pk, Value.slice none 0 0] 27)
  have hoL : ∀ g, (Value.slice P p.length pk).ownBlock = some g → g < w3.heap.size := fun g hg => (ho.lt g hg).2
  have ho := ho.alloc (Obj.cells #[Value.slice P p.length pk, Value.slice none 0 0] 27)
  have hszA : (w3.alloc (Obj.cells #[Value.slice P p.length pk, Value.slice none 0 0] 27)).heap.size = w3.heap.size + 1 := by simp
  obtain ⟨G, hG⟩ : ∃ G, G = w3.heap.size := ⟨_, rfl⟩
  rw [← hG] at og hoL hszA hq3
  have HGG := Lib.hid hG
  have hwG : w1.heap.size ≤ G := by have := k3.span.size; omega
  have HO := Lib.hid (l1Once_any _ q A c bs 3 (by omega) kA.cur)
  have hq2 : q < w2.heap.size := by have := k1.span.size; omega
  clear k3
  go_wp2_with fail
  (with_reducible refine HO.out.mono ?_)
  rintro e w4 ⟨b, rfl, kb⟩
  have HSZ := Lib.hid hszA
  have hGA : G < (w3.alloc (Obj.cells #[Value.slice P p.length pk, Value.slice none 0 0] 27)).heap.size := by omega
  have og := (kb.span.block G hGA (.inr (by omega))).trans og
  have ob := (kb.span.block w.heap.size (obj_lt ob) (.inl (by omega))).trans ob
  have ho := own_drawn ho kb hq2
  have hb0 := hb0.trans (kb.below (by omega) hb0.size)
  have kd := kA.trans kb
  have hG4 : G < w4.heap.size := obj_lt og
  have hqw : w1.heap.size ≤ w4.heap.size := kd.span.size
  clear HO kA kb k1 hszA hGA hG
  rw [← HGG.out]
  go_upto_if 16 with (fail)
  go_cut [] from 17 to 26 (fun wz => Hid (∃ (S : Option Addr) (k : Nat) (rs : List Row), wz.heap[G]? = some (Obj.cells #[Value.slice P p.length pk, Value.slice S rs.length k] 27) ∧ wz.heap[w.heap.size]? = some (Obj.cells #[Value.slice none 0 0, Value.slice none 0 0] 27) ∧ Own wz (G + 1) wz.heap.size rs [⟨S, k, rs.map Row.v⟩] ∧ rs.length ≤ 1 ∧ (∀ r ∈ rs, r.xs.length = 2) ∧
    wz.ownsRow w2.heap.size 3 1 (.slice P p.length pk) p.length (p.map (Value.int .i64)) ∧ Drawn w1 wz q A c bs ∧ Below w.heap.size w wz))
  case first =>
    rcases b with _ | _
    · go_wp2_with fail
      go_meet
      case rel => exact Lib.hid ⟨none, 0, [], og, ob, Own.nil_list _ _ _, by simp, by simp, ho, kd, hb0⟩
    · have og0 := og
      have kd0 := kd.dr (Dr.refl w4).drew
      have ho0 := (Dr.refl w4).drew.own ho
      have hb00 := below_dr hb0 (Dr.refl w4).drew
      have og : w4.drew.heap[G]? = some (Obj.cells #[Value.slice P p.length pk, Value.slice none 0 0] 27) := og
      have ob : w4.drew.heap[w.heap.size]? = some (Obj.cells #[Value.slice none 0 0, Value.slice none 0 0] 27) := ob
      have fG : w4.drew.cell? ⟨G, 1, none⟩ = some (Value.slice none 0 0) := (obj_cell og).trans rfl
      have hG4d : G < w4.drew.heap.size := hG4
      clear og0 ho hb0 kd
      go_wp2_with fail
      refine wp_region_held_drew (S := (fun _ => True)) (by kernel_rfl) trivial (fun hHeld => ?_)
      refine wpAnyH_take (i := 0) (oi := _) (v := ?_) rfl (by kernel_rfl) (by kernel_rfl) (by kernel_rfl) (fun _ _ _ h => h) (Or.inl ⟨by rfl, ?_⟩) (by assumption) ?_
      rotate_left
      · intro w hSw
        try dsimp only at hSw
        go_simp
        all_goals with_reducible rfl
      try simp only [Act.put, List.setIfInBounds_toArray, List.set_cons_zero, List.set_cons_succ, List.getElem_toArray, List.getElem_cons_succ, List.getElem_cons_zero]
      refine wpAnyH_take (i := 2) (oi := _) (v := ?_) rfl (by kernel_rfl) (by kernel_rfl) (by kernel_rfl) (fun _ _ _ h => h) (Or.inl ⟨by rfl, ?_⟩) (by assumption) ?_
      rotate_left
      · intro w hSw
        try dsimp only at hSw
        go_simp
        all_goals with_reducible rfl
      try simp only [Act.put, List.setIfInBounds_toArray, List.set_cons_zero, List.set_cons_succ, List.getElem_toArray, List.getElem_cons_succ, List.getElem_cons_zero]
      refine wpAnyH_take (i := 4) (oi := _) (v := ?_) rfl (by kernel_rfl) (by kernel_rfl) (by kernel_rfl) (fun _ _ _ h => h) (Or.inl ⟨by rfl, ?_⟩) (by assumption) ?_
      rotate_left
      · intro w hSw
        try dsimp only at hSw
        go_simp
        all_goals with_reducible rfl
      try simp only [Act.put, List.setIfInBounds_toArray, List.set_cons_zero, List.set_cons_succ, List.getElem_toArray, List.getElem_cons_succ, List.getElem_cons_zero]
      refine wpAnyH_ready (rs := [1, 3]) (by kernel_rfl) (by simp) ?_
      refine AllReadyH.cons (o := _) rfl (fun K hK => ?_) (AllReadyH.cons (o := _) rfl (fun K hK => ?_) AllReadyH.nil)
      · go_simp
        refine hK.out _ _ (trivial) (fun hHeld => ?_)
        clear hK K
        try simp only [Act.put, List.setIfInBounds_toArray, List.set_cons_zero, List.set_cons_succ, List.getElem_toArray, List.getElem_cons_succ, List.getElem_cons_zero]
        refine wpAnyH_ready (rs := [3]) (by kernel_rfl) (by simp) ?_
        refine AllReadyH.cons (o := _) rfl (fun K hK => ?_) AllReadyH.nil
        go_simp
        refine Calls.mono (l1Below_any _ q A c bs 2 (by omega) kd0.cur) ?_
        rintro e w5 ⟨x1, rfl, hx1, ka⟩
        have kd5 := kd0.trans ka
        have og := (ka.span.block G hG4d (.inr (by omega))).trans og
        have ob := (ka.span.block w.heap.size (obj_lt ob) (.inl (by omega))).trans ob
        have ho5 := own_drawn ho0 ka hq2
        have hb5 := hb00.trans (ka.below (by omega) hb00.size)
        have hG5 : G < w5.heap.size := obj_lt og
        have fG : w5.cell? ⟨G, 1, none⟩ = some (Value.slice none 0 0) := (obj_cell og).trans rfl
        clear ka hx1
        go_wp2_with fail
        refine hK.out _ _ (trivial) (fun hHeld => ?_)
        clear hK K
        try simp only [Act.put, List.setIfInBounds_toArray, List.set_cons_zero, List.set_cons_succ, List.getElem_toArray, List.getElem_cons_succ, List.getElem_cons_zero]
        refine wpAnyH_ready (rs := [5]) (by kernel_rfl) (by simp) ?_
        refine AllReadyH.cons (o := _) rfl (fun K hK => ?_) AllReadyH.nil
        go_simp
        refine Calls.mono (l1Below_any _ q A c bs 2 (by omega) kd5.cur) ?_
        rintro e w6 ⟨y1, rfl, hx1, ka⟩
        have kd6 := kd5.trans ka
        have og := (ka.span.block G hG5 (.inr (by omega))).trans og
        have ob := (ka.span.block w.heap.size (obj_lt ob) (.inl (by omega))).trans ob
        have ho6 := own_drawn ho5 ka hq2
        have hb6 := hb5.trans (ka.below (by omega) hb5.size)
        have hG6 : G < w6.heap.size := obj_lt og
        have fG : w6.cell? ⟨G, 1, none⟩ = some (Value.slice none 0 0) := (obj_cell og).trans rfl
        clear ka hx1
        go_wp2_with fail
        refine hK.out _ _ (trivial) (fun hHeld => ?_)
        clear hK K
        try simp only [Act.put, List.setIfInBounds_toArray, List.set_cons_zero, List.set_cons_succ, List.getElem_toArray, List.getElem_cons_succ, List.getElem_cons_zero]
        refine wpAnyH_ready (rs := [6]) (by kernel_rfl) (by simp) ?_
        refine AllReadyH.cons (o := _) rfl (fun K hK => ?_) AllReadyH.nil
        have og := obj_alloc og (Obj.cells #[Value.int .i64 x1, Value.int .i64 y1] 3)
        have ob := obj_alloc ob (Obj.cells #[Value.int .i64 x1, Value.int .i64 y1] 3)
        have fG : (w6.alloc (Obj.cells #[Value.int .i64 x1, Value.int .i64 y1] 3)).cell? ⟨G, 1, none⟩ = some (Value.slice none 0 0) := (obj_cell og).trans rfl
        go_simp
        refine hK.out _ _ (trivial) (fun hHeld => ?_)
        clear hK K
        try simp only [Act.put, List.setIfInBounds_toArray, List.set_cons_zero, List.set_cons_succ, List.getElem_toArray, List.getElem_cons_succ, List.getElem_cons_zero]
        refine wpAnyH_ready (rs := [7]) (by kernel_rfl) (by simp) ?_
        refine AllReadyH.cons (o := _) rfl (fun K hK => ?_) AllReadyH.nil
        have og := obj_alloc og (Obj.cells #[Value.slice (some ⟨w6.heap.size, 0, none⟩) 2 2] 24)
        have ob := obj_alloc ob (Obj.cells #[Value.slice (some ⟨w6.heap.size, 0, none⟩) 2 2] 24)
        have fG : ((w6.alloc (Obj.cells #[Value.int .i64 x1, Value.int .i64 y1] 3)).alloc (Obj.cells #[Value.slice (some ⟨w6.heap.size, 0, none⟩) 2 2] 24)).cell? ⟨G, 1, none⟩ = some (Value.slice none 0 0) := (obj_cell og).trans rfl
        go_simp
        refine hK.out _ _ (trivial) (fun hHeld => ?_)
        clear hK K
        try simp only [Act.put, List.setIfInBounds_toArray, List.set_cons_zero, List.set_cons_succ, List.getElem_toArray, List.getElem_cons_succ, List.getElem_cons_zero]
        refine wpAnyH_ready (rs := [8]) (by kernel_rfl) (by simp) ?_
        refine AllReadyH.cons (o := _) rfl (fun K hK => ?_) AllReadyH.nil
        refine step_append_lies _ (by rfl) _ _ _ (by rfl) (G + 1) 24 j0 (.slice none 0 0) 1 24 Try.underlying25 hj hy0 hy1 hy2 rfl (by decide) (Value.slice none 0 0) 0 [] (by rfl) ⟨rfl, .inl ⟨rfl, rfl⟩⟩ ⟨w6.heap.size + 1, 0, none⟩ 1 1 [Value.slice (some ⟨w6.heap.size, 0, none⟩) 2 2] (by rfl) (by rfl) (cell_one_at (w := w6.alloc (Obj.cells #[Value.int .i64 x1, Value.int .i64 y1] 3)) _ _ (by simp)) (by intro u hu; simp at hu; subst hu; rfl) (by omega) (by unfold maxLen; omega) (by omega) (by simp; omega) (w6.heap.size + 1 + 1) (by simp) ?_
        intro g cap w9 hown9 hgrow9 hlies9 hglt9
        have hgn := grown_trans (World.grownBy_alloc _ _ _) hgrow9
        have og := (hgrow9.block G (obj_lt og) (by intro e; cases e)).trans og
        have ob := (hgrow9.block w.heap.size (obj_lt ob) (by intro e; cases e)).trans ob
        have fG : w9.cell? ⟨G, 1, none⟩ = some (Value.slice none 0 0) := (obj_cell og).trans rfl
        have uG : w9.frozen? ⟨G, 1, none⟩ = false := obj_frozen og
        have hbr := (Below.refl w6.heap.size w6).alloc (Nat.le_refl _) (Obj.cells #[Value.int .i64 x1, Value.int .i64 y1] 3)
        have hbs := (hbr.alloc hbr.size (Obj.cells #[Value.slice (some ⟨w6.heap.size, 0, none⟩) 2 2] 24)).grown hgrow9 (by simp; omega) (by intro g hg; cases hg)
        have or9 := (hgrow9.block w6.heap.size (by simp; omega) (by intro e; cases e)).trans (obj_alloc (obj_new w6 (Obj.cells #[Value.int .i64 x1, Value.int .i64 y1] 3)) _)
        have hOwn9 : Own w9 (G + 1) w9.heap.size [⟨some ⟨w6.heap.size, 0, none⟩, 2, [x1, y1]⟩] [⟨some ⟨g, 0, none⟩, cap, [Value.slice (some ⟨w6.heap.size, 0, none⟩) 2 2]⟩] := (Own.one (own_two or9 hG6) (Nat.le_refl _)).with_ hown9 (Nat.le_refl _)
        have ho9 := own_below ho6 hbs
        have kd9 := kd6.next (hbs.mono (by have := kd6.span.size; omega)) hq1
        have hb9 := hb6.trans (hbs.mono hb6.size)
        refine hK.out _ _ (trivial) (fun hHeld => ?_)
        clear hK K
        try simp only [Act.put, List.setIfInBounds_toArray, List.set_cons_zero, List.set_cons_succ, List.getElem_toArray, List.getElem_cons_succ, List.getElem_cons_zero]
        refine wpAnyH_take (i := 9) (oi := _) (v := ?_) rfl (by kernel_rfl) (by kernel_rfl) (by kernel_rfl) (fun _ _ _ h => h) (Or.inl ⟨by rfl, ?_⟩) (by assumption) ?_
        rotate_left
        · intro w hSw
          try dsimp only at hSw
          go_simp
          all_goals with_reducible rfl
        try simp only [Act.put, List.setIfInBounds_toArray, List.set_cons_zero, List.set_cons_succ, List.getElem_toArray, List.getElem_cons_succ, List.getElem_cons_zero]
        refine wpAnyH_ready (rs := [10]) (by kernel_rfl) (by simp) ?_
        refine AllReadyH.cons (o := _) rfl (fun K hK => ?_) AllReadyH.nil
        go_simp
        refine hK.out _ _ (trivial) (fun hHeld => ?_)
        clear hK K
        try simp only [Act.put, List.setIfInBounds_toArray, List.set_cons_zero, List.set_cons_succ, List.getElem_toArray, List.getElem_cons_succ, List.getElem_cons_zero]
        refine wpAnyH_done (by kernel_rfl) ?_ _
        have hsp : Span G (G + 1) w9 (w9.setCell ⟨G, 1, none⟩ (Value.slice (some ⟨g, 0, none⟩) (0 + 1) cap)) := Span.set (p := ⟨G, 1, none⟩) (Nat.le_refl _) (Nat.lt_succ_self _) _
        have HK := Lib.hid (show w9.setCell ⟨G, 1, none⟩ (Value.slice (some ⟨g, 0, none⟩) (0 + 1) cap) = w9.setCell ⟨G, 1, none⟩ (Value.slice (some ⟨g, 0, none⟩) 1 cap) from rfl)
        have K1 := Lib.hid (obj_set (i := 1) og (Value.slice (some ⟨g, 0, none⟩) (0 + 1) cap))
        have K2 := Lib.hid (obj_other (g' := G) (i := 1) ob (by omega) (Value.slice (some ⟨g, 0, none⟩) (0 + 1) cap))
        have K3 := Lib.hid ((hOwn9.span hsp (.inr (Nat.le_refl _))).wider (Nat.le_refl _) hsp.size)
        have K4 := Lib.hid (own_span ho9 hsp (fun g hg => .inl (hoL g hg)))
        have K5 := Lib.hid (kd9.next ((Below.refl w1.heap.size w9).setCell (p := ⟨G, 1, none⟩) hwG (Value.slice (some ⟨g, 0, none⟩) (0 + 1) cap)) hq1)
        have K6 := Lib.hid (hb9.setCell (p := ⟨G, 1, none⟩) (by show w.heap.size ≤ G; omega) (Value.slice (some ⟨g, 0, none⟩) (0 + 1) cap))
        clear og ob hOwn9 or9 ho9 hsp kd9 hb9 hgrow9 hgn hbr hbs fG uG
        go_wp2_with fail
        go_meet
        case rel => exact Lib.hid ⟨some ⟨g, 0, none⟩, cap, [⟨some ⟨w6.heap.size, 0, none⟩, 2, [x1, y1]⟩], K1.out, K2.out, K3.out, by simp, by simp, K4.out, K5.out, K6.out⟩
      · go_simp
        refine Calls.mono (l1Below_any _ q A c bs 2 (by omega) kd0.cur) ?_
        rintro e w5 ⟨x1, rfl, hx1, ka⟩
        have kd5 := kd0.trans ka
        have og := (ka.span.block G hG4d (.inr (by omega))).trans og
        have ob := (ka.span.block w.heap.size (obj_lt ob) (.inl (by omega))).trans ob
        have ho5 := own_drawn ho0 ka hq2
        have hb5 := hb00.trans (ka.below (by omega) hb00.size)
        have hG5 : G < w5.heap.size := obj_lt og
        have fG : w5.cell? ⟨G, 1, none⟩ = some (Value.slice none 0 0) := (obj_cell og).trans rfl
        clear ka hx1
        go_wp2_with fail
        refine hK.out _ _ (trivial) (fun hHeld => ?_)
        clear hK K
        try simp only [Act.put, List.setIfInBounds_toArray, List.set_cons_zero, List.set_cons_succ, List.getElem_toArray, List.getElem_cons_succ, List.getElem_cons_zero]
        refine wpAnyH_ready (rs := [1, 5]) (by kernel_rfl) (by simp) ?_
        refine AllReadyH.cons (o := _) rfl (fun K hK => ?_) (AllReadyH.cons (o := _) rfl (fun K hK => ?_) AllReadyH.nil)
        · go_simp
          refine hK.out _ _ (trivial) (fun hHeld => ?_)
          clear hK K
          try simp only [Act.put, List.setIfInBounds_toArray, List.set_cons_zero, List.set_cons_succ, List.getElem_toArray, List.getElem_cons_succ, List.getElem_cons_zero]
          refine wpAnyH_ready (rs := [5]) (by kernel_rfl) (by simp) ?_
          refine AllReadyH.cons (o := _) rfl (fun K hK => ?_) AllReadyH.nil
          go_simp
          refine Calls.mono (l1Below_any _ q A c bs 2 (by omega) kd5.cur) ?_
          rintro e w6 ⟨y1, rfl, hx1, ka⟩
          have kd6 := kd5.trans ka
          have og := (ka.span.block G hG5 (.inr (by omega))).trans og
          have ob := (ka.span.block w.heap.size (obj_lt ob) (.inl (by omega))).trans ob
          have ho6 := own_drawn ho5 ka hq2
          have hb6 := hb5.trans (ka.below (by omega) hb5.size)
          have hG6 : G < w6.heap.size := obj_lt og
          have fG : w6.cell? ⟨G, 1, none⟩ = some (Value.slice none 0 0) := (obj_cell og).trans rfl
          clear ka hx1
          go_wp2_with fail
          refine hK.out _ _ (trivial) (fun hHeld => ?_)
          clear hK K
          try simp only [Act.put, List.setIfInBounds_toArray, List.set_cons_zero, List.set_cons_succ, List.getElem_toArray, List.getElem_cons_succ, List.getElem_cons_zero]
          refine wpAnyH_ready (rs := [6]) (by kernel_rfl) (by simp) ?_
          refine AllReadyH.cons (o := _) rfl (fun K hK => ?_) AllReadyH.nil
          have og := obj_alloc og (Obj.cells #[Value.int .i64 x1, Value.int .i64 y1] 3)
          have ob := obj_alloc ob (Obj.cells #[Value.int .i64 x1, Value.int .i64 y1] 3)
          have fG : (w6.alloc (Obj.cells #[Value.int .i64 x1, Value.int .i64 y1] 3)).cell? ⟨G, 1, none⟩ = some (Value.slice none 0 0) := (obj_cell og).trans rfl
          go_simp
          refine hK.out _ _ (trivial) (fun hHeld => ?_)
          clear hK K
          try simp only [Act.put, List.setIfInBounds_toArray, List.set_cons_zero, List.set_cons_succ, List.getElem_toArray, List.getElem_cons_succ, List.getElem_cons_zero]
          refine wpAnyH_ready (rs := [7]) (by kernel_rfl) (by simp) ?_
          refine AllReadyH.cons (o := _) rfl (fun K hK => ?_) AllReadyH.nil
          have og := obj_alloc og (Obj.cells #[Value.slice (some ⟨w6.heap.size, 0, none⟩) 2 2] 24)
          have ob := obj_alloc ob (Obj.cells #[Value.slice (some ⟨w6.heap.size, 0, none⟩) 2 2] 24)
          have fG : ((w6.alloc (Obj.cells #[Value.int .i64 x1, Value.int .i64 y1] 3)).alloc (Obj.cells #[Value.slice (some ⟨w6.heap.size, 0, none⟩) 2 2] 24)).cell? ⟨G, 1, none⟩ = some (Value.slice none 0 0) := (obj_cell og).trans rfl
          go_simp
          refine hK.out _ _ (trivial) (fun hHeld => ?_)
          clear hK K
          try simp only [Act.put, List.setIfInBounds_toArray, List.set_cons_zero, List.set_cons_succ, List.getElem_toArray, List.getElem_cons_succ, List.getElem_cons_zero]
          refine wpAnyH_ready (rs := [8]) (by kernel_rfl) (by simp) ?_
          refine AllReadyH.cons (o := _) rfl (fun K hK => ?_) AllReadyH.nil
          refine step_append_lies _ (by rfl) _ _ _ (by rfl) (G + 1) 24 j0 (.slice none 0 0) 1 24 Try.underlying25 hj hy0 hy1 hy2 rfl (by decide) (Value.slice none 0 0) 0 [] (by rfl) ⟨rfl, .inl ⟨rfl, rfl⟩⟩ ⟨w6.heap.size + 1, 0, none⟩ 1 1 [Value.slice (some ⟨w6.heap.size, 0, none⟩) 2 2] (by rfl) (by rfl) (cell_one_at (w := w6.alloc (Obj.cells #[Value.int .i64 x1, Value.int .i64 y1] 3)) _ _ (by simp)) (by intro u hu; simp at hu; subst hu; rfl) (by omega) (by unfold maxLen; omega) (by omega) (by simp; omega) (w6.heap.size + 1 + 1) (by simp) ?_
          intro g cap w9 hown9 hgrow9 hlies9 hglt9
          have hgn := grown_trans (World.grownBy_alloc _ _ _) hgrow9
          have og := (hgrow9.block G (obj_lt og) (by intro e; cases e)).trans og
          have ob := (hgrow9.block w.heap.size (obj_lt ob) (by intro e; cases e)).trans ob
          have fG : w9.cell? ⟨G, 1, none⟩ = some (Value.slice none 0 0) := (obj_cell og).trans rfl
          have uG : w9.frozen? ⟨G, 1, none⟩ = false := obj_frozen og
          have hbr := (Below.refl w6.heap.size w6).alloc (Nat.le_refl _) (Obj.cells #[Value.int .i64 x1, Value.int .i64 y1] 3)
          have hbs := (hbr.alloc hbr.size (Obj.cells #[Value.slice (some ⟨w6.heap.size, 0, none⟩) 2 2] 24)).grown hgrow9 (by simp; omega) (by intro g hg; cases hg)
          have or9 := (hgrow9.block w6.heap.size (by simp; omega) (by intro e; cases e)).trans (obj_alloc (obj_new w6 (Obj.cells #[Value.int .i64 x1, Value.int .i64 y1] 3)) _)
          have hOwn9 : Own w9 (G + 1) w9.heap.size [⟨some ⟨w6.heap.size, 0, none⟩, 2, [x1, y1]⟩] [⟨some ⟨g, 0, none⟩, cap, [Value.slice (some ⟨w6.heap.size, 0, none⟩) 2 2]⟩] := (Own.one (own_two or9 hG6) (Nat.le_refl _)).with_ hown9 (Nat.le_refl _)
          have ho9 := own_below ho6 hbs
          have kd9 := kd6.next (hbs.mono (by have := kd6.span.size; omega)) hq1
          have hb9 := hb6.trans (hbs.mono hb6.size)
          refine hK.out _ _ (trivial) (fun hHeld => ?_)
          clear hK K
          try simp only [Act.put, List.setIfInBounds_toArray, List.set_cons_zero, List.set_cons_succ, List.getElem_toArray, List.getElem_cons_succ, List.getElem_cons_zero]
          refine wpAnyH_take (i := 9) (oi := _) (v := ?_) rfl (by kernel_rfl) (by kernel_rfl) (by kernel_rfl) (fun _ _ _ h => h) (Or.inl ⟨by rfl, ?_⟩) (by assumption) ?_
          rotate_left
          · intro w hSw
            try dsimp only at hSw
            go_simp
            all_goals with_reducible rfl
          try simp only [Act.put, List.setIfInBounds_toArray, List.set_cons_zero, List.set_cons_succ, List.getElem_toArray, List.getElem_cons_succ, List.getElem_cons_zero]
          refine wpAnyH_ready (rs := [10]) (by kernel_rfl) (by simp) ?_
          refine AllReadyH.cons (o := _) rfl (fun K hK => ?_) AllReadyH.nil
          go_simp
          refine hK.out _ _ (trivial) (fun hHeld => ?_)
          clear hK K
          try simp only [Act.put, List.setIfInBounds_toArray, List.set_cons_zero, List.set_cons_succ, List.getElem_toArray, List.getElem_cons_succ, List.getElem_cons_zero]
          refine wpAnyH_done (by kernel_rfl) ?_ _
          have hsp : Span G (G + 1) w9 (w9.setCell ⟨G, 1, none⟩ (Value.slice (some ⟨g, 0, none⟩) (0 + 1) cap)) := Span.set (p := ⟨G, 1, none⟩) (Nat.le_refl _) (Nat.lt_succ_self _) _
          have HK := Lib.hid (show w9.setCell ⟨G, 1, none⟩ (Value.slice (some ⟨g, 0, none⟩) (0 + 1) cap) = w9.setCell ⟨G, 1, none⟩ (Value.slice (some ⟨g, 0, none⟩) 1 cap) from rfl)
          have K1 := Lib.hid (obj_set (i := 1) og (Value.slice (some ⟨g, 0, none⟩) (0 + 1) cap))
          have K2 := Lib.hid (obj_other (g' := G) (i := 1) ob (by omega) (Value.slice (some ⟨g, 0, none⟩) (0 + 1) cap))
          have K3 := Lib.hid ((hOwn9.span hsp (.inr (Nat.le_refl _))).wider (Nat.le_refl _) hsp.size)
          have K4 := Lib.hid (own_span ho9 hsp (fun g hg => .inl (hoL g hg)))
          have K5 := Lib.hid (kd9.next ((Below.refl w1.heap.size w9).setCell (p := ⟨G, 1, none⟩) hwG (Value.slice (some ⟨g, 0, none⟩) (0 + 1) cap)) hq1)
          have K6 := Lib.hid (hb9.setCell (p := ⟨G, 1, none⟩) (by show w.heap.size ≤ G; omega) (Value.slice (some ⟨g, 0, none⟩) (0 + 1) cap))
          clear og ob hOwn9 or9 ho9 hsp kd9 hb9 hgrow9 hgn hbr hbs fG uG
          go_wp2_with fail
          go_meet
          case rel => exact Lib.hid ⟨some ⟨g, 0, none⟩, cap, [⟨some ⟨w6.heap.size, 0, none⟩, 2, [x1, y1]⟩], K1.out, K2.out, K3.out, by simp, by simp, K4.out, K5.out, K6.out⟩
        · go_simp
          refine Calls.mono (l1Below_any _ q A c bs 2 (by omega) kd5.cur) ?_
          rintro e w6 ⟨y1, rfl, hx1, ka⟩
          have kd6 := kd5.trans ka
          have og := (ka.span.block G hG5 (.inr (by omega))).trans og
          have ob := (ka.span.block w.heap.size (obj_lt ob) (.inl (by omega))).trans ob
          have ho6 := own_drawn ho5 ka hq2
          have hb6 := hb5.trans (ka.below (by omega) hb5.size)
          have hG6 : G < w6.heap.size := obj_lt og
          have fG : w6.cell? ⟨G, 1, none⟩ = some (Value.slice none 0 0) := (obj_cell og).trans rfl
          clear ka hx1
          go_wp2_with fail
          refine hK.out _ _ (trivial) (fun hHeld => ?_)
          clear hK K
          try simp only [Act.put, List.setIfInBounds_toArray, List.set_cons_zero, List.set_cons_succ, List.getElem_toArray, List.getElem_cons_succ, List.getElem_cons_zero]
          refine wpAnyH_ready (rs := [1, 6]) (by kernel_rfl) (by simp) ?_
          refine AllReadyH.cons (o := _) rfl (fun K hK => ?_) (AllReadyH.cons (o := _) rfl (fun K hK => ?_) AllReadyH.nil)
          · go_simp
            refine hK.out _ _ (trivial) (fun hHeld => ?_)
            clear hK K
            try simp only [Act.put, List.setIfInBounds_toArray, List.set_cons_zero, List.set_cons_succ, List.getElem_toArray, List.getElem_cons_succ, List.getElem_cons_zero]
            refine wpAnyH_ready (rs := [6]) (by kernel_rfl) (by simp) ?_
            refine AllReadyH.cons (o := _) rfl (fun K hK => ?_) AllReadyH.nil
            have og := obj_alloc og (Obj.cells #[Value.int .i64 x1, Value.int .i64 y1] 3)
            have ob := obj_alloc ob (Obj.cells #[Value.int .i64 x1, Value.int .i64 y1] 3)
            have fG : (w6.alloc (Obj.cells #[Value.int .i64 x1, Value.int .i64 y1] 3)).cell? ⟨G, 1, none⟩ = some (Value.slice none 0 0) := (obj_cell og).trans rfl
            go_simp
            refine hK.out _ _ (trivial) (fun hHeld => ?_)
            clear hK K
            try simp only [Act.put, List.setIfInBounds_toArray, List.set_cons_zero, List.set_cons_succ, List.getElem_toArray, List.getElem_cons_succ, List.getElem_cons_zero]
            refine wpAnyH_ready (rs := [7]) (by kernel_rfl) (by simp) ?_
            refine AllReadyH.cons (o := _) rfl (fun K hK => ?_) AllReadyH.nil
            have og := obj_alloc og (Obj.cells #[Value.slice (some ⟨w6.heap.size, 0, none⟩) 2 2] 24)
            have ob := obj_alloc ob (Obj.cells #[Value.slice (some ⟨w6.heap.size, 0, none⟩) 2 2] 24)
            have fG : ((w6.alloc (Obj.cells #[Value.int .i64 x1, Value.int .i64 y1] 3)).alloc (Obj.cells #[Value.slice (some ⟨w6.heap.size, 0, none⟩) 2 2] 24)).cell? ⟨G, 1, none⟩ = some (Value.slice none 0 0) := (obj_cell og).trans rfl
            go_simp
            refine hK.out _ _ (trivial) (fun hHeld => ?_)
            clear hK K
            try simp only [Act.put, List.setIfInBounds_toArray, List.set_cons_zero, List.set_cons_succ, List.getElem_toArray, List.getElem_cons_succ, List.getElem_cons_zero]
            refine wpAnyH_ready (rs := [8]) (by kernel_rfl) (by simp) ?_
            refine AllReadyH.cons (o := _) rfl (fun K hK => ?_) AllReadyH.nil
            refine step_append_lies _ (by rfl) _ _ _ (by rfl) (G + 1) 24 j0 (.slice none 0 0) 1 24 Try.underlying25 hj hy0 hy1 hy2 rfl (by decide) (Value.slice none 0 0) 0 [] (by rfl) ⟨rfl, .inl ⟨rfl, rfl⟩⟩ ⟨w6.heap.size + 1, 0, none⟩ 1 1 [Value.slice (some ⟨w6.heap.size, 0, none⟩) 2 2] (by rfl) (by rfl) (cell_one_at (w := w6.alloc (Obj.cells #[Value.int .i64 x1, Value.int .i64 y1] 3)) _ _ (by simp)) (by intro u hu; simp at hu; subst hu; rfl) (by omega) (by unfold maxLen; omega) (by omega) (by simp; omega) (w6.heap.size + 1 + 1) (by simp) ?_
            intro g cap w9 hown9 hgrow9 hlies9 hglt9
            have hgn := grown_trans (World.grownBy_alloc _ _ _) hgrow9
            have og := (hgrow9.block G (obj_lt og) (by intro e; cases e)).trans og
            have ob := (hgrow9.block w.heap.size (obj_lt ob) (by intro e; cases e)).trans ob
            have fG : w9.cell? ⟨G, 1, none⟩ = some (Value.slice none 0 0) := (obj_cell og).trans rfl
            have uG : w9.frozen? ⟨G, 1, none⟩ = false := obj_frozen og
            have hbr := (Below.refl w6.heap.size w6).alloc (Nat.le_refl _) (Obj.cells #[Value.int .i64 x1, Value.int .i64 y1] 3)
            have hbs := (hbr.alloc hbr.size (Obj.cells #[Value.slice (some ⟨w6.heap.size, 0, none⟩) 2 2] 24)).grown hgrow9 (by simp; omega) (by intro g hg; cases hg)
            have or9 := (hgrow9.block w6.heap.size (by simp; omega) (by intro e; cases e)).trans (obj_alloc (obj_new w6 (Obj.cells #[Value.int .i64 x1, Value.int .i64 y1] 3)) _)
            have hOwn9 : Own w9 (G + 1) w9.heap.size [⟨some ⟨w6.heap.size, 0, none⟩, 2, [x1, y1]⟩] [⟨some ⟨g, 0, none⟩, cap, [Value.slice (some ⟨w6.heap.size, 0, none⟩) 2 2]⟩] := (Own.one (own_two or9 hG6) (Nat.le_refl _)).with_ hown9 (Nat.le_refl _)
            have ho9 := own_below ho6 hbs
            have kd9 := kd6.next (hbs.mono (by have := kd6.span.size; omega)) hq1
            have hb9 := hb6.trans (hbs.mono hb6.size)
            refine hK.out _ _ (trivial) (fun hHeld => ?_)
            clear hK K
            try simp only [Act.put, List.setIfInBounds_toArray, List.set_cons_zero, List.set_cons_succ, List.getElem_toArray, List.getElem_cons_succ, List.getElem_cons_zero]
            refine wpAnyH_take (i := 9) (oi := _) (v := ?_) rfl (by kernel_rfl) (by kernel_rfl) (by kernel_rfl) (fun _ _ _ h => h) (Or.inl ⟨by rfl, ?_⟩) (by assumption) ?_
            rotate_left
            · intro w hSw
              try dsimp only at hSw
              go_simp
              all_goals with_reducible rfl
            try simp only [Act.put, List.setIfInBounds_toArray, List.set_cons_zero, List.set_cons_succ, List.getElem_toArray, List.getElem_cons_succ, List.getElem_cons_zero]
            refine wpAnyH_ready (rs := [10]) (by kernel_rfl) (by simp) ?_
            refine AllReadyH.cons (o := _) rfl (fun K hK => ?_) AllReadyH.nil
            go_simp
            refine hK.out _ _ (trivial) (fun hHeld => ?_)
            clear hK K
            try simp only [Act.put, List.setIfInBounds_toArray, List.set_cons_zero, List.set_cons_succ, List.getElem_toArray, List.getElem_cons_succ, List.getElem_cons_zero]
            refine wpAnyH_done (by kernel_rfl) ?_ _
            have hsp : Span G (G + 1) w9 (w9.setCell ⟨G, 1, none⟩ (Value.slice (some ⟨g, 0, none⟩) (0 + 1) cap)) := Span.set (p := ⟨G, 1, none⟩) (Nat.le_refl _) (Nat.lt_succ_self _) _
            have HK := Lib.hid (show w9.setCell ⟨G, 1, none⟩ (Value.slice (some ⟨g, 0, none⟩) (0 + 1) cap) = w9.setCell ⟨G, 1, none⟩ (Value.slice (some ⟨g, 0, none⟩) 1 cap) from rfl)
            have K1 := Lib.hid (obj_set (i := 1) og (Value.slice (some ⟨g, 0, none⟩) (0 + 1) cap))
            have K2 := Lib.hid (obj_other (g' := G) (i := 1) ob (by omega) (Value.slice (some ⟨g, 0, none⟩) (0 + 1) cap))
            have K3 := Lib.hid ((hOwn9.span hsp (.inr (Nat.le_refl _))).wider (Nat.le_refl _) hsp.size)
            have K4 := Lib.hid (own_span ho9 hsp (fun g hg => .inl (hoL g hg)))
            have K5 := Lib.hid (kd9.next ((Below.refl w1.heap.size w9).setCell (p := ⟨G, 1, none⟩) hwG (Value.slice (some ⟨g, 0, none⟩) (0 + 1) cap)) hq1)
            have K6 := Lib.hid (hb9.setCell (p := ⟨G, 1, none⟩) (by show w.heap.size ≤ G; omega) (Value.slice (some ⟨g, 0, none⟩) (0 + 1) cap))
            clear og ob hOwn9 or9 ho9 hsp kd9 hb9 hgrow9 hgn hbr hbs fG uG
            go_wp2_with fail
            go_meet
            case rel => exact Lib.hid ⟨some ⟨g, 0, none⟩, cap, [⟨some ⟨w6.heap.size, 0, none⟩, 2, [x1, y1]⟩], K1.out, K2.out, K3.out, by simp, by simp, K4.out, K5.out, K6.out⟩
          · have og := obj_alloc og (Obj.cells #[Value.int .i64 x1, Value.int .i64 y1] 3)
            have ob := obj_alloc ob (Obj.cells #[Value.int .i64 x1, Value.int .i64 y1] 3)
            have fG : (w6.alloc (Obj.cells #[Value.int .i64 x1, Value.int .i64 y1] 3)).cell? ⟨G, 1, none⟩ = some (Value.slice none 0 0) := (obj_cell og).trans rfl
            go_simp
            refine hK.out _ _ (trivial) (fun hHeld => ?_)
            clear hK K
            try simp only [Act.put, List.setIfInBounds_toArray, List.set_cons_zero, List.set_cons_succ, List.getElem_toArray, List.getElem_cons_succ, List.getElem_cons_zero]
            refine wpAnyH_ready (rs := [1, 7]) (by kernel_rfl) (by simp) ?_
            refine AllReadyH.cons (o := _) rfl (fun K hK => ?_) (AllReadyH.cons (o := _) rfl (fun K hK => ?_) AllReadyH.nil)
            · go_simp
              refine hK.out _ _ (trivial) (fun hHeld => ?_)
              clear hK K
              try simp only [Act.put, List.setIfInBounds_toArray, List.set_cons_zero, List.set_cons_succ, List.getElem_toArray, List.getElem_cons_succ, List.getElem_cons_zero]
              refine wpAnyH_ready (rs := [7]) (by kernel_rfl) (by simp) ?_
              refine AllReadyH.cons (o := _) rfl (fun K hK => ?_) AllReadyH.nil
              have og := obj_alloc og (Obj.cells #[Value.slice (some ⟨w6.heap.size, 0, none⟩) 2 2] 24)
              have ob := obj_alloc ob (Obj.cells #[Value.slice (some ⟨w6.heap.size, 0, none⟩) 2 2] 24)
              have fG : ((w6.alloc (Obj.cells #[Value.int .i64 x1, Value.int .i64 y1] 3)).alloc (Obj.cells #[Value.slice (some ⟨w6.heap.size, 0, none⟩) 2 2] 24)).cell? ⟨G, 1, none⟩ = some (Value.slice none 0 0) := (obj_cell og).trans rfl
              go_simp
              refine hK.out _ _ (trivial) (fun hHeld => ?_)
              clear hK K
              try simp only [Act.put, List.setIfInBounds_toArray, List.set_cons_zero, List.set_cons_succ, List.getElem_toArray, List.getElem_cons_succ, List.getElem_cons_zero]
              refine wpAnyH_ready (rs := [8]) (by kernel_rfl) (by simp) ?_
              refine AllReadyH.cons (o := _) rfl (fun K hK => ?_) AllReadyH.nil
              refine step_append_lies _ (by rfl) _ _ _ (by rfl) (G + 1) 24 j0 (.slice none 0 0) 1 24 Try.underlying25 hj hy0 hy1 hy2 rfl (by decide) (Value.slice none 0 0) 0 [] (by rfl) ⟨rfl, .inl ⟨rfl, rfl⟩⟩ ⟨w6.heap.size + 1, 0, none⟩ 1 1 [Value.slice (some ⟨w6.heap.size, 0, none⟩) 2 2] (by rfl) (by rfl) (cell_one_at (w := w6.alloc (Obj.cells #[Value.int .i64 x1, Value.int .i64 y1] 3)) _ _ (by simp)) (by intro u hu; simp at hu; subst hu; rfl) (by omega) (by unfold maxLen; omega) (by omega) (by simp; omega) (w6.heap.size + 1 + 1) (by simp) ?_
              intro g cap w9 hown9 hgrow9 hlies9 hglt9
              have hgn := grown_trans (World.grownBy_alloc _ _ _) hgrow9
              have og := (hgrow9.block G (obj_lt og) (by intro e; cases e)).trans og
              have ob := (hgrow9.block w.heap.size (obj_lt ob) (by intro e; cases e)).trans ob
              have fG : w9.cell? ⟨G, 1, none⟩ = some (Value.slice none 0 0) := (obj_cell og).trans rfl
              have uG : w9.frozen? ⟨G, 1, none⟩ = false := obj_frozen og
              have hbr := (Below.refl w6.heap.size w6).alloc (Nat.le_refl _) (Obj.cells #[Value.int .i64 x1, Value.int .i64 y1] 3)
              have hbs := (hbr.alloc hbr.size (Obj.cells #[Value.slice (some ⟨w6.heap.size, 0, none⟩) 2 2] 24)).grown hgrow9 (by simp; omega) (by intro g hg; cases hg)
              have or9 := (hgrow9.block w6.heap.size (by simp; omega) (by intro e; cases e)).trans (obj_alloc (obj_new w6 (Obj.cells #[Value.int .i64 x1, Value.int .i64 y1] 3)) _)
              have hOwn9 : Own w9 (G + 1) w9.heap.size [⟨some ⟨w6.heap.size, 0, none⟩, 2, [x1, y1]⟩] [⟨some ⟨g, 0, none⟩, cap, [Value.slice (some ⟨w6.heap.size, 0, none⟩) 2 2]⟩] := (Own.one (own_two or9 hG6) (Nat.le_refl _)).with_ hown9 (Nat.le_refl _)
              have ho9 := own_below ho6 hbs
              have kd9 := kd6.next (hbs.mono (by have := kd6.span.size; omega)) hq1
              have hb9 := hb6.trans (hbs.mono hb6.size)
              refine hK.out _ _ (trivial) (fun hHeld => ?_)
              clear hK K
              try simp only [Act.put, List.setIfInBounds_toArray, List.set_cons_zero, List.set_cons_succ, List.getElem_toArray, List.getElem_cons_succ, List.getElem_cons_zero]
              refine wpAnyH_take (i := 9) (oi := _) (v := ?_) rfl (by kernel_rfl) (by kernel_rfl) (by kernel_rfl) (fun _ _ _ h => h) (Or.inl ⟨by rfl, ?_⟩) (by assumption) ?_
              rotate_left
              · intro w hSw
                try dsimp only at hSw
                go_simp
                all_goals with_reducible rfl
              try simp only [Act.put, List.setIfInBounds_toArray, List.set_cons_zero, List.set_cons_succ, List.getElem_toArray, List.getElem_cons_succ, List.getElem_cons_zero]
              refine wpAnyH_ready (rs := [10]) (by kernel_rfl) (by simp) ?_
              refine AllReadyH.cons (o := _) rfl (fun K hK => ?_) AllReadyH.nil
              go_simp
              refine hK.out _ _ (trivial) (fun hHeld => ?_)
              clear hK K
              try simp only [Act.put, List.setIfInBounds_toArray, List.set_cons_zero, List.set_cons_succ, List.getElem_toArray, List.getElem_cons_succ, List.getElem_cons_zero]
              refine wpAnyH_done (by kernel_rfl) ?_ _
              have hsp : Span G (G + 1) w9 (w9.setCell ⟨G, 1, none⟩ (Value.slice (some ⟨g, 0, none⟩) (0 + 1) cap)) := Span.set (p := ⟨G, 1, none⟩) (Nat.le_refl _) (Nat.lt_succ_self _) _
              have HK := Lib.hid (show w9.setCell ⟨G, 1, none⟩ (Value.slice (some ⟨g, 0, none⟩) (0 + 1) cap) = w9.setCell ⟨G, 1, none⟩ (Value.slice (some ⟨g, 0, none⟩) 1 cap) from rfl)
              have K1 := Lib.hid (obj_set (i := 1) og (Value.slice (some ⟨g, 0, none⟩) (0 + 1) cap))
              have K2 := Lib.hid (obj_other (g' := G) (i := 1) ob (by omega) (Value.slice (some ⟨g, 0, none⟩) (0 + 1) cap))
              have K3 := Lib.hid ((hOwn9.span hsp (.inr (Nat.le_refl _))).wider (Nat.le_refl _) hsp.size)
              have K4 := Lib.hid (own_span ho9 hsp (fun g hg => .inl (hoL g hg)))
              have K5 := Lib.hid (kd9.next ((Below.refl w1.heap.size w9).setCell (p := ⟨G, 1, none⟩) hwG (Value.slice (some ⟨g, 0, none⟩) (0 + 1) cap)) hq1)
              have K6 := Lib.hid (hb9.setCell (p := ⟨G, 1, none⟩) (by show w.heap.size ≤ G; omega) (Value.slice (some ⟨g, 0, none⟩) (0 + 1) cap))
              clear og ob hOwn9 or9 ho9 hsp kd9 hb9 hgrow9 hgn hbr hbs fG uG
              go_wp2_with fail
              go_meet
              case rel => exact Lib.hid ⟨some ⟨g, 0, none⟩, cap, [⟨some ⟨w6.heap.size, 0, none⟩, 2, [x1, y1]⟩], K1.out, K2.out, K3.out, by simp, by simp, K4.out, K5.out, K6.out⟩
            · have og := obj_alloc og (Obj.cells #[Value.slice (some ⟨w6.heap.size, 0, none⟩) 2 2] 24)
              have ob := obj_alloc ob (Obj.cells #[Value.slice (some ⟨w6.heap.size, 0, none⟩) 2 2] 24)
              have fG : ((w6.alloc (Obj.cells #[Value.int .i64 x1, Value.int .i64 y1] 3)).alloc (Obj.cells #[Value.slice (some ⟨w6.heap.size, 0, none⟩) 2 2] 24)).cell? ⟨G, 1, none⟩ = some (Value.slice none 0 0) := (obj_cell og).trans rfl
              go_simp
              refine hK.out _ _ (trivial) (fun hHeld => ?_)
              clear hK K
              try simp only [Act.put, List.setIfInBounds_toArray, List.set_cons_zero, List.set_cons_succ, List.getElem_toArray, List.getElem_cons_succ, List.getElem_cons_zero]
              refine wpAnyH_ready (rs := [1]) (by kernel_rfl) (by simp) ?_
              refine AllReadyH.cons (o := _) rfl (fun K hK => ?_) AllReadyH.nil
              go_simp
              refine hK.out _ _ (trivial) (fun hHeld => ?_)
              clear hK K
              try simp only [Act.put, List.setIfInBounds_toArray, List.set_cons_zero, List.set_cons_succ, List.getElem_toArray, List.getElem_cons_succ, List.getElem_cons_zero]
              refine wpAnyH_ready (rs := [8]) (by kernel_rfl) (by simp) ?_
              refine AllReadyH.cons (o := _) rfl (fun K hK => ?_) AllReadyH.nil
              refine step_append_lies _ (by rfl) _ _ _ (by rfl) (G + 1) 24 j0 (.slice none 0 0) 1 24 Try.underlying25 hj hy0 hy1 hy2 rfl (by decide) (Value.slice none 0 0) 0 [] (by rfl) ⟨rfl, .inl ⟨rfl, rfl⟩⟩ ⟨w6.heap.size + 1, 0, none⟩ 1 1 [Value.slice (some ⟨w6.heap.size, 0, none⟩) 2 2] (by rfl) (by rfl) (cell_one_at (w := w6.alloc (Obj.cells #[Value.int .i64 x1, Value.int .i64 y1] 3)) _ _ (by simp)) (by intro u hu; simp at hu; subst hu; rfl) (by omega) (by unfold maxLen; omega) (by omega) (by simp; omega) (w6.heap.size + 1 + 1) (by simp) ?_
              intro g cap w9 hown9 hgrow9 hlies9 hglt9
              have hgn := grown_trans (World.grownBy_alloc _ _ _) hgrow9
              have og := (hgrow9.block G (obj_lt og) (by intro e; cases e)).trans og
              have ob := (hgrow9.block w.heap.size (obj_lt ob) (by intro e; cases e)).trans ob
              have fG : w9.cell? ⟨G, 1, none⟩ = some (Value.slice none 0 0) := (obj_cell og).trans rfl
              have uG : w9.frozen? ⟨G, 1, none⟩ = false := obj_frozen og
              have hbr := (Below.refl w6.heap.size w6).alloc (Nat.le_refl _) (Obj.cells #[Value.int .i64 x1, Value.int .i64 y1] 3)
              have hbs := (hbr.alloc hbr.size (Obj.cells #[Value.slice (some ⟨w6.heap.size, 0, none⟩) 2 2] 24)).grown hgrow9 (by simp; omega) (by intro g hg; cases hg)
              have or9 := (hgrow9.block w6.heap.size (by simp; omega) (by intro e; cases e)).trans (obj_alloc (obj_new w6 (Obj.cells #[Value.int .i64 x1, Value.int .i64 y1] 3)) _)
              have hOwn9 : Own w9 (G + 1) w9.heap.size [⟨some ⟨w6.heap.size, 0, none⟩, 2, [x1, y1]⟩] [⟨some ⟨g, 0, none⟩, cap, [Value.slice (some ⟨w6.heap.size, 0, none⟩) 2 2]⟩] := (Own.one (own_two or9 hG6) (Nat.le_refl _)).with_ hown9 (Nat.le_refl _)
              have ho9 := own_below ho6 hbs
              have kd9 := kd6.next (hbs.mono (by have := kd6.span.size; omega)) hq1
              have hb9 := hb6.trans (hbs.mono hb6.size)
              refine hK.out _ _ (trivial) (fun hHeld => ?_)
              clear hK K
              try simp only [Act.put, List.setIfInBounds_toArray, List.set_cons_zero, List.set_cons_succ, List.getElem_toArray, List.getElem_cons_succ, List.getElem_cons_zero]
              refine wpAnyH_take (i := 9) (oi := _) (v := ?_) rfl (by kernel_rfl) (by kernel_rfl) (by kernel_rfl) (fun _ _ _ h => h) (Or.inl ⟨by rfl, ?_⟩) (by assumption) ?_
              rotate_left
              · intro w hSw
                try dsimp only at hSw
                go_simp
                all_goals with_reducible rfl
              try simp only [Act.put, List.setIfInBounds_toArray, List.set_cons_zero, List.set_cons_succ, List.getElem_toArray, List.getElem_cons_succ, List.getElem_cons_zero]
              refine wpAnyH_ready (rs := [10]) (by kernel_rfl) (by simp) ?_
              refine AllReadyH.cons (o := _) rfl (fun K hK => ?_) AllReadyH.nil
              go_simp
              refine hK.out _ _ (trivial) (fun hHeld => ?_)
              clear hK K
              try simp only [Act.put, List.setIfInBounds_toArray, List.set_cons_zero, List.set_cons_succ, List.getElem_toArray, List.getElem_cons_succ, List.getElem_cons_zero]
              refine wpAnyH_done (by kernel_rfl) ?_ _
              have hsp : Span G (G + 1) w9 (w9.setCell ⟨G, 1, none⟩ (Value.slice (some ⟨g, 0, none⟩) (0 + 1) cap)) := Span.set (p := ⟨G, 1, none⟩) (Nat.le_refl _) (Nat.lt_succ_self _) _
              have HK := Lib.hid (show w9.setCell ⟨G, 1, none⟩ (Value.slice (some ⟨g, 0, none⟩) (0 + 1) cap) = w9.setCell ⟨G, 1, none⟩ (Value.slice (some ⟨g, 0, none⟩) 1 cap) from rfl)
              have K1 := Lib.hid (obj_set (i := 1) og (Value.slice (some ⟨g, 0, none⟩) (0 + 1) cap))
              have K2 := Lib.hid (obj_other (g' := G) (i := 1) ob (by omega) (Value.slice (some ⟨g, 0, none⟩) (0 + 1) cap))
              have K3 := Lib.hid ((hOwn9.span hsp (.inr (Nat.le_refl _))).wider (Nat.le_refl _) hsp.size)
              have K4 := Lib.hid (own_span ho9 hsp (fun g hg => .inl (hoL g hg)))
              have K5 := Lib.hid (kd9.next ((Below.refl w1.heap.size w9).setCell (p := ⟨G, 1, none⟩) hwG (Value.slice (some ⟨g, 0, none⟩) (0 + 1) cap)) hq1)
              have K6 := Lib.hid (hb9.setCell (p := ⟨G, 1, none⟩) (by show w.heap.size ≤ G; omega) (Value.slice (some ⟨g, 0, none⟩) (0 + 1) cap))
              clear og ob hOwn9 or9 ho9 hsp kd9 hb9 hgrow9 hgn hbr hbs fG uG
              go_wp2_with fail
              go_meet
              case rel => exact Lib.hid ⟨some ⟨g, 0, none⟩, cap, [⟨some ⟨w6.heap.size, 0, none⟩, 2, [x1, y1]⟩], K1.out, K2.out, K3.out, by simp, by simp, K4.out, K5.out, K6.out⟩
  obtain ⟨wz, rfl⟩ : ∃ w', w' = wc := ⟨_, rfl⟩
  obtain ⟨S, k, rs, og, ob, hOut, hrl, hr2, ho, kd, hb0⟩ := hcut.out
  clear hcut
  have HR2 := Lib.hid hr2
  clear hr2
  have kd0 := kd.dr (Dr.refl wz).drew
  have ho0 := (Dr.refl wz).drew.own ho
  have hb00 := below_dr hb0 (Dr.refl wz).drew
  have hOut0 := hOut.dr (Dr.refl wz).drew
  have hsw8 : wz.heap.size ≤ wz.drew.heap.size := Nat.le_refl _
  have og : wz.drew.heap[G]? = some (Obj.cells #[Value.slice P p.length pk, Value.slice S rs.length k] 27) := og
  have ob : wz.drew.heap[w.heap.size]? = some (Obj.cells #[Value.slice none 0 0, Value.slice none 0 0] 27) := ob
  have hG5 : G < wz.drew.heap.size := obj_lt og
  have hS0 : wz.drew.cell? ⟨G, 0, none⟩ = some (Value.slice P p.length pk) ∧ wz.drew.cell? ⟨G, 1, none⟩ = some (Value.slice S rs.length k) := ⟨(obj_cell og).trans rfl, (obj_cell og).trans rfl⟩
  clear ho kd hb0 hOut
  go_wp2_with fail
  refine wp_region_held_drew (S := (fun v => v.cell? ⟨G, 0, none⟩ = some (Value.slice P p.length pk) ∧ v.cell? ⟨G, 1, none⟩ = some (Value.slice S rs.length k))) (by kernel_rfl) hS0 (fun hHeld => ?_)
  refine wpAnyH_take (i := 0) (oi := _) (v := ?_) rfl (by kernel_rfl) (by kernel_rfl) (by kernel_rfl) (fun _ _ _ h => h) (Or.inl ⟨by rfl, ?_⟩) (by assumption) ?_
  rotate_left
  · intro w hSw
    try dsimp only at hSw
    go_simp
    all_goals with_reducible rfl
  try simp only [Act.put, List.setIfInBounds_toArray, List.set_cons_zero, List.set_cons_succ, List.getElem_toArray, List.getElem_cons_succ, List.getElem_cons_zero]
  refine wpAnyH_take (i := 1) (oi := _) (v := ?_) rfl (by kernel_rfl) (by kernel_rfl) (by kernel_rfl) (fun _ _ _ h => h) (Or.inl ⟨by rfl, ?_⟩) (by assumption) ?_
  rotate_left
  · intro w hSw
    try dsimp only at hSw
    go_simp
    all_goals with_reducible rfl
  try simp only [Act.put, List.setIfInBounds_toArray, List.set_cons_zero, List.set_cons_succ, List.getElem_toArray, List.getElem_cons_succ, List.getElem_cons_zero]
  refine wpAnyH_take (i := 3) (oi := _) (v := ?_) rfl (by kernel_rfl) (by kernel_rfl) (by kernel_rfl) (fun _ _ _ h => h) (Or.inl ⟨by rfl, ?_⟩) (by assumption) ?_
  rotate_left
  · intro w hSw
    try dsimp only at hSw
    go_simp
    all_goals with_reducible rfl
  try simp only [Act.put, List.setIfInBounds_toArray, List.set_cons_zero, List.set_cons_succ, List.getElem_toArray, List.getElem_cons_succ, List.getElem_cons_zero]
  refine wpAnyH_take (i := 7) (oi := _) (v := ?_) rfl (by kernel_rfl) (by kernel_rfl) (by kernel_rfl) (fun _ _ _ h => h) (Or.inl ⟨by rfl, ?_⟩) (by assumption) ?_
  rotate_left
  · intro w hSw
    try dsimp only at hSw
    go_simp
    all_goals with_reducible rfl
  try simp only [Act.put, List.setIfInBounds_toArray, List.set_cons_zero, List.set_cons_succ, List.getElem_toArray, List.getElem_cons_succ, List.getElem_cons_zero]
  refine wpAnyH_ready (rs := [2]) (by kernel_rfl) (by simp) ?_
  refine AllReadyH.cons (o := _) rfl (fun K hK => ?_) AllReadyH.nil
  go_simp
  refine Calls.mono (l1Below_any _ q A c bs 4 (by omega) kd0.cur) ?_
  rintro e w5 ⟨x, rfl, hx, ka⟩
  have kd5 := kd0.trans ka
  have og := (ka.span.block G hG5 (.inr (by omega))).trans og
  have ob := (ka.span.block w.heap.size (obj_lt ob) (.inl (by omega))).trans ob
  have ho5 := own_drawn ho0 ka hq2
  have hOut5 := hOut0.span ka.span (.inr (by omega))
  have hsw8 := Nat.le_trans hsw8 ka.span.size
  have hb5 := hb00.trans (ka.below (by omega) hb00.size)
  have hG5 : G < w5.heap.size := obj_lt og
  have hS5 : w5.cell? ⟨G, 0, none⟩ = some (Value.slice P p.length pk) ∧ w5.cell? ⟨G, 1, none⟩ = some (Value.slice S rs.length k) := ⟨(obj_cell og).trans rfl, (obj_cell og).trans rfl⟩
  clear ka
  have hx4 : 0 ≤ x ∧ x ≤ 3 := by have := hx.2.1 (by omega); omega
  clear hx
  go_wp2_with fail
  refine hK.out _ _ (hS5) (fun hHeld => ?_)
  clear hK K
  try simp only [Act.put, List.setIfInBounds_toArray, List.set_cons_zero, List.set_cons_succ, List.getElem_toArray, List.getElem_cons_succ, List.getElem_cons_zero]
  refine wpAnyH_ready (rs := [4]) (by kernel_rfl) (by simp) ?_
  refine AllReadyH.cons (o := _) rfl (fun K hK => ?_) AllReadyH.nil
  go_simp
  refine Calls.mono (l1Once_any _ q A c bs 10 (by omega) kd5.cur) ?_
  rintro e w6 ⟨b, rfl, ka⟩
  have kd6 := kd5.trans ka
  have og := (ka.span.block G hG5 (.inr (by omega))).trans og
  have ob := (ka.span.block w.heap.size (obj_lt ob) (.inl (by omega))).trans ob
  have ho6 := own_drawn ho5 ka hq2
  have hOut6 := hOut5.span ka.span (.inr (by omega))
  have hsw8 := Nat.le_trans hsw8 ka.span.size
  have hb6 := hb5.trans (ka.below (by omega) hb5.size)
  have hG5 : G < w6.heap.size := obj_lt og
  have hS6 : w6.cell? ⟨G, 0, none⟩ = some (Value.slice P p.length pk) ∧ w6.cell? ⟨G, 1, none⟩ = some (Value.slice S rs.length k) := ⟨(obj_cell og).trans rfl, (obj_cell og).trans rfl⟩
  clear ka
  obtain ⟨y, hy⟩ : ∃ y : Int, (if b = true then (1 : Int) else 0) = y := ⟨_, rfl⟩
  have hyb : 0 ≤ y ∧ y ≤ 1 := by rcases b with _ | _ <;> simp at hy <;> omega
  have HB := Lib.hid (l1Bit_b b y w6 hy)
  clear hy
  have e2 : IntKind.i64.wrap (x - y) = x - y := IntWalk.i64_in _ (by omega)
  go_wp2_with fail
  refine hK.out _ _ (hS6) (fun hHeld => ?_)
  clear hK K
  try simp only [Act.put, List.setIfInBounds_toArray, List.set_cons_zero, List.set_cons_succ, List.getElem_toArray, List.getElem_cons_succ, List.getElem_cons_zero]
  refine wpAnyH_ready (rs := [5]) (by kernel_rfl) (by simp) ?_
  refine AllReadyH.cons (o := _) rfl (fun K hK => ?_) AllReadyH.nil
  go_simp
  refine Calls.mono HB.out ?_
  rintro e w7 ⟨rfl, rfl⟩
  go_wp2_with fail
  refine hK.out _ _ (hS6) (fun hHeld => ?_)
  clear hK K
  try simp only [Act.put, List.setIfInBounds_toArray, List.set_cons_zero, List.set_cons_succ, List.getElem_toArray, List.getElem_cons_succ, List.getElem_cons_zero]
  refine wpAnyH_take (i := 6) (oi := _) (v := ?_) rfl (by kernel_rfl) (by kernel_rfl) (by kernel_rfl) (fun _ _ _ h => h) (Or.inl ⟨by rfl, ?_⟩) (by assumption) ?_
  rotate_left
  · intro w hSw
    try dsimp only at hSw
    go_simp
    all_goals with_reducible rfl
  try simp only [Act.put, List.setIfInBounds_toArray, List.set_cons_zero, List.set_cons_succ, List.getElem_toArray, List.getElem_cons_succ, List.getElem_cons_zero]
  refine wpAnyH_ready (rs := [8]) (by kernel_rfl) (by simp) ?_
  refine AllReadyH.cons (o := _) rfl (fun K hK => ?_) AllReadyH.nil
  go_simp
  refine Calls.mono (l1Below_any _ q A c bs 3 (by omega) kd6.cur) ?_
  rintro e w8 ⟨z, rfl, hz, ka⟩
  have kd8 := kd6.trans ka
  have og := (ka.span.block G hG5 (.inr (by omega))).trans og
  have ob := (ka.span.block w.heap.size (obj_lt ob) (.inl (by omega))).trans ob
  have ho8 := own_drawn ho6 ka hq2
  have hOut8 := hOut6.span ka.span (.inr (by omega))
  have hsw8 := Nat.le_trans hsw8 ka.span.size
  have hb8 := hb6.trans (ka.below (by omega) hb6.size)
  have hG5 : G < w8.heap.size := obj_lt og
  have hS8 : w8.cell? ⟨G, 0, none⟩ = some (Value.slice P p.length pk) ∧ w8.cell? ⟨G, 1, none⟩ = some (Value.slice S rs.length k) := ⟨(obj_cell og).trans rfl, (obj_cell og).trans rfl⟩
  clear ka
  have hz4 : 0 ≤ z ∧ z ≤ 2 := by have := hz.2.1 (by omega); omega
  clear hz
  go_wp2_with fail
  refine hK.out _ _ (hS8) (fun hHeld => ?_)
  clear hK K
  try simp only [Act.put, List.setIfInBounds_toArray, List.set_cons_zero, List.set_cons_succ, List.getElem_toArray, List.getElem_cons_succ, List.getElem_cons_zero]
  have HZW := Lib.hid hsw8
  have t0 : w8.cell? ⟨w.heap.size, 0, none⟩ = some (Value.slice none 0 0) := (obj_cell ob).trans rfl
  have t1 : w8.cell? ⟨w.heap.size, 1, none⟩ = some (Value.slice none 0 0) := (obj_cell ob).trans rfl
  have u0 : w8.frozen? ⟨w.heap.size, 0, none⟩ = false := obj_frozen ob
  have u1 : w8.frozen? ⟨w.heap.size, 1, none⟩ = false := obj_frozen ob
  refine wpAnyH_ready (rs := [9]) (by kernel_rfl) (by simp) ?_
  refine AllReadyH.cons (o := _) rfl (fun K hK => ?_) AllReadyH.nil
  go_simp
  refine hK.out _ _ (⟨(World.cell?_setCell_other _ _ _ _ (fun e => by injection e with e; omega)).trans ((World.cell?_setCell_other _ _ _ _ (fun e => by injection e with e; omega)).trans hS8.1), (World.cell?_setCell_other _ _ _ _ (fun e => by injection e with e; omega)).trans ((World.cell?_setCell_other _ _ _ _ (fun e => by injection e with e; omega)).trans hS8.2)⟩) (fun hHeld => ?_)
  clear hK K
  try simp only [Act.put, List.setIfInBounds_toArray, List.set_cons_zero, List.set_cons_succ, List.getElem_toArray, List.getElem_cons_succ, List.getElem_cons_zero]
  refine wpAnyH_take (i := 10) (oi := _) (v := ?_) rfl (by kernel_rfl) (by kernel_rfl) (by kernel_rfl) (fun _ _ _ h => h) (Or.inl ⟨by rfl, ?_⟩) (by assumption) ?_
  rotate_left
  · intro w hSw
    try dsimp only at hSw
    go_simp
    all_goals with_reducible rfl
  try simp only [Act.put, List.setIfInBounds_toArray, List.set_cons_zero, List.set_cons_succ, List.getElem_toArray, List.getElem_cons_succ, List.getElem_cons_zero]
  refine wpAnyH_take (i := 11) (oi := _) (v := ?_) rfl (by kernel_rfl) (by kernel_rfl) (by kernel_rfl) (fun _ _ _ h => h) (Or.inl ⟨by rfl, ?_⟩) (by assumption) ?_
  rotate_left
  · intro w hSw
    try dsimp only at hSw
    go_simp
    all_goals with_reducible rfl
  try simp only [Act.put, List.setIfInBounds_toArray, List.set_cons_zero, List.set_cons_succ, List.getElem_toArray, List.getElem_cons_succ, List.getElem_cons_zero]
  refine wpAnyH_done (by kernel_rfl) ?_ _
  have o2 := obj_set (i := 1) (obj_set (i := 0) ob (Value.slice P p.length pk)) (Value.slice S rs.length k)
  have l0 := (obj_cell (i := 0) o2).trans rfl
  have l1 := (obj_cell (i := 1) o2).trans rfl
  have hsp : Span w.heap.size (w.heap.size + 1) w8 ((w8.setCell ⟨w.heap.size, 0, none⟩ (Value.slice P p.length pk)).setCell ⟨w.heap.size, 1, none⟩ (Value.slice S rs.length k)) :=
    (Span.set (p := ⟨w.heap.size, 0, none⟩) (Nat.le_refl _) (Nat.lt_succ_self _) _).trans (Span.set (p := ⟨w.heap.size, 1, none⟩) (Nat.le_refl _) (Nat.lt_succ_self _) _)
  have hP : In ((w8.setCell ⟨w.heap.size, 0, none⟩ (Value.slice P p.length pk)).setCell ⟨w.heap.size, 1, none⟩ (Value.slice S rs.length k)) P pk p := In.of_own (own_span ho8 hsp (fun g hg => .inr (by have := (ho8.lt g hg).1; omega))) (by have := hpl.out; omega)
  have hsz8 := hsp.size
  have hML : InL ((w8.setCell ⟨w.heap.size, 0, none⟩ (Value.slice P p.length pk)).setCell ⟨w.heap.size, 1, none⟩ (Value.slice S rs.length k)) S k rs :=
    (hOut8.span hsp (.inr (by omega))).read.toL (by rw [sizeR_2s HR2.out]; omega) (by have := hsp.size; have := HZW.out; omega)
  have hb9 := hb8.trans (((Below.refl w.heap.size w8).setCell (p := ⟨w.heap.size, 0, none⟩) (Nat.le_refl _) (Value.slice P p.length pk)).setCell (p := ⟨w.heap.size, 1, none⟩) (Nat.le_refl _) (Value.slice S rs.length k))
  clear hsp og ob o2 hS0 hS5 hS6 hS8 t0 t1 u0 u1 ho8 hOut8
  go_wp2_with fail
  refine bodyPost_ret (v := .tuple #[.agg #[.slice P p.length pk, .slice S rs.length k], .int .i64 (x - y), .int .i64 z]) (by simp [results, Try.results68, go_sem, l0, l1]) rfl ?_
  exact ⟨P, pk, p, S, k, rs, x - y, z, rfl, hpl.out, hrl, HR2.out, by omega, by omega, hz4.1, hz4.2, ⟨hP, hML⟩, hb9⟩
end Go.Proofs.Ythipikllgpnlhaa

/- The program's occurrences: all ascending places, those that have the pattern. -/
namespace Go.Proofs.Ythipikllgpnlhaa
set_option maxRecDepth 100000
open Go Go.RowKit

theorem pow_eight {n i : Nat} (hn : n ≤ 8) (hi : i ≤ 8) : n ^ i ≤ 16777216 := by
  have h1 : n ^ i ≤ 8 ^ i := Nat.pow_le_pow_left hn i
  have h2 : 8 ^ i ≤ 8 ^ 8 := Nat.pow_le_pow_right (by omega) hi
  omega
def ascTo (l : List Int) (u : Nat) : List (List Int) := (marks (fromI l) u).map fun x => l ++ [x]
theorem ascTo_succ (l : List Int) (u : Nat) : ascTo l (u + 1) = ascTo l u ++ [l ++ [fromI l + u]] := by unfold ascTo; rw [marks_succ, List.map_append]; rfl
theorem ascTo_length (l : List Int) (u : Nat) : (ascTo l u).length = u := by unfold ascTo; rw [List.length_map, marks_len]
theorem ascX_take_le (n : Nat) (ls : List (List Int)) (j : Nat) (h : ∀ l ∈ ls, 1 ≤ fromI l) : (ascX n (ls.take j)).length ≤ ls.length * n := by
  have h1 := flatMap_le (asc1 n) n (ls.take j) (fun p hp => by
    unfold asc1
    rw [List.length_map]
    exact ways_le (h p ((List.take_sublist j ls).subset hp)))
  have h2 : (ls.take j).length ≤ ls.length := by simp; omega
  have h3 := Nat.mul_le_mul_right n h2
  exact Nat.le_trans h1 h3

set_option maxHeartbeats 8000000 in
theorem places_impl (n m : Nat) (w : World) (hn : n ≤ 8) (hm : m ≤ 8) :
    Calls Try.prog 133 #[.int .i64 n, .int .i64 m] w (RetL w (ascI n m)) := by
  obtain ⟨i0, hi, hz0, hz1, hz2⟩ := info_parts infoI
  obtain ⟨j0, hj, hy0, hy1, hy2⟩ := info_parts infoL
  have own0 : (w.alloc (.cells #[] 3)).ownsRow w.heap.size 3 1 (Row.v ⟨some ⟨w.heap.size, 0, none⟩, 0, []⟩) 0 (([] : List Int).map (Value.int .i64)) := World.ownsRow_lit w #[] 0 (Nat.le_refl _) (by unfold maxLen; omega) rfl
  have own1 : ((w.alloc (.cells #[] 3)).alloc (.cells #[.slice (some ⟨w.heap.size, 0, none⟩) 0 0] 24)).ownsRow w.heap.size 24 1 (.slice (some ⟨(w.alloc (.cells #[] 3)).heap.size, 0, none⟩) 1 1) 1 [.slice (some ⟨w.heap.size, 0, none⟩) 0 0] :=
    World.ownsRow_lit (w.alloc (.cells #[] 3)) #[.slice (some ⟨w.heap.size, 0, none⟩) 0 0] 1 (by simp) (by unfold maxLen; omega) rfl
  have hA := (Own.add (os := []) (r := ⟨some ⟨w.heap.size, 0, none⟩, 0, []⟩) (Own.nil_ (w := ((w.alloc (.cells #[] 3)).alloc (.cells #[.slice (some ⟨w.heap.size, 0, none⟩) 0 0] 24))) (lo := w.heap.size) (hi := w.heap.size)) (own0.alloc _) (by simp; omega) (Nat.le_refl _)).with_ (A := some ⟨(w.alloc (.cells #[] 3)).heap.size, 0, none⟩) (c := 1) (vs := [.slice (some ⟨w.heap.size, 0, none⟩) 0 0]) own1 (Nat.le_refl _)
  have hb0 : Below w.heap.size w ((w.alloc (.cells #[] 3)).alloc (.cells #[.slice (some ⟨w.heap.size, 0, none⟩) 0 0] 24)) := ((Below.refl _ _).alloc (Nat.le_refl _) _).alloc (by simp) _
  simp only [List.nil_append] at hA
  clear own0 own1
  go_enter Try.func133, Try.ntmps133
  go_wp2_with fail
  simp only [World.size_alloc] at hA
  go_loopw [5, 14] (fun v i wr => ∃ (k : Nat) (A : Option Addr) (c : Nat) (rs : List Row), k ≤ m ∧ i = .int .i64 k ∧ v = .slice A rs.length c ∧ Hid (rs.map Row.xs = ascI n k) ∧ Own wr w.heap.size wr.heap.size rs [⟨A, c, rs.map Row.v⟩] ∧ Below w.heap.size w wr) (fun _ i _ => m - (intOf i).toNat)
  case atStart => exact ⟨0, _, _, [⟨some ⟨w.heap.size, 0, none⟩, 0, []⟩], Nat.zero_le _, rfl, rfl, Lib.hid rfl, by simpa [Row.v] using hA, hb0⟩
  case round =>
    clear hA hb0
    obtain ⟨k, A, c, rs, hk, rfl, rfl, HX, hO, hb⟩ := hrel
    have hsz := hb.size
    have hlen : rs.length ≤ 16777216 := by
      have h1 := congrArg List.length HX.out
      have h2 := ascI_le n k
      have h3 := pow_eight hn (show k ≤ 8 by omega)
      rw [List.length_map] at h1
      omega
    rcases Nat.lt_or_ge k m with hlt | hge
    · have hRd := hO.read
      have hL0 := Own.lit (lo := wr.heap.size) wr (Nat.le_refl _)
      have hbL := (Below.refl wr.heap.size wr).alloc (Nat.le_refl _) (.cells #[] 24)
      have HFR := Lib.hid (show ∀ l ∈ rs.map Row.xs, 1 ≤ fromI l from fun l hl => by rw [HX.out] at hl; exact (ascI_mem hl).2.from)
      obtain ⟨wo, rfl⟩ : ∃ wo : World, wo = wr := ⟨_, rfl⟩
      clear hO
      go_wp2_with fail
      go_loopw [6, 19] (fun v i wr => ∃ (j : Nat) (A1 : Option Addr) (c1 : Nat) (rs1 : List Row), j ≤ rs.length ∧ i = .int .i64 j ∧ v = .slice A1 rs1.length c1 ∧ Hid (rs1.map Row.xs = ascX n ((rs.map Row.xs).take j)) ∧ Own wr wo.heap.size wr.heap.size rs1 [⟨A1, c1, rs1.map Row.v⟩] ∧ Below wo.heap.size wo wr) (fun _ i _ => rs.length - (intOf i).toNat)
      case atStart => exact ⟨0, _, _, [], Nat.zero_le _, rfl, rfl, Lib.hid rfl, hL0, hbL⟩
      case round =>
        clear hL0 hbL
        obtain ⟨j, A1, c1, rs1, hj1, rfl, rfl, HX1, hO1, hb1⟩ := hrel
        by_cases hlt1 : j < rs.length
        · have hRd1 := hRd.below hb1
          obtain ⟨b, off, rfl, _, hc⟩ := hRd1.at (by omega)
          have c1' := hc j hlt1
          have hp := hRd1.rd rs[j] (List.getElem_mem hlt1)
          have hpc := hRd1.cap rs[j] (List.getElem_mem hlt1)
          have hmem : rs[j].xs ∈ ascI n k := by rw [← HX.out]; exact List.mem_map.2 ⟨rs[j], List.getElem_mem hlt1, rfl⟩
          have hple : rs[j].xs.length ≤ 8 := by have := (ascI_mem hmem).1; omega
          have hasc := (ascI_mem hmem).2
          have hfrom := hasc.from
          have hfromle := hasc.le
          have hel1 : rs1.length ≤ 16777216 * 8 := by
            have h1 := congrArg List.length HX1.out
            have h2 := ascX_take_le n (rs.map Row.xs) j HFR.out
            rw [List.length_map] at h1 h2
            have h3 := Nat.mul_le_mul hlen hn
            omega
          obtain ⟨p, hpe⟩ : ∃ p : Row, p = rs[j] := ⟨_, rfl⟩
          rw [← hpe] at c1' hp hple hpc hasc hfrom hfromle
          obtain ⟨fr, hfr⟩ : ∃ fr : Nat, (fr : Int) = fromI p.xs := ⟨(fromI p.xs).toNat, by omega⟩
          have hfr1 : 1 ≤ fr := by omega
          have hfr2 : fr ≤ n + 1 := by omega
          obtain ⟨mm, hmm⟩ : ∃ mm : Nat, mm = ((n : Int) + 1 - fromI p.xs).toNat := ⟨_, rfl⟩
          have HMU := Lib.hid (show ∀ u : Nat, fr + u ≤ n ↔ u < mm from fun u => by omega)
          have hmn : mm ≤ n := by omega
          have HWA := Lib.hid (show asc1 n p.xs = ascTo p.xs mm by rw [hmm]; rfl)
          have HPE := Lib.hid hpe
          have HFI := Lib.hid hfr
          clear hpe hc hRd1 hmem hfr hmm
          obtain ⟨wi, rfl⟩ : ∃ wi : World, wi = wr := ⟨_, rfl⟩
          rcases Nat.eq_zero_or_pos p.xs.length with h0 | h0
          case' inl =>
            have HF := Lib.hid (show fr = 1 by have := HFI.out; rw [List.eq_nil_of_length_eq_zero h0, fromI_nil] at this; omega)
            have HS0 := Lib.hid (show (1 : Int) = (fr : Int) by rw [HF.out]; rfl)
            have d2 : decide (0 < p.xs.length) = false := decide_eq_false (by omega)
            have d3 : p.xs.length ≤ 0 := by omega
            clear h0
            go_wp2_with fail
            clear d2 d3
          case' inr =>
            obtain ⟨b2, off2, hA2, _, hc2⟩ := hp (by omega)
            have c2 := hc2 (p.xs.length - 1) (by omega)
            have HS0 := Lib.hid (show p.xs[p.xs.length - 1] + 1 = (fr : Int) by
              rw [HFI.out]
              have : p.xs.getLast? = some p.xs[p.xs.length - 1] := by rw [List.getLast?_eq_getElem?, List.getElem?_eq_getElem (by omega)]
              simp only [fromI, this])
            have d2 : decide (0 < p.xs.length) = true := decide_eq_true (by omega)
            have hb9 := hasc.1 p.xs[p.xs.length - 1] (List.getElem_mem (by omega))
            have e0 : 1 ≤ (p.xs.length : Int) := by omega
            have e2 : 0 ≤ (p.xs.length : Int) - 1 := by omega
            have e3 : (p.xs.length : Int) - 1 < p.xs.length := by omega
            have e1 : ((p.xs.length : Int) - 1).toNat = p.xs.length - 1 := by omega
            rw [hA2] at c1'
            clear hc2
            go_wp2_with fail
            clear d2 e0 e1 e2 e3 c2
            rw [← hA2]
            rw [← hA2] at c1'
            clear hA2
          all_goals
            go_loopw [6, 10] (fun v i wr => ∃ (u : Nat) (A2 : Option Addr) (c2 : Nat) (rs2 : List Row), u ≤ mm ∧ i = .int .i64 ((fr : Int) + u) ∧ v = .slice A2 rs2.length c2 ∧ Hid (rs2.map Row.xs = ascX n ((rs.map Row.xs).take j) ++ ascTo p.xs u) ∧ Own wr wo.heap.size wr.heap.size rs2 [⟨A2, c2, rs2.map Row.v⟩] ∧ Below wo.heap.size wo wr) (fun _ i _ => mm - ((intOf i).toNat - fr))
            case atStart => exact ⟨0, _, _, rs1, Nat.zero_le _, by rw [HS0.out]; simp, rfl, Lib.hid (by rw [HX1.out]; simp [ascTo, marks]), hO1, hb1⟩
            case round =>
              obtain ⟨u, A2, c2, rs2, hu, rfl, rfl, HX2, hO2, hb2⟩ := hrel
              have hel2 : rs2.length ≤ 16777216 * 8 + 8 := by
                have h1 := congrArg List.length HX2.out
                have h2 := ascX_take_le n (rs.map Row.xs) j HFR.out
                have h4 := ascTo_length p.xs u
                rw [List.length_append, List.length_map] at h1
                rw [List.length_map] at h2
                have h3 := Nat.mul_le_mul hlen hn
                omega
              rcases Nat.lt_or_ge u mm with hlt2 | hge2
              · have hle : fr + u ≤ n := (HMU.out u).2 hlt2
                have hp2 := (hRd.below hb2).rd p (by rw [HPE.out]; exact List.getElem_mem hlt1)
                have hsz2 := hb2.size
                have HT := Lib.hid (show ascTo p.xs (u + 1) = ascTo p.xs u ++ [p.xs ++ [(fr : Int) + u]] by rw [ascTo_succ, HFI.out])
                go_wp2_with fail
                (with_reducible refine (clone_any p.A p.c p.xs wr ⟨by omega, hpc, hp2.more hsz2⟩).mono ?_)
                rintro e wc ⟨A3, c3, rfl, q1, q2, hown, hbc⟩
                have hszc := hbc.size
                go_wp2_with (first | ((at_builtin; refine wpList_append_own _ rfl _ _ 24 rfl (wr.heap.size) 3 i0 (.int .i64 0) 1 8 Try.underlying24 hi hz0 hz1 hz2 rfl (by decide) _ _ _ rfl (World.ownsRow.alloc hown _) ⟨wc.heap.size, 0, none⟩ 1 1 [.int .i64 ((fr : Int) + u)] rfl rfl (cell_one_new _ _ _) (by intro u hu; simp at hu; subst hu; rfl) (by unfold maxLen; omega) (by omega) (by simp; omega) ?_; intro v1 w1 hown1 hgrow1 _); have hrow : w1.ownsRow wr.heap.size 3 1 v1 (p.xs.length + 1) ((p.xs ++ [(fr : Int) + u]).map (Value.int .i64)) := (by simpa using hown1); obtain ⟨A4, c4, rfl, _, _⟩ := own_shape hrow; have hg1 := grown_trans (World.grownBy_alloc wc (Obj.cells #[Value.int .i64 ((fr : Int) + u)] 3) _) hgrow1; have hsz1 := hg1.size; have hlm := fun g hg => hown.lt g hg; have hO3 := (hO2.below hbc).span (Span.of_grown (lo := wr.heap.size) (hi := wc.heap.size) hg1 hlm) (.inl (Nat.le_refl _)); have hO4 := hO3.add (r := ⟨A4, c4, p.xs ++ [(fr : Int) + u]⟩) (by simpa [Row.v] using hrow) (by omega) hsz2; have hbw := (hb2.trans (hbc.mono hsz2)).grown hg1 (by omega) (fun g hg => by have := hlm g hg; omega); have hown2 := hO4.outN (n := rs2.length) (by simp); clear hO3 hown hown1 hgrow1 hg1 hrow hlm) | (at_builtin; refine wpList_append_own _ rfl _ _ 25 rfl (wo.heap.size) 24 j0 (.slice none 0 0) 1 24 Try.underlying25 hj hy0 hy1 hy2 rfl (by decide) _ _ _ rfl (World.ownsRow.alloc hown2 _) ⟨w1.heap.size, 0, none⟩ 1 1 [Value.slice A4 (p.xs.length + 1) c4] rfl rfl (cell_one_at _ _ (by simp)) (by intro u hu; simp at hu; subst hu; rfl) (by unfold maxLen; omega) (by omega) (by simp; omega) ?_; intro v9 w9 hown9 hgrow9 _))
                obtain ⟨A5, c5, rfl, hO6, hg3⟩ := hO4.grow (Nat.le_refl _) (by simp) hown9 hgrow9
                have hbw3 := hbw.grown hg3 (by omega) (fun g hg => (hO4.olim (by simp) g hg).1)
                have K := Lib.hid (And.intro hO6 hbw3)
                clear hO6 hbw3 hown9 hgrow9 hg3 hO4 hbw hown2
                go_wp2_with fail
                go_roundw
                case rel => exact ⟨u + 1, A5, c5, rs2 ++ [⟨A4, c4, p.xs ++ [(fr : Int) + u]⟩], by omega, by go_num, by rw [List.length_append]; rfl, Lib.hid (by rw [HT.out, List.map_append, HX2.out]; simp), by simpa [Row.v] using K.out.1, K.out.2⟩
                case measure => simp [intOf]; omega
              · have hgt : n < fr + u := by have := (HMU.out u); omega
                obtain rfl : u = mm := by omega
                have HE := Lib.hid (show rs2.map Row.xs = ascX n ((rs.map Row.xs).take (j + 1)) by
                  rw [HX2.out]
                  unfold ascX
                  rw [flatMap_take _ _ _ (by simpa using hlt1)]
                  simp only [List.getElem_map]
                  rw [← HPE.out, HWA.out])
                go_wp2_with fail
                go_roundw
                case rel => exact ⟨j + 1, A2, c2, rs2, by omega, by go_num, rfl, HE, hO2, hb2⟩
                case measure => simp [intOf]; omega
        · obtain rfl : j = rs.length := by omega
          have HE := Lib.hid (show rs1.map Row.xs = ascI n (k + 1) by
            rw [HX1.out, List.take_of_length_le (by simp), HX.out]; rfl)
          go_wp2_with fail
          go_roundw
          case rel => exact ⟨k + 1, A1, c1, rs1, by omega, by go_num, rfl, HE, hO1.wider hsz (Nat.le_refl _), hb.trans (hb1.mono hsz)⟩
          case measure => simp [intOf]; omega
    · obtain rfl : k = m := by omega
      go_wp2_with fail
      go_ret
      exact ⟨A, c, rs, rfl, HX.out, hO, hb⟩
end Go.Proofs.Ythipikllgpnlhaa

/- Occurrences in the program, and in the reference. -/
namespace Go.Proofs.Ythipikllgpnlhaa
set_option maxRecDepth 100000
open Go Go.RowKit

theorem atL_take (p l : List Int) (k : Nat) (h : k < l.length) (c : Nat) (hc : (c : Int) + 1 = l[k]) (hp : c < p.length) : atL p (l.take (k + 1)) = atL p (l.take k) ++ [p[c]] := by
  unfold atL
  rw [List.take_succ_eq_append_getElem h, List.map_append, ← hc]
  simp only [List.map_cons, List.map_nil, Int.add_sub_cancel, Int.toNat_natCast]
  rw [List.getElem?_eq_getElem hp]; rfl
set_option maxHeartbeats 2000000 in
theorem isOcc_impl (A B D : Option Addr) (c d f : Nat) (p q l : List Int) (w : World) (hp : In w A c p) (hq : In w B d q) (hl : In w D f l) (hl8 : l.length ≤ 8) (hm : ∀ x ∈ l, 1 ≤ x ∧ x ≤ p.length) :
    Calls Try.prog 134 #[.slice A p.length c, .slice B q.length d, .slice D l.length f] w (Rb w (.bool (decide (patL (atL p l) = q)))) := by
  obtain ⟨i0, hi, hz0, hz1, hz2⟩ := info_parts infoI
  have hlp := hp.len
  have hlq := hq.len
  go_enter Try.func134, Try.ntmps134
  go_wp2_with fail
  have hown0 : (w.alloc (.cells #[] 3)).ownsRow w.heap.size 3 1 (.slice (some ⟨w.heap.size, 0, none⟩) 0 0) 0 ((atL p (l.take 0)).map (Value.int .i64)) := World.ownsRow_lit w #[] 0 (Nat.le_refl _) (by unfold maxLen; omega) rfl
  have hb0 := (Below.refl w.heap.size w).alloc (Nat.le_refl _) (.cells #[] 3)
  go_loopw [7, 13] (fun v i wr => ∃ (k : Nat) (A1 : Option Addr) (c1 : Nat), k ≤ l.length ∧ i = .int .i64 k ∧ v = .slice A1 k c1 ∧ wr.ownsRow w.heap.size 3 1 (.slice A1 k c1) k ((atL p (l.take k)).map (Value.int .i64)) ∧ Below w.heap.size w wr) (fun _ i _ => l.length - (intOf i).toNat)
  case atStart => exact ⟨0, _, _, Nat.zero_le _, rfl, rfl, hown0, hb0⟩
  case round =>
    clear hown0 hb0
    obtain ⟨k, A1, c1, hk, rfl, rfl, hown, hb⟩ := hrel
    have hsz := hb.size
    rcases Nat.lt_or_ge k l.length with hlt | hge
    · obtain ⟨bl, ol, rfl, _, hcl⟩ := (hl.next hb).rd (by omega)
      have hxl := hm l[k] (List.getElem_mem hlt)
      obtain ⟨ck, hck⟩ : ∃ ck : Nat, (ck : Int) + 1 = l[k] := ⟨(l[k] - 1).toNat, by omega⟩
      have hckp : ck < p.length := by omega
      obtain ⟨bp, op, rfl, _, hcp⟩ := (hp.next hb).rd (by omega)
      have g1 := hcl k hlt
      have g2 := hcp ck hckp
      rw [← hck] at g1
      have HS := Lib.hid (atL_take p l k hlt ck hck hckp)
      have e1 : IntKind.i64.wrap ((ck : Int) + 1 - 1) = (ck : Int) := by rw [Int.add_sub_cancel]; exact IntWalk.i64_in _ (by omega)
      clear hcl hcp hxl hck
      go_wp2_with (at_builtin; refine wpList_append_own _ rfl _ _ 24 rfl (w.heap.size) 3 i0 (.int .i64 0) 1 8 Try.underlying24 hi hz0 hz1 hz2 rfl (by decide) _ _ _ rfl (World.ownsRow.alloc hown _) ⟨wr.heap.size, 0, none⟩ 1 1 [.int .i64 (p[ck])] rfl rfl (cell_one_new _ _ _) (by intro u hu; simp at hu; subst hu; rfl) (by unfold maxLen; omega) (by omega) (by simp; omega) ?_; intro v1 w1 hown1 hgrow1 _)
      have hS2 : w1.ownsRow w.heap.size 3 1 v1 (k + 1) ((atL p (l.take (k + 1))).map (Value.int .i64)) := by rw [HS.out]; simpa using hown1
      have hb1 := (hb.alloc hsz (Obj.cells #[Value.int .i64 p[ck]] 3)).grown hgrow1 (by simp; omega) (by intro g hg; exact ((hown.lt g hg).1))
      obtain ⟨A2, c2, rfl, _, _⟩ := own_shape hS2
      have H1 := Lib.hid hS2
      have H2 := Lib.hid hb1
      clear hS2 hown1 hgrow1 hb1 hown hb
      go_wp2
      go_roundw
      case rel => exact ⟨k + 1, A2, c2, by omega, by go_num, rfl, H1.out, H2.out⟩
      case measure => simp [intOf]; omega
    · obtain rfl : k = l.length := by omega
      rw [List.take_length] at hown
      have HL := Lib.hid (atL_length p l)
      have hr1 : Rd (Value.int .i64) wr wr.heap.size A1 (atL p l) := Rd.of_own (by rw [HL.out]; exact hown)
      go_wp2_with fail
      (with_reducible refine (pattern_impl A1 c1 l.length (atL p l) wr HL.out (by omega) hr1).mono ?_)
      rintro e w2 ⟨A2, c2, rfl, _, _, o2, hb2⟩
      have hq2 := ((hq.next hb).next hb2).rd
      have hr2 := Rd.of_own o2
      have hplen : (patL (atL p l)).length ≤ 4611686018427387904 := by rw [patL_length, atL_length]; omega
      go_wp2_with fail
      (with_reducible refine (equal_b A2 B c2 d (patL (atL p l)).length q.length (patL (atL p l)) q w2 _ rfl rfl hplen hr2 hq2 rfl).mono ?_)
      rintro e w3 ⟨rfl, hd3⟩
      go_wp2_with fail
      go_ret
      exact ⟨rfl, below_dr (hb.trans (hb2.mono hsz)) hd3⟩
/-- The first k rows that are kept. -/
def keptR (H : List Int → Bool) (rs : List Row) (k : Nat) : List Row := (rs.take k).filter fun r => H r.xs
theorem keptR_succ (H : List Int → Bool) (rs : List Row) (k : Nat) (h : k < rs.length) : keptR H rs (k + 1) = if H rs[k].xs = true then keptR H rs k ++ [rs[k]] else keptR H rs k := by
  unfold keptR
  rw [List.take_succ_eq_append_getElem h, List.filter_append]
  by_cases hh : H rs[k].xs = true <;> simp [hh]
theorem keptR_le (H : List Int → Bool) (rs : List Row) (k : Nat) : (keptR H rs k).length ≤ rs.length := by
  unfold keptR
  have h1 := List.length_filter_le (fun r : Row => H r.xs) (rs.take k)
  have h2 : (rs.take k).length ≤ rs.length := by simp; omega
  omega
theorem keptR_sub (H : List Int → Bool) (rs : List Row) : (keptR H rs rs.length).Sublist rs := by unfold keptR; rw [List.take_length]; exact List.filter_sublist
theorem keptR_all (H : List Int → Bool) (rs : List Row) : (keptR H rs rs.length).map Row.xs = (rs.map Row.xs).filter H := by unfold keptR; rw [List.take_length, List.filter_map]; rfl

set_option maxHeartbeats 4000000 in
theorem occurrences_impl (A B : Option Addr) (c d : Nat) (p q : List Int) (w : World) (hp : In w A c p) (hq : In w B d q) (hp8 : p.length ≤ 8) (hq8 : q.length ≤ 8) :
    Calls Try.prog 122 #[.slice A p.length c, .slice B q.length d] w (RetL w (occI p q)) := by
  obtain ⟨j0, hj, hy0, hy1, hy2⟩ := info_parts infoL
  have hown0 : (w.alloc (.cells #[] 24)).ownsRow w.heap.size 24 1 (.slice (some ⟨w.heap.size, 0, none⟩) 0 0) 0 [] := World.ownsRow_lit w #[] 0 (Nat.le_refl _) (by unfold maxLen; omega) rfl
  have hb0 := (Below.refl w.heap.size w).alloc (Nat.le_refl _) (.cells #[] 24)
  go_enter Try.func122, Try.ntmps122
  go_wp2_with fail
  (with_reducible refine (places_impl p.length q.length (w.alloc (.cells #[] 24)) hp8 hq8).mono ?_)
  rintro e w1 ⟨A1, c1, rs, rfl, hX, hO, hb1⟩
  have hst : Sift w1 w.heap.size (w.alloc (.cells #[] 24)).heap.size w1.heap.size rs ⟨A1, c1, rs.map Row.v⟩ (some ⟨w.heap.size, 0, none⟩) 0 [] := Sift.start hO hown0 hb1 (Nat.le_refl _)
  have hbw1 := hb0.trans (hb1.mono hb0.size)
  have hlen : rs.length ≤ 16777216 := by
    have h1 := congrArg List.length hX
    have h2 := ascI_le p.length q.length
    have h3 := pow_eight hp8 hq8
    rw [List.length_map] at h1
    omega
  have HX := Lib.hid hX
  have hsz01 : w.heap.size + 1 ≤ w1.heap.size := by have := hb1.size; simp at this; omega
  have hsz0 : (w.alloc (Obj.cells #[] 24)).heap.size = w.heap.size + 1 := by simp
  rw [hsz0] at hst
  clear hX hO hb1 hown0 hb0 hsz0
  go_wp2_with fail
  go_loopw [5, 15] (fun v i wr => ∃ (k : Nat) (A2 : Option Addr) (c2 : Nat) (vs : List Value), k ≤ rs.length ∧ i = .int .i64 k ∧ v = .slice A2 vs.length c2 ∧ Hid (vs = (keptR (fun l => decide (patL (atL p l) = q)) rs k).map Row.v) ∧
    Sift wr w.heap.size (w.heap.size + 1) w1.heap.size rs ⟨A1, c1, rs.map Row.v⟩ A2 c2 vs ∧ Below w.heap.size w wr ∧ w1.heap.size ≤ wr.heap.size) (fun _ i _ => rs.length - (intOf i).toNat)
  case atStart => exact ⟨0, _, _, [], Nat.zero_le _, rfl, rfl, Lib.hid rfl, hst, hbw1, Nat.le_refl _⟩
  case round =>
    clear hst hbw1
    obtain ⟨k, A2, c2, vs, hk, rfl, rfl, HV, hS, hb, hsz⟩ := hrel
    have hvl : vs.length ≤ 16777216 := by
      have h1 := keptR_le (fun l => decide (patL (atL p l) = q)) rs k
      have h2 := congrArg List.length HV.out
      rw [List.length_map] at h2
      omega
    rcases Nat.lt_or_ge k rs.length with hlt | hge
    · have hRd := hS.rows.read
      obtain ⟨b, off, rfl, _, hc⟩ := hRd.at (by omega)
      have cc := hc k hlt
      have hmem : rs[k].xs ∈ ascI p.length q.length := by rw [← HX.out]; exact List.mem_map.2 ⟨rs[k], List.getElem_mem hlt, rfl⟩
      have hml := (ascI_mem hmem).1
      have hma := (ascI_mem hmem).2
      have hin := row_in hRd (List.getElem_mem hlt) (by omega) hsz
      have hmm : ∀ x ∈ rs[k].xs, 1 ≤ x ∧ x ≤ p.length := fun x hx => by have := hma.1 x hx; omega
      have HK := Lib.hid (keptR_succ (fun l => decide (patL (atL p l) = q)) rs k hlt)
      have hl8 : rs[k].xs.length ≤ 8 := by omega
      clear hc hmem hml hma
      go_wp2_with fail
      (with_reducible refine (isOcc_impl A B rs[k].A c d rs[k].c p q rs[k].xs wr (hp.next hb) (hq.next hb) hin hl8 hmm).mono ?_)
      rintro e w2 ⟨rfl, hb2⟩
      have hS2 := hS.below hb2
      have hbw := hb.trans (hb2.mono hb.size)
      have hsz2 : w1.heap.size ≤ w2.heap.size := by have := hb2.size; omega
      by_cases hH : decide (patL (atL p rs[k].xs) = q) = true
      · have HT := Lib.hid (show keptR (fun l => decide (patL (atL p l) = q)) rs (k + 1) = keptR (fun l => decide (patL (atL p l) = q)) rs k ++ [rs[k]] by rw [HK.out, if_pos hH])
        have ho2 := hS2.outN (n := vs.length) rfl
        have hol := hS2.olim (n := vs.length) rfl
        rw [hH]
        clear hH hS hRd
        go_wp2_with (at_builtin; refine wpList_append_own_at _ rfl _ _ 25 rfl (w.heap.size) 24 j0 (.slice none 0 0) 1 24 Try.underlying25 hj hy0 hy1 hy2 rfl (by decide) _ _ _ rfl (World.ownsRow.alloc ho2 _) ⟨w2.heap.size, 0, none⟩ 1 1 [Value.slice rs[k].A rs[k].xs.length rs[k].c] rfl rfl (cell_one_at _ _ (by simp)) (by intro u hu; simp at hu; subst hu; rfl) (by unfold maxLen; omega) (by omega) (by simp; omega) ?_; intro v9 w9 hown9 hgrow9 _ hat9)
        obtain ⟨A5, c5, rfl, hS3, hg3⟩ := hS2.grow hsz2 rfl hown9 hgrow9 hat9
        have hb3 := hbw.grown hg3 hbw.size hol
        have K := Lib.hid (And.intro hS3 hb3)
        have hsz3 : w1.heap.size ≤ w9.heap.size := by have := hg3.size; omega
        clear hS3 hb3 hown9 hgrow9 hat9 hg3 hS2 ho2 hol hbw
        go_wp2
        go_roundw
        case rel => exact ⟨k + 1, A5, c5, vs ++ [Value.slice rs[k].A rs[k].xs.length rs[k].c], by omega, by go_num, by rw [List.length_append]; rfl, Lib.hid (by rw [HT.out, List.map_append, HV.out]; rfl), K.out.1, K.out.2, hsz3⟩
        case measure => simp [intOf]; omega
      · have hHf : decide (patL (atL p rs[k].xs) = q) = false := by simpa using hH
        have HT := Lib.hid (show keptR (fun l => decide (patL (atL p l) = q)) rs (k + 1) = keptR (fun l => decide (patL (atL p l) = q)) rs k by rw [HK.out, if_neg hH])
        rw [hHf]
        clear hH hHf hS hRd
        go_wp2
        go_roundw
        case rel => exact ⟨k + 1, A2, c2, vs, by omega, by go_num, rfl, Lib.hid (by rw [HT.out, HV.out]), hS2, hbw, hsz2⟩
        case measure => simp [intOf]; omega
    · obtain rfl : k = rs.length := by omega
      have hfin := hS.done HV.out (keptR_sub _ _) (Nat.le_succ _) hsz
      have HLE := Lib.hid (show vs.length = (keptR (fun l => decide (patL (atL p l) = q)) rs rs.length).length by rw [HV.out, List.length_map])
      go_wp2
      go_ret
      exact ⟨A2, c2, keptR (fun l => decide (patL (atL p l) = q)) rs rs.length, by rw [HLE.out]; rfl, by rw [keptR_all, HX.out]; rfl, hfin, hb⟩

set_option maxHeartbeats 1000000 in
theorem occurrencesOf_spec (A B : Option Addr) (c d : Nat) (p q : List Int) (w : World) (hp : In w A c p) (hq : In w B d q) (hP : permB p = true) (hQ : permB q = true) :
    Calls Try.prog 90 #[.slice A p.length c, .slice B q.length d] w (RetL w (occL p q)) := by
  have hp8 := (permB_true hP).1
  have hq8 := (permB_true hQ).1
  have H1 := Lib.hid hP
  have H2 := Lib.hid hQ
  clear hP hQ
  go_enter Try.func90, Try.ntmps90
  go_wp2_with fail
  (with_reducible refine (isPerm_sb A c p w true hp H1.out).mono ?_)
  rintro e w1 ⟨rfl, hd1⟩
  go_wp2_with fail
  (with_reducible refine (isPerm_sb B d q w1 true (hq.dr hd1) H2.out).mono ?_)
  rintro e w2 ⟨rfl, hd2⟩
  have hd := hd1.trans hd2
  have hb := below_dr (Below.refl w.heap.size w) hd
  have hs : w2.heap.size = w.heap.size := by rw [hd.heap]
  have FR := find_root A B c d p q w2 (hp.dr hd) (hq.dr hd) hp8 hq8
  have FRH := Lib.hid FR
  have HS := Lib.hid hs
  clear FR hs
  go_wp2_with fail
  (with_reducible refine FRH.out.mono ?_)
  rintro e w3 ⟨A3, c3, rs, rfl, hX, hO, hb3⟩
  have HX := Lib.hid hX
  clear hX FRH
  go_wp2_with fail
  go_ret
  have hle : w.heap.size ≤ w2.heap.size := by have := HS.out; omega
  exact ⟨A3, c3, rs, rfl, HX.out, hO.wider hle (Nat.le_refl _), hb.trans (hb3.mono hle)⟩
end Go.Proofs.Ythipikllgpnlhaa
