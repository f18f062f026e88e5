/- Several texts in one, each with its own head: DM, D7, D8. No program of ours. -/
import Derived.Deep.RegionHeld3
import Derived.Test.YthipikllgpnlhaaMMeshes6
/- A mesh, or a pattern with joined places, that a draw builds in a box: what stands while it grows. Plain lemmas. -/
namespace Go.Proofs.Ythipikllgpnlhaa
set_option maxRecDepth 100000
open Go Go.RowKit

/-- A block of another type is written. -/
theorem own_boxed {w : World} {base e n g i : Nat} {v u : Value} {xs : List Value} {cs : Array Value} {t : TypeId} (h : w.ownsRow base e 1 v n xs) (ho : w.heap[g]? = some (Obj.cells cs t (0, 0))) (hne : t ≠ e) : (w.setCell ⟨g, i, none⟩ u).ownsRow base e 1 v n xs := by
  refine own_span h (Span.set (p := ⟨g, i, none⟩) (Nat.le_refl g) (Nat.lt_succ_self g) u) fun q hq => ?_
  rcases h.2 with ⟨e1, _⟩ | ⟨g1, c1, cur1, e1', _, hh1, _⟩
  · rw [e1] at hq; cases hq
  · rw [e1'] at hq
    injection hq with hq
    have hq : g1 = q := hq
    subst hq
    by_cases hgq : g1 = g
    · subst hgq
      rw [ho] at hh1
      injection hh1 with hh1
      injection hh1 with _ ht _
      exact absurd ht hne
    · omega
theorem Own.boxed {w : World} {lo hi g i : Nat} {u : Value} {cs : Array Value} {t : TypeId} {rs : List Row} {os : List Outer} (h : Own w lo hi rs os) (ho : w.heap[g]? = some (Obj.cells cs t (0, 0))) (h1 : t ≠ 3) (h2 : t ≠ 24) : Own (w.setCell ⟨g, i, none⟩ u) lo hi rs os :=
  ⟨fun r hr => own_boxed (h.rows r hr) ho h1, h.lt, h.apart, fun o hq => own_boxed (h.outs o hq) ho h2, h.olt⟩
theorem own_noblock {w : World} {base e n g : Nat} {v : Value} {xs : List Value} {cs : Array Value} {t : TypeId} (h : w.ownsRow base e 1 v n xs) (ho : w.heap[g]? = some (Obj.cells cs t (0, 0))) (hne : t ≠ e) : some g ≠ v.ownBlock := by
  intro e'
  rcases h.2 with ⟨e1, _⟩ | ⟨g1, c1, cur1, e1, _, hh1, _⟩
  · rw [e1] at e'; cases e'
  · rw [e1] at e'
    injection e' with e'
    have e' : g = g1 := e'
    subst e'
    rw [ho] at hh1
    injection hh1 with hh1
    injection hh1 with _ ht _
    exact hne ht
theorem own_lit1 {w : World} {lo bl : Nat} {x : Int} (h : w.heap[bl]? = some (Obj.cells #[.int .i64 x] 3 (0, 0))) (hl : lo ≤ bl) : w.ownsRow lo 3 1 (.slice (some ⟨bl, 0, none⟩) [x].length 1) [x].length ([x].map (Value.int .i64)) :=
  ⟨rfl, .inr ⟨bl, 1, #[.int .i64 x], rfl, hl, h, Nat.le_refl _, by unfold maxLen; omega, rfl, rfl⟩⟩
theorem own_lit2 {w : World} {lo bl : Nat} {x y : Int} (h : w.heap[bl]? = some (Obj.cells #[.int .i64 x, .int .i64 y] 3 (0, 0))) (hl : lo ≤ bl) : w.ownsRow lo 3 1 (.slice (some ⟨bl, 0, none⟩) [x, y].length 2) [x, y].length ([x, y].map (Value.int .i64)) :=
  ⟨rfl, .inr ⟨bl, 2, #[.int .i64 x, .int .i64 y], rfl, hl, h, Nat.le_refl _, by unfold maxLen; omega, rfl, rfl⟩⟩
theorem sizeR_le2 {rs : List Row} (h : ∀ r ∈ rs, r.xs.length ≤ 2) : sizeR rs ≤ 2 * rs.length := by
  induction rs with
  | nil => exact Nat.le_refl _
  | cons r t ih =>
    have h1 := ih fun s hs => h s (List.mem_cons_of_mem _ hs)
    have h2 := h r List.mem_cons_self
    simp only [sizeR, List.map_cons, List.sum_cons, List.length_cons] at h1 ⊢
    omega
/-- The mesh in block G; the result's box in block b2. -/
structure MeshSt (w0 wz : World) (q G b2 : Nat) (A : Option Addr) (c : Nat) (bs : List Int) (P : Option Addr) (pk : Nat) (p : List Int) (S : Option Addr) (k : Nat) (rs : List Row) : Prop where
  og : wz.heap[G]? = some (Obj.cells #[Value.slice P p.length pk, Value.slice S rs.length k] 27)
  ob : wz.heap[b2]? = some (Obj.cells #[Value.slice none 0 0, Value.slice none 0 0] 27)
  own : Own wz w0.heap.size wz.heap.size rs [⟨S, k, rs.map Row.v⟩]
  ownP : wz.ownsRow w0.heap.size 3 1 (.slice P p.length pk) p.length (p.map (Value.int .i64))
  dr : Drawn w0 wz q A c bs
  hq : q < w0.heap.size
  hG : w0.heap.size ≤ G
  hb : w0.heap.size ≤ b2
  hne : G ≠ b2
section
variable {w0 wz wy : World} {q G b2 : Nat} {A : Option Addr} {c : Nat} {bs : List Int} {P : Option Addr} {pk : Nat} {p : List Int} {S : Option Addr} {k : Nat} {rs : List Row}
theorem MeshSt.below (h : MeshSt w0 wz q G b2 A c bs P pk p S k rs) (hb : Below wz.heap.size wz wy) : MeshSt w0 wy q G b2 A c bs P pk p S k rs :=
  ⟨obj_below h.og hb (obj_lt h.og), obj_below h.ob hb (obj_lt h.ob), (h.own.below hb).wider (Nat.le_refl _) hb.size, own_below h.ownP hb, h.dr.next (hb.mono h.dr.span.size) h.hq, h.hq, h.hG, h.hb, h.hne⟩
theorem MeshSt.alloc (h : MeshSt w0 wz q G b2 A c bs P pk p S k rs) (o : Obj) : MeshSt w0 (wz.alloc o) q G b2 A c bs P pk p S k rs := h.below ((Below.refl _ _).alloc (Nat.le_refl _) o)
theorem MeshSt.moved (h : MeshSt w0 wz q G b2 A c bs P pk p S k rs) (hd : Dr wz wy) : MeshSt w0 wy q G b2 A c bs P pk p S k rs := h.below (below_dr (Below.refl _ _) hd)
theorem MeshSt.drawn (h : MeshSt w0 wz q G b2 A c bs P pk p S k rs) (ka : Drawn wz wy q A c bs) : MeshSt w0 wy q G b2 A c bs P pk p S k rs :=
  ⟨(ka.span.block G (obj_lt h.og) (.inr (by have := h.hG; have := h.hq; omega))).trans h.og, (ka.span.block b2 (obj_lt h.ob) (.inr (by have := h.hb; have := h.hq; omega))).trans h.ob,
    (h.own.span ka.span (.inr h.hq)).wider (Nat.le_refl _) ka.span.size, own_drawn h.ownP ka h.hq, h.dr.trans ka, h.hq, h.hG, h.hb, h.hne⟩
theorem MeshSt.cells (h : MeshSt w0 wz q G b2 A c bs P pk p S k rs) : wz.cell? ⟨G, 0, none⟩ = some (Value.slice P p.length pk) ∧ wz.cell? ⟨G, 1, none⟩ = some (Value.slice S rs.length k) := ⟨(obj_cell h.og).trans rfl, (obj_cell h.og).trans rfl⟩
/-- A row is put at the end. -/
theorem MeshSt.push {w9 : World} {r : Row} {lit o : Obj} {v9 : Value} {n : Nat} (h : MeshSt w0 wz q G b2 A c bs P pk p S k rs) (hn : rs.length = n)
    (hr : (wz.alloc lit).ownsRow wz.heap.size 3 1 r.v r.xs.length (r.xs.map (Value.int .i64))) (h9 : w9.ownsRow w0.heap.size 24 1 v9 (n + 1) (rs.map Row.v ++ [r.v])) (hg : ((wz.alloc lit).alloc o).grownBy w9 (Value.slice S n k).ownBlock) :
    ∃ A2 c2, v9 = .slice A2 (n + 1) c2 ∧ w9.cell? ⟨G, 1, none⟩ = some (.slice S n k) ∧ w9.frozen? ⟨G, 1, none⟩ = false ∧
      Hid (MeshSt w0 (w9.setCell ⟨G, 1, none⟩ (.slice A2 (n + 1) c2)) q G b2 A c bs P pk p A2 c2 (rs ++ [r])) := by
  subst hn
  have hsz : wz.heap.size ≤ (wz.alloc lit).heap.size := by simp
  have hA := h.alloc lit
  have h1 : Own (wz.alloc lit) w0.heap.size (wz.alloc lit).heap.size (rs ++ [r]) [⟨S, k, rs.map Row.v⟩] :=
    ((hA.own.bare.lim wz.heap.size h.own.lt).add hr hsz h.dr.span.size).with_ hA.own.out (Nat.le_refl _)
  obtain ⟨A2, c2, rfl, hO, hgg⟩ := h1.grow (Nat.le_refl _) (by simp) h9 hg
  have hout : (wz.alloc lit).ownsRow w0.heap.size 24 1 (.slice S rs.length k) rs.length (rs.map Row.v) := by have := hA.own.out; simpa using this
  have og := (hgg.block G (obj_lt hA.og) (own_noblock hout hA.og (by decide))).trans hA.og
  have ob := (hgg.block b2 (obj_lt hA.ob) (own_noblock hout hA.ob (by decide))).trans hA.ob
  have hP := hA.ownP.kept hgg (own_typesO hA.ownP hout (by decide))
  have hb9 : Below w0.heap.size (wz.alloc lit) w9 := (Below.refl _ _).grown hgg hA.dr.span.size fun g hg => (hout.lt g hg).1
  have hd9 := (hA.dr.next hb9 h.hq).next ((Below.refl w0.heap.size w9).setCell (p := ⟨G, 1, none⟩) h.hG (.slice A2 (rs.length + 1) c2)) h.hq
  refine ⟨A2, c2, rfl, (obj_cell og).trans rfl, obj_frozen og, Lib.hid ⟨?_, ?_, ?_, own_boxed hP og (by decide), hd9, h.hq, h.hG, h.hb, h.hne⟩⟩
  · have := obj_set (i := 1) og (Value.slice A2 (rs.length + 1) c2)
    simpa using this
  · exact obj_other ob h.hne _
  · have h2 := (hO.boxed (g := G) (i := 1) (u := Value.slice A2 (rs.length + 1) c2) og (by decide) (by decide)).wider (Nat.le_refl _) (show w9.heap.size ≤ (w9.setCell ⟨G, 1, none⟩ (Value.slice A2 (rs.length + 1) c2)).heap.size by simp [World.setCell])
    simpa using h2
/-- Another permutation is laid into the box. -/
theorem MeshSt.perm {P' : Option Addr} {pk' : Nat} {p' : List Int} (h : MeshSt w0 wz q G b2 A c bs P pk p S k rs) (hP : wz.ownsRow w0.heap.size 3 1 (.slice P' p'.length pk') p'.length (p'.map (Value.int .i64))) :
    MeshSt w0 (wz.setCell ⟨G, 0, none⟩ (.slice P' p'.length pk')) q G b2 A c bs P' pk' p' S k rs := by
  refine ⟨?_, obj_other h.ob h.hne _, (h.own.boxed h.og (by decide) (by decide)).wider (Nat.le_refl _) (by simp [World.setCell]), own_boxed hP h.og (by decide), h.dr.next ((Below.refl w0.heap.size wz).setCell (p := ⟨G, 0, none⟩) h.hG _) h.hq, h.hq, h.hG, h.hb, h.hne⟩
  have := obj_set (i := 0) h.og (Value.slice P' p'.length pk')
  simpa using this
/-- The result is laid into its box. -/
theorem MeshSt.fin (h : MeshSt w0 wz q G b2 A c bs P pk p S k rs) :
    ((wz.setCell ⟨b2, 0, none⟩ (.slice P p.length pk)).setCell ⟨b2, 1, none⟩ (.slice S rs.length k)).ownsRow w0.heap.size 3 1 (.slice P p.length pk) p.length (p.map (Value.int .i64)) ∧
    Own ((wz.setCell ⟨b2, 0, none⟩ (.slice P p.length pk)).setCell ⟨b2, 1, none⟩ (.slice S rs.length k)) w0.heap.size ((wz.setCell ⟨b2, 0, none⟩ (.slice P p.length pk)).setCell ⟨b2, 1, none⟩ (.slice S rs.length k)).heap.size rs [⟨S, k, rs.map Row.v⟩] ∧
    Drawn w0 ((wz.setCell ⟨b2, 0, none⟩ (.slice P p.length pk)).setCell ⟨b2, 1, none⟩ (.slice S rs.length k)) q A c bs ∧
    ((wz.setCell ⟨b2, 0, none⟩ (.slice P p.length pk)).setCell ⟨b2, 1, none⟩ (.slice S rs.length k)).heap[b2]? = some (Obj.cells #[Value.slice P p.length pk, Value.slice S rs.length k] 27) := by
  have o1 := obj_set (i := 0) h.ob (Value.slice P p.length pk)
  have o2 := obj_set (i := 1) o1 (Value.slice S rs.length k)
  have hP := own_boxed (i := 1) (u := Value.slice S rs.length k) (own_boxed (i := 0) (u := Value.slice P p.length pk) h.ownP h.ob (by decide)) o1 (by decide)
  have hO := (h.own.boxed (i := 0) (u := Value.slice P p.length pk) h.ob (by decide) (by decide)).boxed (i := 1) (u := Value.slice S rs.length k) o1 (by decide) (by decide)
  refine ⟨hP, hO.wider (Nat.le_refl _) (by simp [World.setCell]), h.dr.next (((Below.refl w0.heap.size wz).setCell (p := ⟨b2, 0, none⟩) h.hb _).setCell (p := ⟨b2, 1, none⟩) h.hb _) h.hq, ?_⟩
  simpa using o2
end
end Go.Proofs.Ythipikllgpnlhaa

/- l9Draw, DrawCountMesh: a mesh that is drawn. Written by gen/gend7.py. -/
namespace Go.Proofs.Ythipikllgpnlhaa
set_option maxRecDepth 100000
open Go Go.RowKit

/-- A mesh was drawn. -/
def RetDM (w : World) (q : Nat) (A : Option Addr) (c : Nat) (bs : List Int) (en : Ending) (w' : World) : Prop :=
  ∃ (P : Option Addr) (pk : Nat) (p : List Int) (S : Option Addr) (k : Nat) (rs : List Row), en = .returned (.agg #[.slice P p.length pk, .slice S rs.length k]) ∧ p.length ≤ 5 ∧ rs.length ≤ 17 ∧ (∀ r ∈ rs, r.xs.length ≤ 2) ∧
    w'.ownsRow w.heap.size 3 1 (.slice P p.length pk) p.length (p.map (Value.int .i64)) ∧ Own w' w.heap.size w'.heap.size rs [⟨S, k, rs.map Row.v⟩] ∧ Drawn w w' q A c bs
set_option maxHeartbeats 8000000 in
theorem l9Draw_any (w : World) (q : Nat) (A : Option Addr) (c : Nat) (bs : List Int) (hc : Cur w q A c bs) :
    Calls Try.prog 73 #[.pointer (some ⟨q, 0, none⟩)] w (RetDM w q A c bs) := by
  obtain ⟨i0, hi, hz0, hz1, hz2⟩ := info_parts infoI
  obtain ⟨j0, hj, hy0, hy1, hy2⟩ := info_parts infoL
  have hq := hc.lt
  have ob := obj_alloc (obj_new w (Obj.cells #[Value.slice none 0 0, Value.slice none 0 0] 27)) (Obj.cells #[Value.int .i64 0, Value.int .i64 1, Value.int .i64 2, Value.int .i64 2, Value.int .i64 3, Value.int .i64 3] 3)
  have hbA : Below w.heap.size w ((w.alloc (Obj.cells #[Value.slice none 0 0, Value.slice none 0 0] 27)).alloc (Obj.cells #[Value.int .i64 0, Value.int .i64 1, Value.int .i64 2, Value.int .i64 2, Value.int .i64 3, Value.int .i64 3] 3)) := ((Below.refl _ _).alloc (Nat.le_refl _) _).alloc (by simp) _
  have kA := (Drawn.refl hc).next hbA hq
  have HP := Lib.hid (l1PickInt_any _ q A c bs (w.heap.size + 1) 6 6 [0, 1, 2, 2, 3, 3] rfl (by decide) (by decide) (by omega) (by simp) (fun j hj => (obj_cell (by have := obj_new (w.alloc (Obj.cells #[Value.slice none 0 0, Value.slice none 0 0] 27)) (Obj.cells #[Value.int .i64 0, Value.int .i64 1, Value.int .i64 2, Value.int .i64 2, Value.int .i64 3, Value.int .i64 3] 3); simpa using this)).trans (by
    have hj : j < 6 := hj
    rcases j with _ | _ | _ | _ | _ | _ | j
    all_goals first | rfl | omega)) kA.cur)
  go_enter Try.func73, Try.ntmps73
  go_wp2_with fail
  (with_reducible refine HP.out.mono ?_)
  rintro e w1 ⟨x, rfl, hx, k1⟩
  have hx8 : 0 ≤ x ∧ x ≤ 3 := by simp at hx; omega
  obtain ⟨n, rfl⟩ := Int.eq_ofNat_of_zero_le hx8.1
  have ob := (k1.span.block w.heap.size (obj_lt ob) (.inr (by omega))).trans ob
  have k1 := kA.trans k1
  have HD := Lib.hid (l2Draw_any w1 q A c bs n (by omega) k1.cur)
  clear HP hx
  go_wp2_with fail
  (with_reducible refine HD.out.mono ?_)
  rintro e w2 ⟨P, pk, p, rfl, hp, ho, k2⟩
  have hp3 : p.length ≤ 3 := by rw [hp.length_eq, upToL_length]; omega
  have ob := (k2.span.block w.heap.size (obj_lt ob) (.inr (by omega))).trans ob
  have hsz := k1.span.size
  have k2 := k1.trans k2
  have hsz2 := k2.span.size
  have hlt2 : w.heap.size < w2.heap.size := obj_lt ob
  have ho := (own_mono ho hsz).alloc (Obj.cells #[Value.slice P p.length pk, Value.slice none 0 0] 27)
  obtain ⟨G, hG⟩ : ∃ G, G = w2.heap.size := ⟨_, rfl⟩
  have M0 : MeshSt w (w2.alloc (Obj.cells #[Value.slice P p.length pk, Value.slice none 0 0] 27)) q G w.heap.size A c bs P pk p none 0 [] :=
    ⟨by rw [hG]; exact obj_new w2 _, obj_alloc ob _, Own.nil_list _ _ _, ho, k2.next ((Below.refl w.heap.size w2).alloc hsz2 _) hq, hq, by omega, Nat.le_refl _, by omega⟩
  have HGG := Lib.hid hG
  clear HD hp ob ho k1 k2 hbA kA hG
  go_wp2_with fail
  rw [← HGG.out]
  go_loopw [4, 5] (fun ix _ wr => ∃ (i : Nat) (S : Option Addr) (k : Nat) (rs : List Row), i ≤ p.length + 1 ∧ ix = .int .i64 i ∧ MeshSt w wr q G w.heap.size A c bs P pk p S k rs ∧ rs.length ≤ 4 * i ∧ ∀ r ∈ rs, r.xs.length ≤ 2) (fun ix _ _ => p.length + 1 - (intOf ix).toNat)
  case atStart => exact ⟨0, none, 0, [], Nat.zero_le _, rfl, M0, Nat.le_refl _, fun _ h => (List.not_mem_nil h).elim⟩
  case round =>
    clear M0
    obtain ⟨i, S, k, rs, hi1, rfl, M, hrl, hr2⟩ := hrel
    have HR2 := Lib.hid hr2
    have f0 := M.cells.1
    clear hr2
    rcases Nat.lt_or_ge i (p.length + 1) with hlt | hge
    · have l1 : (i : Int) ≤ (p.length : Int) := by omega
      go_wp2_with fail
      go_loopw [5] (fun ix wr => ∃ (j : Nat) (S : Option Addr) (k : Nat) (rs : List Row), j ≤ p.length + 1 ∧ ix = .int .i64 j ∧ MeshSt w wr q G w.heap.size A c bs P pk p S k rs ∧ rs.length ≤ 4 * i + j ∧ ∀ r ∈ rs, r.xs.length ≤ 2) (fun ix _ => p.length + 1 - (intOf ix).toNat)
      case atStart => exact ⟨0, S, k, rs, Nat.zero_le _, rfl, M, hrl, HR2.out⟩
      case round =>
        clear M f0 hrl HR2
        obtain ⟨j, S, k, rs, hj1, rfl, M, hrl, hr2⟩ := hrel
        have HR2 := Lib.hid hr2
        have f0 := M.cells.1
        clear hr2
        rcases Nat.lt_or_ge j (p.length + 1) with hltj | hgej
        · have l2 : (j : Int) ≤ (p.length : Int) := by omega
          have HO := Lib.hid (l1Once_any wr q A c bs 5 (by omega) M.dr.cur)
          go_wp2_with fail
          (with_reducible refine HO.out.mono ?_)
          rintro e wa ⟨b, rfl, ka⟩
          have M := M.drawn ka
          clear ka HO f0
          rcases b with _ | _
          · go_wp2_with fail
            go_roundw
            case rel => exact ⟨j + 1, S, k, rs, by omega, by go_num, M, by omega, HR2.out⟩
            case measure => simp [intOf]; omega
          · have f1 := M.cells.2
            have hO1 := (M.alloc (Obj.cells #[Value.int .i64 (i : Int), Value.int .i64 (j : Int)] 3)).own.outN (n := rs.length) (by simp)
            have hw0 := M.dr.span.size
            have hrow := own_lit2 (lo := wa.heap.size) (obj_new wa (Obj.cells #[Value.int .i64 (i : Int), Value.int .i64 (j : Int)] 3)) (Nat.le_refl _)
            have HM := Lib.hid M
            clear M
            go_wp2_with ((at_builtin; refine wpList_append_own _ rfl _ _ 25 rfl (w.heap.size) 24 j0 (.slice none 0 0) 1 24 Try.underlying25 hj hy0 hy1 hy2 rfl (by decide) _ _ _ rfl (World.ownsRow.alloc hO1 _) ⟨wa.heap.size + 1, 0, none⟩ 1 1 [Value.slice (some ⟨wa.heap.size, 0, none⟩) 2 2] rfl rfl (cell_one_at _ _ (by simp)) (by intro u hu; simp at hu; subst hu; rfl) (by unfold maxLen; omega) (by omega) (by simp; omega) ?_; intro v9 w9 hown9 hgrow9 _)
                         obtain ⟨A2, c2, rfl, f7, u7, K⟩ := MeshSt.push (r := ⟨some ⟨wa.heap.size, 0, none⟩, 2, [(i : Int), (j : Int)]⟩) HM.out rfl hrow hown9 hgrow9)
            go_roundw
            case rel => exact ⟨j + 1, A2, c2, rs ++ [⟨some ⟨wa.heap.size, 0, none⟩, 2, [(i : Int), (j : Int)]⟩], by omega, by go_num, by simpa using K.out, by simp; omega, fun r hr => by
              rcases List.mem_append.1 hr with hr | hr
              · exact HR2.out r hr
              · obtain rfl := List.mem_singleton.1 hr
                simp⟩
            case measure => simp [intOf]; omega
        · have l2 : ¬ (j : Int) ≤ (p.length : Int) := by omega
          have hj4 : j ≤ 4 := by omega
          go_wp2_with fail
          go_roundw
          case rel => exact ⟨i + 1, S, k, rs, by omega, by go_num, M, by omega, HR2.out⟩
          case measure => simp [intOf]; omega
    · have l1 : ¬ (i : Int) ≤ (p.length : Int) := by omega
      have hrl : rs.length ≤ 16 := by omega
      have HB := Lib.hid (l1Below_any wr q A c bs 20 (by omega) M.dr.cur)
      go_wp2_with fail
      (with_reducible refine HB.out.mono ?_)
      rintro e w3 ⟨z, rfl, hz, kz⟩
      have M := M.drawn kz
      clear kz HB f0 hz
      by_cases hz0' : z = 0
      · subst hz0'
        have M := M.moved (Dr.refl w3).drew
        have f1 := M.cells.2
        have M0 := M
        clear M
        go_wp2_with fail
        refine wp_region_held_drew (S := (fun _ => True)) (by kernel_rfl) trivial (fun hHeld => ?_)
        refine wpAnyH_take (i := 0) (oi := _) (v := ?_) rfl (by kernel_rfl) (by kernel_rfl) (by kernel_rfl) (fun _ _ _ h => h) (Or.inl ⟨by rfl, ?_⟩) (by assumption) ?_
        rotate_left
        · intro w hSw
          try dsimp only at hSw
          go_simp
          all_goals with_reducible rfl
        try simp only [Act.put, List.setIfInBounds_toArray, List.set_cons_zero, List.set_cons_succ, List.getElem_toArray, List.getElem_cons_succ, List.getElem_cons_zero]
        refine wpAnyH_take (i := 2) (oi := _) (v := ?_) rfl (by kernel_rfl) (by kernel_rfl) (by kernel_rfl) (fun _ _ _ h => h) (Or.inl ⟨by rfl, ?_⟩) (by assumption) ?_
        rotate_left
        · intro w hSw
          try dsimp only at hSw
          go_simp
          all_goals with_reducible rfl
        try simp only [Act.put, List.setIfInBounds_toArray, List.set_cons_zero, List.set_cons_succ, List.getElem_toArray, List.getElem_cons_succ, List.getElem_cons_zero]
        refine wpAnyH_ready (rs := [1, 3]) (by kernel_rfl) (by simp) ?_
        refine AllReadyH.cons (o := _) rfl (fun K hK => ?_) (AllReadyH.cons (o := _) rfl (fun K hK => ?_) AllReadyH.nil)
        · go_simp
          refine hK.out _ _ (trivial) (fun hHeld => ?_)
          clear hK K
          try simp only [Act.put, List.setIfInBounds_toArray, List.set_cons_zero, List.set_cons_succ, List.getElem_toArray, List.getElem_cons_succ, List.getElem_cons_zero]
          refine wpAnyH_ready (rs := [3]) (by kernel_rfl) (by simp) ?_
          refine AllReadyH.cons (o := _) rfl (fun K hK => ?_) AllReadyH.nil
          go_simp
          refine Calls.mono (l1Below_any _ q A c bs 6 (by omega) M0.dr.cur) ?_
          rintro e w5 ⟨x1, rfl, hx1, ka⟩
          have M5 := M0.drawn ka
          have f1 := M5.cells.2
          clear ka hx1
          go_wp2_with fail
          refine hK.out _ _ (trivial) (fun hHeld => ?_)
          clear hK K
          try simp only [Act.put, List.setIfInBounds_toArray, List.set_cons_zero, List.set_cons_succ, List.getElem_toArray, List.getElem_cons_succ, List.getElem_cons_zero]
          refine wpAnyH_ready (rs := [4]) (by kernel_rfl) (by simp) ?_
          refine AllReadyH.cons (o := _) rfl (fun K hK => ?_) AllReadyH.nil
          have f1 := (M5.alloc (Obj.cells #[Value.int .i64 0, Value.int .i64 x1] 3)).cells.2
          go_simp
          refine hK.out _ _ (trivial) (fun hHeld => ?_)
          clear hK K
          try simp only [Act.put, List.setIfInBounds_toArray, List.set_cons_zero, List.set_cons_succ, List.getElem_toArray, List.getElem_cons_succ, List.getElem_cons_zero]
          refine wpAnyH_ready (rs := [5]) (by kernel_rfl) (by simp) ?_
          refine AllReadyH.cons (o := _) rfl (fun K hK => ?_) AllReadyH.nil
          have f1 := ((M5.alloc (Obj.cells #[Value.int .i64 0, Value.int .i64 x1] 3)).alloc (Obj.cells #[Value.slice (some ⟨w5.heap.size, 0, none⟩) 2 2] 24)).cells.2
          go_simp
          refine hK.out _ _ (trivial) (fun hHeld => ?_)
          clear hK K
          try simp only [Act.put, List.setIfInBounds_toArray, List.set_cons_zero, List.set_cons_succ, List.getElem_toArray, List.getElem_cons_succ, List.getElem_cons_zero]
          refine wpAnyH_ready (rs := [6]) (by kernel_rfl) (by simp) ?_
          refine AllReadyH.cons (o := _) rfl (fun K hK => ?_) AllReadyH.nil
          refine step_append_lies _ (by rfl) _ _ _ (by rfl) w.heap.size 24 j0 (.slice none 0 0) 1 24 Try.underlying25 hj hy0 hy1 hy2 rfl (by decide) (Value.slice S rs.length k) rs.length (rs.map Row.v) (by rfl) ((((M5.alloc (Obj.cells #[Value.int .i64 0, Value.int .i64 x1] 3)).alloc (Obj.cells #[Value.slice (some ⟨w5.heap.size, 0, none⟩) 2 2] 24)).own.outN (n := rs.length) (by simp))) ⟨w5.heap.size + 1, 0, none⟩ 1 1 [Value.slice (some ⟨w5.heap.size, 0, none⟩) 2 2] (by rfl) (by rfl) (cell_one_at (w := w5.alloc (Obj.cells #[Value.int .i64 0, Value.int .i64 x1] 3)) _ _ (by simp)) (by intro u hu; simp at hu; subst hu; rfl) (by omega) (by unfold maxLen; omega) (by omega) (by have := M5.dr.span.size; simp; omega) (w5.heap.size + 1 + 1) (by simp) ?_
          intro g cap w9 hown9 hgrow9 hlies9 hglt9
          obtain ⟨A2, c2, hA2, f7, u7, KM⟩ := MeshSt.push (r := ⟨some ⟨w5.heap.size, 0, none⟩, 2, [0, x1]⟩) (lit := Obj.cells #[Value.int .i64 0, Value.int .i64 x1] 3) M5 rfl (own_lit2 (obj_new w5 (Obj.cells #[Value.int .i64 0, Value.int .i64 x1] 3)) (Nat.le_refl _)) hown9 hgrow9
          injection hA2 with hA2 _ hc2
          subst hA2 hc2
          refine hK.out _ _ (trivial) (fun hHeld => ?_)
          clear hK K
          try simp only [Act.put, List.setIfInBounds_toArray, List.set_cons_zero, List.set_cons_succ, List.getElem_toArray, List.getElem_cons_succ, List.getElem_cons_zero]
          refine wpAnyH_take (i := 7) (oi := _) (v := ?_) rfl (by kernel_rfl) (by kernel_rfl) (by kernel_rfl) (fun _ _ _ h => h) (Or.inl ⟨by rfl, ?_⟩) (by assumption) ?_
          rotate_left
          · intro w hSw
            try dsimp only at hSw
            go_simp
            all_goals with_reducible rfl
          try simp only [Act.put, List.setIfInBounds_toArray, List.set_cons_zero, List.set_cons_succ, List.getElem_toArray, List.getElem_cons_succ, List.getElem_cons_zero]
          refine wpAnyH_ready (rs := [8]) (by kernel_rfl) (by simp) ?_
          refine AllReadyH.cons (o := _) rfl (fun K hK => ?_) AllReadyH.nil
          go_simp
          refine hK.out _ _ (trivial) (fun hHeld => ?_)
          clear hK K
          try simp only [Act.put, List.setIfInBounds_toArray, List.set_cons_zero, List.set_cons_succ, List.getElem_toArray, List.getElem_cons_succ, List.getElem_cons_zero]
          refine wpAnyH_done (by kernel_rfl) ?_ _
          have hlr : (rs ++ [(⟨some ⟨w5.heap.size, 0, none⟩, 2, [0, x1]⟩ : Row)]).length = rs.length + 1 := by simp
          have KM2 : MeshSt w (w9.setCell ⟨G, 1, none⟩ (.slice (some ⟨g, 0, none⟩) (rs.length + 1) cap)) q G w.heap.size A c bs P pk p (some ⟨g, 0, none⟩) cap (rs ++ [⟨some ⟨w5.heap.size, 0, none⟩, 2, [0, x1]⟩]) := KM.out
          have HL := Lib.hid hlr
          clear hlr f7 u7 KM M5 f1 hown9 hgrow9 M0
          generalize w9.setCell ⟨G, 1, none⟩ (.slice (some ⟨g, 0, none⟩) (rs.length + 1) cap) = wq at KM2 ⊢
          have HFN := Lib.hid KM2.fin
          rw [HL.out] at HFN
          have g0 := KM2.cells.1
          have g1 := KM2.cells.2
          rw [HL.out] at g1
          have t0 := (obj_cell (i := 0) KM2.ob).trans rfl
          have t1 := (obj_cell (i := 1) KM2.ob).trans rfl
          have u0 := obj_frozen (i := 0) KM2.ob
          have u1 := obj_frozen (i := 1) KM2.ob
          have l0 := (obj_cell (i := 0) HFN.out.2.2.2).trans rfl
          have l2 := (obj_cell (i := 1) HFN.out.2.2.2).trans rfl
          go_wp2_with fail
          refine bodyPost_ret (v := .agg #[.slice P p.length pk, .slice (some ⟨g, 0, none⟩) (rs.length + 1) cap]) (by simp [results, Try.results73, go_sem, l0, l2]) rfl ?_
          exact ⟨P, pk, p, (some ⟨g, 0, none⟩), cap, (rs ++ [⟨some ⟨w5.heap.size, 0, none⟩, 2, [0, x1]⟩]), (by rw [HL.out]), by omega, by rw [HL.out]; omega, (by intro r hr; rcases List.mem_append.1 hr with hr | hr; exact HR2.out r hr; obtain rfl := List.mem_singleton.1 hr; simp), HFN.out.1, HFN.out.2.1, HFN.out.2.2.1⟩
        · go_simp
          refine Calls.mono (l1Below_any _ q A c bs 6 (by omega) M0.dr.cur) ?_
          rintro e w5 ⟨x1, rfl, hx1, ka⟩
          have M5 := M0.drawn ka
          have f1 := M5.cells.2
          clear ka hx1
          go_wp2_with fail
          refine hK.out _ _ (trivial) (fun hHeld => ?_)
          clear hK K
          try simp only [Act.put, List.setIfInBounds_toArray, List.set_cons_zero, List.set_cons_succ, List.getElem_toArray, List.getElem_cons_succ, List.getElem_cons_zero]
          refine wpAnyH_ready (rs := [1, 4]) (by kernel_rfl) (by simp) ?_
          refine AllReadyH.cons (o := _) rfl (fun K hK => ?_) (AllReadyH.cons (o := _) rfl (fun K hK => ?_) AllReadyH.nil)
          · go_simp
            refine hK.out _ _ (trivial) (fun hHeld => ?_)
            clear hK K
            try simp only [Act.put, List.setIfInBounds_toArray, List.set_cons_zero, List.set_cons_succ, List.getElem_toArray, List.getElem_cons_succ, List.getElem_cons_zero]
            refine wpAnyH_ready (rs := [4]) (by kernel_rfl) (by simp) ?_
            refine AllReadyH.cons (o := _) rfl (fun K hK => ?_) AllReadyH.nil
            have f1 := (M5.alloc (Obj.cells #[Value.int .i64 0, Value.int .i64 x1] 3)).cells.2
            go_simp
            refine hK.out _ _ (trivial) (fun hHeld => ?_)
            clear hK K
            try simp only [Act.put, List.setIfInBounds_toArray, List.set_cons_zero, List.set_cons_succ, List.getElem_toArray, List.getElem_cons_succ, List.getElem_cons_zero]
            refine wpAnyH_ready (rs := [5]) (by kernel_rfl) (by simp) ?_
            refine AllReadyH.cons (o := _) rfl (fun K hK => ?_) AllReadyH.nil
            have f1 := ((M5.alloc (Obj.cells #[Value.int .i64 0, Value.int .i64 x1] 3)).alloc (Obj.cells #[Value.slice (some ⟨w5.heap.size, 0, none⟩) 2 2] 24)).cells.2
            go_simp
            refine hK.out _ _ (trivial) (fun hHeld => ?_)
            clear hK K
            try simp only [Act.put, List.setIfInBounds_toArray, List.set_cons_zero, List.set_cons_succ, List.getElem_toArray, List.getElem_cons_succ, List.getElem_cons_zero]
            refine wpAnyH_ready (rs := [6]) (by kernel_rfl) (by simp) ?_
            refine AllReadyH.cons (o := _) rfl (fun K hK => ?_) AllReadyH.nil
            refine step_append_lies _ (by rfl) _ _ _ (by rfl) w.heap.size 24 j0 (.slice none 0 0) 1 24 Try.underlying25 hj hy0 hy1 hy2 rfl (by decide) (Value.slice S rs.length k) rs.length (rs.map Row.v) (by rfl) ((((M5.alloc (Obj.cells #[Value.int .i64 0, Value.int .i64 x1] 3)).alloc (Obj.cells #[Value.slice (some ⟨w5.heap.size, 0, none⟩) 2 2] 24)).own.outN (n := rs.length) (by simp))) ⟨w5.heap.size + 1, 0, none⟩ 1 1 [Value.slice (some ⟨w5.heap.size, 0, none⟩) 2 2] (by rfl) (by rfl) (cell_one_at (w := w5.alloc (Obj.cells #[Value.int .i64 0, Value.int .i64 x1] 3)) _ _ (by simp)) (by intro u hu; simp at hu; subst hu; rfl) (by omega) (by unfold maxLen; omega) (by omega) (by have := M5.dr.span.size; simp; omega) (w5.heap.size + 1 + 1) (by simp) ?_
            intro g cap w9 hown9 hgrow9 hlies9 hglt9
            obtain ⟨A2, c2, hA2, f7, u7, KM⟩ := MeshSt.push (r := ⟨some ⟨w5.heap.size, 0, none⟩, 2, [0, x1]⟩) (lit := Obj.cells #[Value.int .i64 0, Value.int .i64 x1] 3) M5 rfl (own_lit2 (obj_new w5 (Obj.cells #[Value.int .i64 0, Value.int .i64 x1] 3)) (Nat.le_refl _)) hown9 hgrow9
            injection hA2 with hA2 _ hc2
            subst hA2 hc2
            refine hK.out _ _ (trivial) (fun hHeld => ?_)
            clear hK K
            try simp only [Act.put, List.setIfInBounds_toArray, List.set_cons_zero, List.set_cons_succ, List.getElem_toArray, List.getElem_cons_succ, List.getElem_cons_zero]
            refine wpAnyH_take (i := 7) (oi := _) (v := ?_) rfl (by kernel_rfl) (by kernel_rfl) (by kernel_rfl) (fun _ _ _ h => h) (Or.inl ⟨by rfl, ?_⟩) (by assumption) ?_
            rotate_left
            · intro w hSw
              try dsimp only at hSw
              go_simp
              all_goals with_reducible rfl
            try simp only [Act.put, List.setIfInBounds_toArray, List.set_cons_zero, List.set_cons_succ, List.getElem_toArray, List.getElem_cons_succ, List.getElem_cons_zero]
            refine wpAnyH_ready (rs := [8]) (by kernel_rfl) (by simp) ?_
            refine AllReadyH.cons (o := _) rfl (fun K hK => ?_) AllReadyH.nil
            go_simp
            refine hK.out _ _ (trivial) (fun hHeld => ?_)
            clear hK K
            try simp only [Act.put, List.setIfInBounds_toArray, List.set_cons_zero, List.set_cons_succ, List.getElem_toArray, List.getElem_cons_succ, List.getElem_cons_zero]
            refine wpAnyH_done (by kernel_rfl) ?_ _
            have hlr : (rs ++ [(⟨some ⟨w5.heap.size, 0, none⟩, 2, [0, x1]⟩ : Row)]).length = rs.length + 1 := by simp
            have KM2 : MeshSt w (w9.setCell ⟨G, 1, none⟩ (.slice (some ⟨g, 0, none⟩) (rs.length + 1) cap)) q G w.heap.size A c bs P pk p (some ⟨g, 0, none⟩) cap (rs ++ [⟨some ⟨w5.heap.size, 0, none⟩, 2, [0, x1]⟩]) := KM.out
            have HL := Lib.hid hlr
            clear hlr f7 u7 KM M5 f1 hown9 hgrow9 M0
            generalize w9.setCell ⟨G, 1, none⟩ (.slice (some ⟨g, 0, none⟩) (rs.length + 1) cap) = wq at KM2 ⊢
            have HFN := Lib.hid KM2.fin
            rw [HL.out] at HFN
            have g0 := KM2.cells.1
            have g1 := KM2.cells.2
            rw [HL.out] at g1
            have t0 := (obj_cell (i := 0) KM2.ob).trans rfl
            have t1 := (obj_cell (i := 1) KM2.ob).trans rfl
            have u0 := obj_frozen (i := 0) KM2.ob
            have u1 := obj_frozen (i := 1) KM2.ob
            have l0 := (obj_cell (i := 0) HFN.out.2.2.2).trans rfl
            have l2 := (obj_cell (i := 1) HFN.out.2.2.2).trans rfl
            go_wp2_with fail
            refine bodyPost_ret (v := .agg #[.slice P p.length pk, .slice (some ⟨g, 0, none⟩) (rs.length + 1) cap]) (by simp [results, Try.results73, go_sem, l0, l2]) rfl ?_
            exact ⟨P, pk, p, (some ⟨g, 0, none⟩), cap, (rs ++ [⟨some ⟨w5.heap.size, 0, none⟩, 2, [0, x1]⟩]), (by rw [HL.out]), by omega, by rw [HL.out]; omega, (by intro r hr; rcases List.mem_append.1 hr with hr | hr; exact HR2.out r hr; obtain rfl := List.mem_singleton.1 hr; simp), HFN.out.1, HFN.out.2.1, HFN.out.2.2.1⟩
          · have f1 := (M5.alloc (Obj.cells #[Value.int .i64 0, Value.int .i64 x1] 3)).cells.2
            go_simp
            refine hK.out _ _ (trivial) (fun hHeld => ?_)
            clear hK K
            try simp only [Act.put, List.setIfInBounds_toArray, List.set_cons_zero, List.set_cons_succ, List.getElem_toArray, List.getElem_cons_succ, List.getElem_cons_zero]
            refine wpAnyH_ready (rs := [1, 5]) (by kernel_rfl) (by simp) ?_
            refine AllReadyH.cons (o := _) rfl (fun K hK => ?_) (AllReadyH.cons (o := _) rfl (fun K hK => ?_) AllReadyH.nil)
            · go_simp
              refine hK.out _ _ (trivial) (fun hHeld => ?_)
              clear hK K
              try simp only [Act.put, List.setIfInBounds_toArray, List.set_cons_zero, List.set_cons_succ, List.getElem_toArray, List.getElem_cons_succ, List.getElem_cons_zero]
              refine wpAnyH_ready (rs := [5]) (by kernel_rfl) (by simp) ?_
              refine AllReadyH.cons (o := _) rfl (fun K hK => ?_) AllReadyH.nil
              have f1 := ((M5.alloc (Obj.cells #[Value.int .i64 0, Value.int .i64 x1] 3)).alloc (Obj.cells #[Value.slice (some ⟨w5.heap.size, 0, none⟩) 2 2] 24)).cells.2
              go_simp
              refine hK.out _ _ (trivial) (fun hHeld => ?_)
              clear hK K
              try simp only [Act.put, List.setIfInBounds_toArray, List.set_cons_zero, List.set_cons_succ, List.getElem_toArray, List.getElem_cons_succ, List.getElem_cons_zero]
              refine wpAnyH_ready (rs := [6]) (by kernel_rfl) (by simp) ?_
              refine AllReadyH.cons (o := _) rfl (fun K hK => ?_) AllReadyH.nil
              refine step_append_lies _ (by rfl) _ _ _ (by rfl) w.heap.size 24 j0 (.slice none 0 0) 1 24 Try.underlying25 hj hy0 hy1 hy2 rfl (by decide) (Value.slice S rs.length k) rs.length (rs.map Row.v) (by rfl) ((((M5.alloc (Obj.cells #[Value.int .i64 0, Value.int .i64 x1] 3)).alloc (Obj.cells #[Value.slice (some ⟨w5.heap.size, 0, none⟩) 2 2] 24)).own.outN (n := rs.length) (by simp))) ⟨w5.heap.size + 1, 0, none⟩ 1 1 [Value.slice (some ⟨w5.heap.size, 0, none⟩) 2 2] (by rfl) (by rfl) (cell_one_at (w := w5.alloc (Obj.cells #[Value.int .i64 0, Value.int .i64 x1] 3)) _ _ (by simp)) (by intro u hu; simp at hu; subst hu; rfl) (by omega) (by unfold maxLen; omega) (by omega) (by have := M5.dr.span.size; simp; omega) (w5.heap.size + 1 + 1) (by simp) ?_
              intro g cap w9 hown9 hgrow9 hlies9 hglt9
              obtain ⟨A2, c2, hA2, f7, u7, KM⟩ := MeshSt.push (r := ⟨some ⟨w5.heap.size, 0, none⟩, 2, [0, x1]⟩) (lit := Obj.cells #[Value.int .i64 0, Value.int .i64 x1] 3) M5 rfl (own_lit2 (obj_new w5 (Obj.cells #[Value.int .i64 0, Value.int .i64 x1] 3)) (Nat.le_refl _)) hown9 hgrow9
              injection hA2 with hA2 _ hc2
              subst hA2 hc2
              refine hK.out _ _ (trivial) (fun hHeld => ?_)
              clear hK K
              try simp only [Act.put, List.setIfInBounds_toArray, List.set_cons_zero, List.set_cons_succ, List.getElem_toArray, List.getElem_cons_succ, List.getElem_cons_zero]
              refine wpAnyH_take (i := 7) (oi := _) (v := ?_) rfl (by kernel_rfl) (by kernel_rfl) (by kernel_rfl) (fun _ _ _ h => h) (Or.inl ⟨by rfl, ?_⟩) (by assumption) ?_
              rotate_left
              · intro w hSw
                try dsimp only at hSw
                go_simp
                all_goals with_reducible rfl
              try simp only [Act.put, List.setIfInBounds_toArray, List.set_cons_zero, List.set_cons_succ, List.getElem_toArray, List.getElem_cons_succ, List.getElem_cons_zero]
              refine wpAnyH_ready (rs := [8]) (by kernel_rfl) (by simp) ?_
              refine AllReadyH.cons (o := _) rfl (fun K hK => ?_) AllReadyH.nil
              go_simp
              refine hK.out _ _ (trivial) (fun hHeld => ?_)
              clear hK K
              try simp only [Act.put, List.setIfInBounds_toArray, List.set_cons_zero, List.set_cons_succ, List.getElem_toArray, List.getElem_cons_succ, List.getElem_cons_zero]
              refine wpAnyH_done (by kernel_rfl) ?_ _
              have hlr : (rs ++ [(⟨some ⟨w5.heap.size, 0, none⟩, 2, [0, x1]⟩ : Row)]).length = rs.length + 1 := by simp
              have KM2 : MeshSt w (w9.setCell ⟨G, 1, none⟩ (.slice (some ⟨g, 0, none⟩) (rs.length + 1) cap)) q G w.heap.size A c bs P pk p (some ⟨g, 0, none⟩) cap (rs ++ [⟨some ⟨w5.heap.size, 0, none⟩, 2, [0, x1]⟩]) := KM.out
              have HL := Lib.hid hlr
              clear hlr f7 u7 KM M5 f1 hown9 hgrow9 M0
              generalize w9.setCell ⟨G, 1, none⟩ (.slice (some ⟨g, 0, none⟩) (rs.length + 1) cap) = wq at KM2 ⊢
              have HFN := Lib.hid KM2.fin
              rw [HL.out] at HFN
              have g0 := KM2.cells.1
              have g1 := KM2.cells.2
              rw [HL.out] at g1
              have t0 := (obj_cell (i := 0) KM2.ob).trans rfl
              have t1 := (obj_cell (i := 1) KM2.ob).trans rfl
              have u0 := obj_frozen (i := 0) KM2.ob
              have u1 := obj_frozen (i := 1) KM2.ob
              have l0 := (obj_cell (i := 0) HFN.out.2.2.2).trans rfl
              have l2 := (obj_cell (i := 1) HFN.out.2.2.2).trans rfl
              go_wp2_with fail
              refine bodyPost_ret (v := .agg #[.slice P p.length pk, .slice (some ⟨g, 0, none⟩) (rs.length + 1) cap]) (by simp [results, Try.results73, go_sem, l0, l2]) rfl ?_
              exact ⟨P, pk, p, (some ⟨g, 0, none⟩), cap, (rs ++ [⟨some ⟨w5.heap.size, 0, none⟩, 2, [0, x1]⟩]), (by rw [HL.out]), by omega, by rw [HL.out]; omega, (by intro r hr; rcases List.mem_append.1 hr with hr | hr; exact HR2.out r hr; obtain rfl := List.mem_singleton.1 hr; simp), HFN.out.1, HFN.out.2.1, HFN.out.2.2.1⟩
            · have f1 := ((M5.alloc (Obj.cells #[Value.int .i64 0, Value.int .i64 x1] 3)).alloc (Obj.cells #[Value.slice (some ⟨w5.heap.size, 0, none⟩) 2 2] 24)).cells.2
              go_simp
              refine hK.out _ _ (trivial) (fun hHeld => ?_)
              clear hK K
              try simp only [Act.put, List.setIfInBounds_toArray, List.set_cons_zero, List.set_cons_succ, List.getElem_toArray, List.getElem_cons_succ, List.getElem_cons_zero]
              refine wpAnyH_ready (rs := [1]) (by kernel_rfl) (by simp) ?_
              refine AllReadyH.cons (o := _) rfl (fun K hK => ?_) AllReadyH.nil
              go_simp
              refine hK.out _ _ (trivial) (fun hHeld => ?_)
              clear hK K
              try simp only [Act.put, List.setIfInBounds_toArray, List.set_cons_zero, List.set_cons_succ, List.getElem_toArray, List.getElem_cons_succ, List.getElem_cons_zero]
              refine wpAnyH_ready (rs := [6]) (by kernel_rfl) (by simp) ?_
              refine AllReadyH.cons (o := _) rfl (fun K hK => ?_) AllReadyH.nil
              refine step_append_lies _ (by rfl) _ _ _ (by rfl) w.heap.size 24 j0 (.slice none 0 0) 1 24 Try.underlying25 hj hy0 hy1 hy2 rfl (by decide) (Value.slice S rs.length k) rs.length (rs.map Row.v) (by rfl) ((((M5.alloc (Obj.cells #[Value.int .i64 0, Value.int .i64 x1] 3)).alloc (Obj.cells #[Value.slice (some ⟨w5.heap.size, 0, none⟩) 2 2] 24)).own.outN (n := rs.length) (by simp))) ⟨w5.heap.size + 1, 0, none⟩ 1 1 [Value.slice (some ⟨w5.heap.size, 0, none⟩) 2 2] (by rfl) (by rfl) (cell_one_at (w := w5.alloc (Obj.cells #[Value.int .i64 0, Value.int .i64 x1] 3)) _ _ (by simp)) (by intro u hu; simp at hu; subst hu; rfl) (by omega) (by unfold maxLen; omega) (by omega) (by have := M5.dr.span.size; simp; omega) (w5.heap.size + 1 + 1) (by simp) ?_
              intro g cap w9 hown9 hgrow9 hlies9 hglt9
              obtain ⟨A2, c2, hA2, f7, u7, KM⟩ := MeshSt.push (r := ⟨some ⟨w5.heap.size, 0, none⟩, 2, [0, x1]⟩) (lit := Obj.cells #[Value.int .i64 0, Value.int .i64 x1] 3) M5 rfl (own_lit2 (obj_new w5 (Obj.cells #[Value.int .i64 0, Value.int .i64 x1] 3)) (Nat.le_refl _)) hown9 hgrow9
              injection hA2 with hA2 _ hc2
              subst hA2 hc2
              refine hK.out _ _ (trivial) (fun hHeld => ?_)
              clear hK K
              try simp only [Act.put, List.setIfInBounds_toArray, List.set_cons_zero, List.set_cons_succ, List.getElem_toArray, List.getElem_cons_succ, List.getElem_cons_zero]
              refine wpAnyH_take (i := 7) (oi := _) (v := ?_) rfl (by kernel_rfl) (by kernel_rfl) (by kernel_rfl) (fun _ _ _ h => h) (Or.inl ⟨by rfl, ?_⟩) (by assumption) ?_
              rotate_left
              · intro w hSw
                try dsimp only at hSw
                go_simp
                all_goals with_reducible rfl
              try simp only [Act.put, List.setIfInBounds_toArray, List.set_cons_zero, List.set_cons_succ, List.getElem_toArray, List.getElem_cons_succ, List.getElem_cons_zero]
              refine wpAnyH_ready (rs := [8]) (by kernel_rfl) (by simp) ?_
              refine AllReadyH.cons (o := _) rfl (fun K hK => ?_) AllReadyH.nil
              go_simp
              refine hK.out _ _ (trivial) (fun hHeld => ?_)
              clear hK K
              try simp only [Act.put, List.setIfInBounds_toArray, List.set_cons_zero, List.set_cons_succ, List.getElem_toArray, List.getElem_cons_succ, List.getElem_cons_zero]
              refine wpAnyH_done (by kernel_rfl) ?_ _
              have hlr : (rs ++ [(⟨some ⟨w5.heap.size, 0, none⟩, 2, [0, x1]⟩ : Row)]).length = rs.length + 1 := by simp
              have KM2 : MeshSt w (w9.setCell ⟨G, 1, none⟩ (.slice (some ⟨g, 0, none⟩) (rs.length + 1) cap)) q G w.heap.size A c bs P pk p (some ⟨g, 0, none⟩) cap (rs ++ [⟨some ⟨w5.heap.size, 0, none⟩, 2, [0, x1]⟩]) := KM.out
              have HL := Lib.hid hlr
              clear hlr f7 u7 KM M5 f1 hown9 hgrow9 M0
              generalize w9.setCell ⟨G, 1, none⟩ (.slice (some ⟨g, 0, none⟩) (rs.length + 1) cap) = wq at KM2 ⊢
              have HFN := Lib.hid KM2.fin
              rw [HL.out] at HFN
              have g0 := KM2.cells.1
              have g1 := KM2.cells.2
              rw [HL.out] at g1
              have t0 := (obj_cell (i := 0) KM2.ob).trans rfl
              have t1 := (obj_cell (i := 1) KM2.ob).trans rfl
              have u0 := obj_frozen (i := 0) KM2.ob
              have u1 := obj_frozen (i := 1) KM2.ob
              have l0 := (obj_cell (i := 0) HFN.out.2.2.2).trans rfl
              have l2 := (obj_cell (i := 1) HFN.out.2.2.2).trans rfl
              go_wp2_with fail
              refine bodyPost_ret (v := .agg #[.slice P p.length pk, .slice (some ⟨g, 0, none⟩) (rs.length + 1) cap]) (by simp [results, Try.results73, go_sem, l0, l2]) rfl ?_
              exact ⟨P, pk, p, (some ⟨g, 0, none⟩), cap, (rs ++ [⟨some ⟨w5.heap.size, 0, none⟩, 2, [0, x1]⟩]), (by rw [HL.out]), by omega, by rw [HL.out]; omega, (by intro r hr; rcases List.mem_append.1 hr with hr | hr; exact HR2.out r hr; obtain rfl := List.mem_singleton.1 hr; simp), HFN.out.1, HFN.out.2.1, HFN.out.2.2.1⟩
      by_cases hz1' : z = 1
      · subst hz1'
        have f1 := M.cells.2
        have hO1 := (M.alloc (Obj.cells #[Value.int .i64 9] 3)).own.outN (n := rs.length) (by simp)
        have hw0 := M.dr.span.size
        have hrow := own_lit1 (lo := w3.heap.size) (obj_new w3 (Obj.cells #[Value.int .i64 9] 3)) (Nat.le_refl _)
        have HM := Lib.hid M
        clear M
        go_upto_region 17 with ((at_builtin; refine wpList_append_own _ rfl _ _ 25 rfl (w.heap.size) 24 j0 (.slice none 0 0) 1 24 Try.underlying25 hj hy0 hy1 hy2 rfl (by decide) _ _ _ rfl (World.ownsRow.alloc hO1 _) ⟨w3.heap.size + 1, 0, none⟩ 1 1 [Value.slice (some ⟨w3.heap.size, 0, none⟩) 1 1] rfl rfl (cell_one_at _ _ (by simp)) (by intro u hu; simp at hu; subst hu; rfl) (by unfold maxLen; omega) (by omega) (by simp; omega) ?_; intro v9 w9 hown9 hgrow9 _)
                                obtain ⟨A2, c2, rfl, f7, u7, KM⟩ := MeshSt.push (r := ⟨some ⟨w3.heap.size, 0, none⟩, 1, [9]⟩) HM.out rfl hrow hown9 hgrow9)
        have hlr : (rs ++ [(⟨some ⟨w3.heap.size, 0, none⟩, 1, [9]⟩ : Row)]).length = rs.length + 1 := by simp
        have KM2 := KM.out
        have HL := Lib.hid hlr
        clear hlr f7 u7 KM HM f1 hown9 hgrow9 hO1 hrow
        generalize w9.setCell ⟨G, 1, none⟩ (.slice A2 (rs.length + 1) c2) = wq at KM2 ⊢
        have HFN := Lib.hid KM2.fin
        rw [HL.out] at HFN
        have g0 := KM2.cells.1
        have g1 := KM2.cells.2
        rw [HL.out] at g1
        have t0 := (obj_cell (i := 0) KM2.ob).trans rfl
        have t1 := (obj_cell (i := 1) KM2.ob).trans rfl
        have u0 := obj_frozen (i := 0) KM2.ob
        have u1 := obj_frozen (i := 1) KM2.ob
        have l0 := (obj_cell (i := 0) HFN.out.2.2.2).trans rfl
        have l2 := (obj_cell (i := 1) HFN.out.2.2.2).trans rfl
        go_wp2_with fail
        refine bodyPost_ret (v := .agg #[.slice P p.length pk, .slice A2 (rs.length + 1) c2]) (by simp [results, Try.results73, go_sem, l0, l2]) rfl ?_
        exact ⟨P, pk, p, A2, c2, (rs ++ [⟨some ⟨w3.heap.size, 0, none⟩, 1, [9]⟩]), (by rw [HL.out]), by omega, by rw [HL.out]; omega, (by intro r hr; rcases List.mem_append.1 hr with hr | hr; exact HR2.out r hr; obtain rfl := List.mem_singleton.1 hr; simp), HFN.out.1, HFN.out.2.1, HFN.out.2.2.1⟩
      by_cases hz2' : z = 2
      · subst hz2'
        have HD := Lib.hid (show Calls Try.prog 104 #[.pointer (some ⟨q, 0, none⟩), .int .i64 5] w3 (RetD w3 q A c bs fun ys => ys.Perm (upToL 5)) from l2Draw_any w3 q A c bs 5 (by omega) M.dr.cur)
        have hw0 := M.dr.span.size
        go_wp2_with fail
        (with_reducible refine HD.out.mono ?_)
        rintro e w4 ⟨P', pk', p', rfl, hp', ho', ka⟩
        have M4 := M.drawn ka
        have hp5 : p'.length ≤ 5 := by rw [hp'.length_eq, upToL_length]; omega
        have f0 := M4.cells.1
        have u0 := obj_frozen (i := 0) M4.og
        have KM := M4.perm (own_mono ho' hw0)
        clear HD M hp' ka ho' M4
        go_upto_region 17 with fail
        clear f0 u0
        generalize w4.setCell ⟨G, 0, none⟩ (.slice P' p'.length pk') = wq at KM ⊢
        have HFN := Lib.hid KM.fin
        have g0 := KM.cells.1
        have g1 := KM.cells.2
        have t0 := (obj_cell (i := 0) KM.ob).trans rfl
        have t1 := (obj_cell (i := 1) KM.ob).trans rfl
        have u0 := obj_frozen (i := 0) KM.ob
        have u1 := obj_frozen (i := 1) KM.ob
        have l0 := (obj_cell (i := 0) HFN.out.2.2.2).trans rfl
        have l2 := (obj_cell (i := 1) HFN.out.2.2.2).trans rfl
        go_wp2_with fail
        refine bodyPost_ret (v := .agg #[.slice P' p'.length pk', .slice S rs.length k]) (by simp [results, Try.results73, go_sem, l0, l2]) rfl ?_
        exact ⟨P', pk', p', S, k, rs, rfl, by omega, by omega, HR2.out, HFN.out.1, HFN.out.2.1, HFN.out.2.2.1⟩
      have z0 : (z == 0) = false := by simp [hz0']
      have z1 : (z == 1) = false := by simp [hz1']
      have z2 : (z == 2) = false := by simp [hz2']
      have HFN := Lib.hid M.fin
      have g0 := M.cells.1
      have g1 := M.cells.2
      have t0 := (obj_cell (i := 0) M.ob).trans rfl
      have t1 := (obj_cell (i := 1) M.ob).trans rfl
      have u0 := obj_frozen (i := 0) M.ob
      have u1 := obj_frozen (i := 1) M.ob
      have l0 := (obj_cell (i := 0) HFN.out.2.2.2).trans rfl
      have l2 := (obj_cell (i := 1) HFN.out.2.2.2).trans rfl
      go_wp2_with fail
      refine bodyPost_ret (v := .agg #[.slice P p.length pk, .slice S rs.length k]) (by simp [results, Try.results73, go_sem, l0, l2]) rfl ?_
      exact ⟨P, pk, p, S, k, rs, rfl, by omega, by omega, HR2.out, HFN.out.1, HFN.out.2.1, HFN.out.2.2.1⟩
set_option maxHeartbeats 2000000 in
theorem drawCountMesh (A : Option Addr) (c : Nat) (bs : List Int) (w : World) (h : InY w A c bs) :
    Calls Try.prog 8 #[.slice A bs.length c] w (fun en w' => ∃ (D : Option Addr) (dk : Nat) (d : List Int) (P : Option Addr) (pk : Nat) (p : List Int) (S : Option Addr) (k : Nat) (rs : List Row), en = .returned (.tuple #[.slice D d.length dk, .agg #[.slice P p.length pk, .slice S rs.length k]]) ∧
      d.length ≤ 9 ∧ p.length ≤ 5 ∧ rs.length ≤ 17 ∧ In w' D dk d ∧ InM w' P pk p S k rs ∧ Below w.heap.size w w') := by
  have hb0 := (Below.refl w.heap.size w).alloc (Nat.le_refl _) (Obj.cells #[Value.slice none 0 0, Value.slice none 0 0] 27)
  have ob := obj_new w (Obj.cells #[Value.slice none 0 0, Value.slice none 0 0] 27)
  have HC := Lib.hid (l1New_any A c bs _ h.len (h.next hb0).rd)
  go_enter Try.func8, Try.ntmps8
  go_wp2_with fail
  (with_reducible refine HC.out.mono ?_)
  rintro e w1 ⟨q, rfl, hq, hc, hb⟩
  have ob := obj_below ob hb (by simp)
  have hb0 := hb0.trans (hb.mono hb0.size)
  have hq0 : w.heap.size < q := by simp at hq; omega
  have HD := Lib.hid (l2Bent_any w1 q A c bs hc)
  clear HC hb hq
  go_wp2_with fail
  (with_reducible refine HD.out.mono ?_)
  rintro e w2 ⟨D, dk, d, rfl, hd9, ho, k1⟩
  have hq1 := hc.lt
  have ob := obj_below ob (k1.below (B := q) (Nat.le_refl _) (Nat.le_of_lt hq1)) hq0
  have hb0 := hb0.trans (k1.below (by omega) hb0.size)
  have HE := Lib.hid (l9Draw_any w2 q A c bs k1.cur)
  clear HD
  go_wp2_with fail
  (with_reducible refine HE.out.mono ?_)
  rintro e w3 ⟨P, pk, p, S, k, rs, rfl, hp5, hr17, hr2, hoP, hoR, k3⟩
  have ho := own_drawn ho k3 hq1
  have ob := obj_below ob (k3.below (B := q) (Nat.le_refl _) (Nat.le_of_lt k1.cur.lt)) hq0
  have hb0 := hb0.trans (k3.below (by omega) hb0.size)
  have t0 := (obj_cell (i := 0) ob).trans rfl
  have t1 := (obj_cell (i := 1) ob).trans rfl
  have u0 := obj_frozen (i := 0) ob
  have u1 := obj_frozen (i := 1) ob
  have o1 := obj_set (i := 0) ob (Value.slice P p.length pk)
  have o2 := obj_set (i := 1) o1 (Value.slice S rs.length k)
  have l0 := (obj_cell (i := 0) o2).trans rfl
  have l1 := (obj_cell (i := 1) o2).trans rfl
  have hsp : Span w.heap.size (w.heap.size + 1) w3 ((w3.setCell ⟨w.heap.size, 0, none⟩ (Value.slice P p.length pk)).setCell ⟨w.heap.size, 1, none⟩ (Value.slice S rs.length k)) :=
    (Span.set (p := ⟨w.heap.size, 0, none⟩) (Nat.le_refl _) (Nat.lt_succ_self _) _).trans (Span.set (p := ⟨w.heap.size, 1, none⟩) (Nat.le_refl _) (Nat.lt_succ_self _) _)
  have hD : In ((w3.setCell ⟨w.heap.size, 0, none⟩ (Value.slice P p.length pk)).setCell ⟨w.heap.size, 1, none⟩ (Value.slice S rs.length k)) D dk d := In.of_own (own_span ho hsp fun g hg => .inr (by have := (ho.lt g hg).1; omega)) (by omega)
  have hw2 := k1.span.size
  have hP := In.of_own (own_span hoP hsp fun g hg => .inr (by have := (hoP.lt g hg).1; omega)) (by omega)
  have hR := (hoR.span hsp (.inr (by omega))).read.toL (by have := sizeR_le2 hr2; omega) (by simp [World.setCell])
  have hb9 := (hb0.setCell (p := ⟨w.heap.size, 0, none⟩) (Nat.le_refl _) (Value.slice P p.length pk)).setCell (p := ⟨w.heap.size, 1, none⟩) (Nat.le_refl _) (Value.slice S rs.length k)
  clear HE ho k1 k3 o1 o2 hsp ob hoP hoR hr2
  go_wp2_with fail
  refine bodyPost_ret (v := .tuple #[.slice D d.length dk, .agg #[.slice P p.length pk, .slice S rs.length k]]) (by simp [results, Try.results8, go_sem, l0, l1]) rfl ?_
  exact ⟨D, dk, d, P, pk, p, S, k, rs, rfl, hd9, hp5, hr17, hD, ⟨hP, hR⟩, hb9⟩
end Go.Proofs.Ythipikllgpnlhaa

/- l8Draw: a pattern with joined places that is drawn. Written by gen/gend8.py. -/
namespace Go.Proofs.Ythipikllgpnlhaa
set_option maxRecDepth 100000
open Go Go.RowKit

/-- The pattern in block G; the result's box in block b2. -/
structure NearSt (w0 wz : World) (q G b2 : Nat) (A : Option Addr) (c : Nat) (bs : List Int) (P : Option Addr) (pk : Nat) (p : List Int) (J : Option Addr) (k : Nat) (ys : List Int) : Prop where
  og : wz.heap[G]? = some (Obj.cells #[Value.slice P p.length pk, Value.slice J ys.length k] 32)
  ob : wz.heap[b2]? = some (Obj.cells #[Value.slice none 0 0, Value.slice none 0 0] 32)
  ownJ : wz.ownsRow (G + 1) 3 1 (.slice J ys.length k) ys.length (ys.map (Value.int .i64))
  ownP : wz.ownsRow w0.heap.size 3 1 (.slice P p.length pk) p.length (p.map (Value.int .i64))
  hPl : ∀ g, (Value.slice P p.length pk).ownBlock = some g → g < G
  dr : Drawn w0 wz q A c bs
  hq : q < w0.heap.size
  hG : w0.heap.size ≤ G
  hb : w0.heap.size ≤ b2
  hne : G ≠ b2
section
variable {w0 wz wy : World} {q G b2 : Nat} {A : Option Addr} {c : Nat} {bs : List Int} {P : Option Addr} {pk : Nat} {p : List Int} {J : Option Addr} {k : Nat} {ys : List Int}
theorem NearSt.below (h : NearSt w0 wz q G b2 A c bs P pk p J k ys) (hb : Below wz.heap.size wz wy) : NearSt w0 wy q G b2 A c bs P pk p J k ys :=
  ⟨obj_below h.og hb (obj_lt h.og), obj_below h.ob hb (obj_lt h.ob), own_below h.ownJ hb, own_below h.ownP hb, h.hPl, h.dr.next (hb.mono h.dr.span.size) h.hq, h.hq, h.hG, h.hb, h.hne⟩
theorem NearSt.alloc (h : NearSt w0 wz q G b2 A c bs P pk p J k ys) (o : Obj) : NearSt w0 (wz.alloc o) q G b2 A c bs P pk p J k ys := h.below ((Below.refl _ _).alloc (Nat.le_refl _) o)
theorem NearSt.moved (h : NearSt w0 wz q G b2 A c bs P pk p J k ys) (hd : Dr wz wy) : NearSt w0 wy q G b2 A c bs P pk p J k ys := h.below (below_dr (Below.refl _ _) hd)
theorem NearSt.drawn (h : NearSt w0 wz q G b2 A c bs P pk p J k ys) (ka : Drawn wz wy q A c bs) : NearSt w0 wy q G b2 A c bs P pk p J k ys :=
  ⟨(ka.span.block G (obj_lt h.og) (.inr (by have := h.hG; have := h.hq; omega))).trans h.og, (ka.span.block b2 (obj_lt h.ob) (.inr (by have := h.hb; have := h.hq; omega))).trans h.ob,
    own_drawn h.ownJ ka (by have := h.hG; have := h.hq; omega), own_drawn h.ownP ka h.hq, h.hPl, h.dr.trans ka, h.hq, h.hG, h.hb, h.hne⟩
theorem NearSt.cells (h : NearSt w0 wz q G b2 A c bs P pk p J k ys) : wz.cell? ⟨G, 0, none⟩ = some (Value.slice P p.length pk) ∧ wz.cell? ⟨G, 1, none⟩ = some (Value.slice J ys.length k) := ⟨(obj_cell h.og).trans rfl, (obj_cell h.og).trans rfl⟩
/-- A number is put at the end. -/
theorem NearSt.push {w9 : World} {x : Int} {lit : Obj} {v9 : Value} {n : Nat} (h : NearSt w0 wz q G b2 A c bs P pk p J k ys) (hn : ys.length = n)
    (h9 : w9.ownsRow (G + 1) 3 1 v9 (n + 1) (ys.map (Value.int .i64) ++ [.int .i64 x])) (hg : (wz.alloc lit).grownBy w9 (Value.slice J n k).ownBlock) :
    ∃ A2 c2, v9 = .slice A2 (n + 1) c2 ∧ w9.cell? ⟨G, 1, none⟩ = some (.slice J n k) ∧ w9.frozen? ⟨G, 1, none⟩ = false ∧
      Hid (NearSt w0 (w9.setCell ⟨G, 1, none⟩ (.slice A2 (n + 1) c2)) q G b2 A c bs P pk p A2 c2 (ys ++ [x])) := by
  subst hn
  obtain ⟨A2, c2, rfl, _, _⟩ := own_shape h9
  have hA := h.alloc lit
  have hlt := hA.ownJ.lt
  have og := (hg.block G (obj_lt hA.og) (fun e => by have := (hlt G e.symm).1; omega)).trans hA.og
  have ob := (hg.block b2 (obj_lt hA.ob) (own_noblock hA.ownJ hA.ob (by decide))).trans hA.ob
  have hP := hA.ownP.kept hg (own_off (lim := G) h.hPl fun g hg => by have := (hlt g hg).1; omega)
  have hb9 : Below w0.heap.size (wz.alloc lit) w9 := (Below.refl _ _).grown hg hA.dr.span.size fun g hg => by have := (hlt g hg).1; have := h.hG; omega
  have hd9 := (hA.dr.next hb9 h.hq).next ((Below.refl w0.heap.size w9).setCell (p := ⟨G, 1, none⟩) h.hG (.slice A2 (ys.length + 1) c2)) h.hq
  refine ⟨A2, c2, rfl, (obj_cell og).trans rfl, obj_frozen og, Lib.hid ⟨?_, obj_other ob h.hne _, ?_, own_boxed hP og (by decide), h.hPl, hd9, h.hq, h.hG, h.hb, h.hne⟩⟩
  · have := obj_set (i := 1) og (Value.slice A2 (ys.length + 1) c2)
    simpa using this
  · have := own_boxed (g := G) (i := 1) (u := Value.slice A2 (ys.length + 1) c2) h9 og (by decide)
    simpa using this
/-- The result is laid into its box. -/
theorem NearSt.fin (h : NearSt w0 wz q G b2 A c bs P pk p J k ys) :
    ((wz.setCell ⟨b2, 0, none⟩ (.slice P p.length pk)).setCell ⟨b2, 1, none⟩ (.slice J ys.length k)).ownsRow w0.heap.size 3 1 (.slice P p.length pk) p.length (p.map (Value.int .i64)) ∧
    ((wz.setCell ⟨b2, 0, none⟩ (.slice P p.length pk)).setCell ⟨b2, 1, none⟩ (.slice J ys.length k)).ownsRow w0.heap.size 3 1 (.slice J ys.length k) ys.length (ys.map (Value.int .i64)) ∧
    Drawn w0 ((wz.setCell ⟨b2, 0, none⟩ (.slice P p.length pk)).setCell ⟨b2, 1, none⟩ (.slice J ys.length k)) q A c bs ∧
    ((wz.setCell ⟨b2, 0, none⟩ (.slice P p.length pk)).setCell ⟨b2, 1, none⟩ (.slice J ys.length k)).heap[b2]? = some (Obj.cells #[Value.slice P p.length pk, Value.slice J ys.length k] 32) := by
  have o1 := obj_set (i := 0) h.ob (Value.slice P p.length pk)
  have o2 := obj_set (i := 1) o1 (Value.slice J ys.length k)
  have hP := own_boxed (i := 1) (u := Value.slice J ys.length k) (own_boxed (i := 0) (u := Value.slice P p.length pk) h.ownP h.ob (by decide)) o1 (by decide)
  have hJ := own_boxed (i := 1) (u := Value.slice J ys.length k) (own_boxed (i := 0) (u := Value.slice P p.length pk) h.ownJ h.ob (by decide)) o1 (by decide)
  refine ⟨hP, own_mono hJ (by have := h.hG; omega), h.dr.next (((Below.refl w0.heap.size wz).setCell (p := ⟨b2, 0, none⟩) h.hb _).setCell (p := ⟨b2, 1, none⟩) h.hb _) h.hq, ?_⟩
  simpa using o2
end
/-- A pattern with joined places was drawn. -/
def RetDN (w : World) (q : Nat) (A : Option Addr) (c : Nat) (bs : List Int) (en : Ending) (w' : World) : Prop :=
  ∃ (P : Option Addr) (pk : Nat) (p : List Int) (J : Option Addr) (k : Nat) (ys : List Int), en = .returned (.agg #[.slice P p.length pk, .slice J ys.length k]) ∧ p.length ≤ 4 ∧ ys.length ≤ 4 ∧ p.Perm (upToL p.length) ∧
    w'.ownsRow w.heap.size 3 1 (.slice P p.length pk) p.length (p.map (Value.int .i64)) ∧ w'.ownsRow w.heap.size 3 1 (.slice J ys.length k) ys.length (ys.map (Value.int .i64)) ∧ Drawn w w' q A c bs
set_option maxHeartbeats 8000000 in
theorem l8Draw_any (w : World) (q : Nat) (A : Option Addr) (c : Nat) (bs : List Int) (hc : Cur w q A c bs) :
    Calls Try.prog 76 #[.pointer (some ⟨q, 0, none⟩)] w (RetDN w q A c bs) := by
  obtain ⟨i0, hi, hz0, hz1, hz2⟩ := info_parts infoI
  have hq := hc.lt
  have ob := obj_alloc (obj_new w (Obj.cells #[Value.slice none 0 0, Value.slice none 0 0] 32)) (Obj.cells #[Value.int .i64 0, Value.int .i64 1, Value.int .i64 2, Value.int .i64 3, Value.int .i64 3, Value.int .i64 4] 3)
  have hbA : Below w.heap.size w ((w.alloc (Obj.cells #[Value.slice none 0 0, Value.slice none 0 0] 32)).alloc (Obj.cells #[Value.int .i64 0, Value.int .i64 1, Value.int .i64 2, Value.int .i64 3, Value.int .i64 3, Value.int .i64 4] 3)) := ((Below.refl _ _).alloc (Nat.le_refl _) _).alloc (by simp) _
  have kA := (Drawn.refl hc).next hbA hq
  have HP := Lib.hid (l1PickInt_any _ q A c bs (w.heap.size + 1) 6 6 [0, 1, 2, 3, 3, 4] rfl (by decide) (by decide) (by omega) (by simp) (fun j hj => (obj_cell (by have := obj_new (w.alloc (Obj.cells #[Value.slice none 0 0, Value.slice none 0 0] 32)) (Obj.cells #[Value.int .i64 0, Value.int .i64 1, Value.int .i64 2, Value.int .i64 3, Value.int .i64 3, Value.int .i64 4] 3); simpa using this)).trans (by
    have hj : j < 6 := hj
    rcases j with _ | _ | _ | _ | _ | _ | j
    all_goals first | rfl | omega)) kA.cur)
  go_enter Try.func76, Try.ntmps76
  go_wp2_with fail
  (with_reducible refine HP.out.mono ?_)
  rintro e w1 ⟨x, rfl, hx, k1⟩
  have hx8 : 0 ≤ x ∧ x ≤ 4 := by simp at hx; omega
  obtain ⟨n, rfl⟩ := Int.eq_ofNat_of_zero_le hx8.1
  have ob := (k1.span.block w.heap.size (obj_lt ob) (.inr (by omega))).trans ob
  have k1 := kA.trans k1
  have HD := Lib.hid (l2Draw_any w1 q A c bs n (by omega) k1.cur)
  clear HP hx
  go_wp2_with fail
  (with_reducible refine HD.out.mono ?_)
  rintro e w2 ⟨P, pk, p, rfl, hp, ho, k2⟩
  have hpn : p.length = n := by rw [hp.length_eq, upToL_length]
  have HPP := Lib.hid (show p.Perm (upToL p.length) by rw [hpn]; exact hp)
  have hp4 : p.length ≤ 4 := by omega
  have ob := (k2.span.block w.heap.size (obj_lt ob) (.inr (by omega))).trans ob
  have hsz := k1.span.size
  have k2 := k1.trans k2
  have hsz2 := k2.span.size
  have hlt2 : w.heap.size < w2.heap.size := obj_lt ob
  have hoL : ∀ g, (Value.slice P p.length pk).ownBlock = some g → g < w2.heap.size := fun g hg => (ho.lt g hg).2
  have ho := (own_mono ho hsz).alloc (Obj.cells #[Value.slice P p.length pk, Value.slice none 0 0] 32)
  obtain ⟨G, hG⟩ : ∃ G, G = w2.heap.size := ⟨_, rfl⟩
  have M0 : NearSt w (w2.alloc (Obj.cells #[Value.slice P p.length pk, Value.slice none 0 0] 32)) q G w.heap.size A c bs P pk p none 0 [] :=
    ⟨by rw [hG]; exact obj_new w2 _, obj_alloc ob _, ⟨rfl, .inl ⟨rfl, rfl⟩⟩, ho, by rw [hG]; exact hoL, k2.next ((Below.refl w.heap.size w2).alloc hsz2 _) hq, hq, by omega, Nat.le_refl _, by omega⟩
  have HGG := Lib.hid hG
  clear HD hp ob ho k1 k2 hbA kA hG hpn hoL
  go_wp2_with fail
  rw [← HGG.out]
  go_loopw [4] (fun ix wr => ∃ (i : Nat) (J : Option Addr) (k : Nat) (ys : List Int), 1 ≤ i ∧ (i ≤ p.length ∨ i = 1) ∧ ix = .int .i64 i ∧ NearSt w wr q G w.heap.size A c bs P pk p J k ys ∧ ys.length + 1 ≤ i) (fun ix _ => p.length + 1 - (intOf ix).toNat)
  case atStart => exact ⟨1, none, 0, [], Nat.le_refl _, .inr rfl, rfl, M0, Nat.le_refl _⟩
  case round =>
    clear M0
    obtain ⟨i, J, k, ys, hi1, hi2, rfl, M, hyl⟩ := hrel
    have HI2 := Lib.hid hi2
    have f0 := M.cells.1
    clear hi2
    rcases Nat.lt_or_ge i p.length with hlt | hge
    · have l1 : (i : Int) < (p.length : Int) := by omega
      have HO := Lib.hid (l1Once_any wr q A c bs 2 (by omega) M.dr.cur)
      go_wp2_with fail
      (with_reducible refine HO.out.mono ?_)
      rintro e wa ⟨b, rfl, ka⟩
      have M := M.drawn ka
      clear ka HO f0
      rcases b with _ | _
      · go_wp2_with fail
        go_roundw
        case rel => exact ⟨i + 1, J, k, ys, by omega, .inl (by omega), by go_num, M, by omega⟩
        case measure => simp [intOf]; omega
      · have f1 := M.cells.2
        have hO1 := M.ownJ
        have hw0 := obj_lt M.og
        have HM := Lib.hid M
        clear M
        go_wp2_with ((at_builtin; refine wpList_append_own _ rfl _ _ 24 rfl (G + 1) 3 i0 (.int .i64 0) 1 8 Try.underlying24 hi hz0 hz1 hz2 rfl (by decide) _ _ _ rfl (World.ownsRow.alloc hO1 _) ⟨wa.heap.size, 0, none⟩ 1 1 [.int .i64 ((i : Int))] rfl rfl (cell_one_new _ _ _) (by intro u hu; simp at hu; subst hu; rfl) (by unfold maxLen; omega) (by omega) (by simp; omega) ?_; intro v1 w1 hown1 hgrow1 _)
                     obtain ⟨A2, c2, rfl, f7, u7, K⟩ := NearSt.push (x := (i : Int)) HM.out rfl hown1 hgrow1)
        go_roundw
        case rel => exact ⟨i + 1, A2, c2, ys ++ [(i : Int)], by omega, .inl (by omega), by go_num, by simpa using K.out, by simp; omega⟩
        case measure => simp [intOf]; omega
    · have l1 : ¬ (i : Int) < (p.length : Int) := by omega
      have hyl4 : ys.length ≤ 3 := by rcases HI2.out with h | h <;> omega
      have HO := Lib.hid (l1Once_any wr q A c bs 14 (by omega) M.dr.cur)
      clear HI2 hyl
      go_wp2_with fail
      (with_reducible refine HO.out.mono ?_)
      rintro e wa ⟨b, rfl, ka⟩
      have M := M.drawn ka
      clear ka HO f0
      rcases b with _ | _
      · have HFN := Lib.hid M.fin
        have g0 := M.cells.1
        have g1 := M.cells.2
        have t0 := (obj_cell (i := 0) M.ob).trans rfl
        have t1 := (obj_cell (i := 1) M.ob).trans rfl
        have u0 := obj_frozen (i := 0) M.ob
        have u1 := obj_frozen (i := 1) M.ob
        have l0 := (obj_cell (i := 0) HFN.out.2.2.2).trans rfl
        have l2 := (obj_cell (i := 1) HFN.out.2.2.2).trans rfl
        go_wp2_with fail
        refine bodyPost_ret (v := .agg #[.slice P p.length pk, .slice J ys.length k]) (by simp [results, Try.results76, go_sem, l0, l2]) rfl ?_
        exact ⟨P, pk, p, J, k, ys, rfl, hp4, by omega, HPP.out, HFN.out.1, HFN.out.2.1, HFN.out.2.2.1⟩
      · have M := M.moved (Dr.refl wa).drew
        have f1 := M.cells.2
        have M0 := M
        clear M
        go_wp2_with fail
        refine wp_region_held_drew (S := (fun _ => True)) (by kernel_rfl) trivial (fun hHeld => ?_)
        refine wpAnyH_take (i := 0) (oi := _) (v := ?_) rfl (by kernel_rfl) (by kernel_rfl) (by kernel_rfl) (fun _ _ _ h => h) (Or.inl ⟨by rfl, ?_⟩) (by assumption) ?_
        rotate_left
        · intro w hSw
          try dsimp only at hSw
          go_simp
          all_goals with_reducible rfl
        try simp only [Act.put, List.setIfInBounds_toArray, List.set_cons_zero, List.set_cons_succ, List.getElem_toArray, List.getElem_cons_succ, List.getElem_cons_zero]
        refine wpAnyH_take (i := 2) (oi := _) (v := ?_) rfl (by kernel_rfl) (by kernel_rfl) (by kernel_rfl) (fun _ _ _ h => h) (Or.inl ⟨by rfl, ?_⟩) (by assumption) ?_
        rotate_left
        · intro w hSw
          try dsimp only at hSw
          go_simp
          all_goals with_reducible rfl
        try simp only [Act.put, List.setIfInBounds_toArray, List.set_cons_zero, List.set_cons_succ, List.getElem_toArray, List.getElem_cons_succ, List.getElem_cons_zero]
        refine wpAnyH_ready (rs := [1, 3]) (by kernel_rfl) (by simp) ?_
        refine AllReadyH.cons (o := _) rfl (fun K hK => ?_) (AllReadyH.cons (o := _) rfl (fun K hK => ?_) AllReadyH.nil)
        · go_simp
          refine hK.out _ _ (trivial) (fun hHeld => ?_)
          clear hK K
          try simp only [Act.put, List.setIfInBounds_toArray, List.set_cons_zero, List.set_cons_succ, List.getElem_toArray, List.getElem_cons_succ, List.getElem_cons_zero]
          refine wpAnyH_ready (rs := [3]) (by kernel_rfl) (by simp) ?_
          refine AllReadyH.cons (o := _) rfl (fun K hK => ?_) AllReadyH.nil
          go_simp
          refine Calls.mono (l1Below_any _ q A c bs 5 (by omega) M0.dr.cur) ?_
          rintro e w5 ⟨x1, rfl, hx1, ka⟩
          have M5 := M0.drawn ka
          have f1 := M5.cells.2
          clear ka hx1
          go_wp2_with fail
          refine hK.out _ _ (trivial) (fun hHeld => ?_)
          clear hK K
          try simp only [Act.put, List.setIfInBounds_toArray, List.set_cons_zero, List.set_cons_succ, List.getElem_toArray, List.getElem_cons_succ, List.getElem_cons_zero]
          refine wpAnyH_ready (rs := [4]) (by kernel_rfl) (by simp) ?_
          refine AllReadyH.cons (o := _) rfl (fun K hK => ?_) AllReadyH.nil
          have f1 := (M5.alloc (Obj.cells #[Value.int .i64 x1] 3)).cells.2
          go_simp
          refine hK.out _ _ (trivial) (fun hHeld => ?_)
          clear hK K
          try simp only [Act.put, List.setIfInBounds_toArray, List.set_cons_zero, List.set_cons_succ, List.getElem_toArray, List.getElem_cons_succ, List.getElem_cons_zero]
          refine wpAnyH_ready (rs := [5]) (by kernel_rfl) (by simp) ?_
          refine AllReadyH.cons (o := _) rfl (fun K hK => ?_) AllReadyH.nil
          refine step_append_lies _ (by rfl) _ _ _ (by rfl) (G + 1) 3 i0 (.int .i64 0) 1 8 Try.underlying24 hi hz0 hz1 hz2 rfl (by decide) (Value.slice J ys.length k) ys.length _ (by rfl) (M5.alloc (Obj.cells #[Value.int .i64 x1] 3)).ownJ ⟨w5.heap.size, 0, none⟩ 1 1 [.int .i64 x1] (by rfl) (by rfl) (cell_one_new _ _ _) (by intro u hu; simp at hu; subst hu; rfl) (by omega) (by unfold maxLen; omega) (by omega) (by have := obj_lt M5.og; simp; omega) (w5.heap.size + 1) (by simp) ?_
          intro g cap w9 hown9 hgrow9 hlies9 hglt9
          obtain ⟨A2, c2, hA2, f7, u7, KM⟩ := NearSt.push (x := x1) (lit := Obj.cells #[Value.int .i64 x1] 3) M5 rfl hown9 hgrow9
          injection hA2 with hA2 _ hc2
          subst hA2 hc2
          refine hK.out _ _ (trivial) (fun hHeld => ?_)
          clear hK K
          try simp only [Act.put, List.setIfInBounds_toArray, List.set_cons_zero, List.set_cons_succ, List.getElem_toArray, List.getElem_cons_succ, List.getElem_cons_zero]
          refine wpAnyH_take (i := 6) (oi := _) (v := ?_) rfl (by kernel_rfl) (by kernel_rfl) (by kernel_rfl) (fun _ _ _ h => h) (Or.inl ⟨by rfl, ?_⟩) (by assumption) ?_
          rotate_left
          · intro w hSw
            try dsimp only at hSw
            go_simp
            all_goals with_reducible rfl
          try simp only [Act.put, List.setIfInBounds_toArray, List.set_cons_zero, List.set_cons_succ, List.getElem_toArray, List.getElem_cons_succ, List.getElem_cons_zero]
          refine wpAnyH_ready (rs := [7]) (by kernel_rfl) (by simp) ?_
          refine AllReadyH.cons (o := _) rfl (fun K hK => ?_) AllReadyH.nil
          go_simp
          refine hK.out _ _ (trivial) (fun hHeld => ?_)
          clear hK K
          try simp only [Act.put, List.setIfInBounds_toArray, List.set_cons_zero, List.set_cons_succ, List.getElem_toArray, List.getElem_cons_succ, List.getElem_cons_zero]
          refine wpAnyH_done (by kernel_rfl) ?_ _
          have HL := Lib.hid (show (ys ++ [x1]).length = ys.length + 1 by simp)
          have KM2 : NearSt w (w9.setCell ⟨G, 1, none⟩ (.slice (some ⟨g, 0, none⟩) (ys.length + 1) cap)) q G w.heap.size A c bs P pk p (some ⟨g, 0, none⟩) cap (ys ++ [x1]) := KM.out
          clear f7 u7 KM M5 f1 hown9 hgrow9 M0
          generalize w9.setCell ⟨G, 1, none⟩ (.slice (some ⟨g, 0, none⟩) (ys.length + 1) cap) = wq at KM2 ⊢
          have HFN := Lib.hid KM2.fin
          rw [HL.out] at HFN
          have g0 := KM2.cells.1
          have g1 := KM2.cells.2
          rw [HL.out] at g1
          have t0 := (obj_cell (i := 0) KM2.ob).trans rfl
          have t1 := (obj_cell (i := 1) KM2.ob).trans rfl
          have u0 := obj_frozen (i := 0) KM2.ob
          have u1 := obj_frozen (i := 1) KM2.ob
          have l0 := (obj_cell (i := 0) HFN.out.2.2.2).trans rfl
          have l2 := (obj_cell (i := 1) HFN.out.2.2.2).trans rfl
          go_wp2_with fail
          refine bodyPost_ret (v := .agg #[.slice P p.length pk, .slice (some ⟨g, 0, none⟩) (ys.length + 1) cap]) (by simp [results, Try.results76, go_sem, l0, l2]) rfl ?_
          exact ⟨P, pk, p, (some ⟨g, 0, none⟩), cap, (ys ++ [x1]), (by rw [HL.out]), hp4, by rw [HL.out]; omega, HPP.out, HFN.out.1, (by rw [HL.out]; exact HFN.out.2.1), HFN.out.2.2.1⟩
        · go_simp
          refine Calls.mono (l1Below_any _ q A c bs 5 (by omega) M0.dr.cur) ?_
          rintro e w5 ⟨x1, rfl, hx1, ka⟩
          have M5 := M0.drawn ka
          have f1 := M5.cells.2
          clear ka hx1
          go_wp2_with fail
          refine hK.out _ _ (trivial) (fun hHeld => ?_)
          clear hK K
          try simp only [Act.put, List.setIfInBounds_toArray, List.set_cons_zero, List.set_cons_succ, List.getElem_toArray, List.getElem_cons_succ, List.getElem_cons_zero]
          refine wpAnyH_ready (rs := [1, 4]) (by kernel_rfl) (by simp) ?_
          refine AllReadyH.cons (o := _) rfl (fun K hK => ?_) (AllReadyH.cons (o := _) rfl (fun K hK => ?_) AllReadyH.nil)
          · go_simp
            refine hK.out _ _ (trivial) (fun hHeld => ?_)
            clear hK K
            try simp only [Act.put, List.setIfInBounds_toArray, List.set_cons_zero, List.set_cons_succ, List.getElem_toArray, List.getElem_cons_succ, List.getElem_cons_zero]
            refine wpAnyH_ready (rs := [4]) (by kernel_rfl) (by simp) ?_
            refine AllReadyH.cons (o := _) rfl (fun K hK => ?_) AllReadyH.nil
            have f1 := (M5.alloc (Obj.cells #[Value.int .i64 x1] 3)).cells.2
            go_simp
            refine hK.out _ _ (trivial) (fun hHeld => ?_)
            clear hK K
            try simp only [Act.put, List.setIfInBounds_toArray, List.set_cons_zero, List.set_cons_succ, List.getElem_toArray, List.getElem_cons_succ, List.getElem_cons_zero]
            refine wpAnyH_ready (rs := [5]) (by kernel_rfl) (by simp) ?_
            refine AllReadyH.cons (o := _) rfl (fun K hK => ?_) AllReadyH.nil
            refine step_append_lies _ (by rfl) _ _ _ (by rfl) (G + 1) 3 i0 (.int .i64 0) 1 8 Try.underlying24 hi hz0 hz1 hz2 rfl (by decide) (Value.slice J ys.length k) ys.length _ (by rfl) (M5.alloc (Obj.cells #[Value.int .i64 x1] 3)).ownJ ⟨w5.heap.size, 0, none⟩ 1 1 [.int .i64 x1] (by rfl) (by rfl) (cell_one_new _ _ _) (by intro u hu; simp at hu; subst hu; rfl) (by omega) (by unfold maxLen; omega) (by omega) (by have := obj_lt M5.og; simp; omega) (w5.heap.size + 1) (by simp) ?_
            intro g cap w9 hown9 hgrow9 hlies9 hglt9
            obtain ⟨A2, c2, hA2, f7, u7, KM⟩ := NearSt.push (x := x1) (lit := Obj.cells #[Value.int .i64 x1] 3) M5 rfl hown9 hgrow9
            injection hA2 with hA2 _ hc2
            subst hA2 hc2
            refine hK.out _ _ (trivial) (fun hHeld => ?_)
            clear hK K
            try simp only [Act.put, List.setIfInBounds_toArray, List.set_cons_zero, List.set_cons_succ, List.getElem_toArray, List.getElem_cons_succ, List.getElem_cons_zero]
            refine wpAnyH_take (i := 6) (oi := _) (v := ?_) rfl (by kernel_rfl) (by kernel_rfl) (by kernel_rfl) (fun _ _ _ h => h) (Or.inl ⟨by rfl, ?_⟩) (by assumption) ?_
            rotate_left
            · intro w hSw
              try dsimp only at hSw
              go_simp
              all_goals with_reducible rfl
            try simp only [Act.put, List.setIfInBounds_toArray, List.set_cons_zero, List.set_cons_succ, List.getElem_toArray, List.getElem_cons_succ, List.getElem_cons_zero]
            refine wpAnyH_ready (rs := [7]) (by kernel_rfl) (by simp) ?_
            refine AllReadyH.cons (o := _) rfl (fun K hK => ?_) AllReadyH.nil
            go_simp
            refine hK.out _ _ (trivial) (fun hHeld => ?_)
            clear hK K
            try simp only [Act.put, List.setIfInBounds_toArray, List.set_cons_zero, List.set_cons_succ, List.getElem_toArray, List.getElem_cons_succ, List.getElem_cons_zero]
            refine wpAnyH_done (by kernel_rfl) ?_ _
            have HL := Lib.hid (show (ys ++ [x1]).length = ys.length + 1 by simp)
            have KM2 : NearSt w (w9.setCell ⟨G, 1, none⟩ (.slice (some ⟨g, 0, none⟩) (ys.length + 1) cap)) q G w.heap.size A c bs P pk p (some ⟨g, 0, none⟩) cap (ys ++ [x1]) := KM.out
            clear f7 u7 KM M5 f1 hown9 hgrow9 M0
            generalize w9.setCell ⟨G, 1, none⟩ (.slice (some ⟨g, 0, none⟩) (ys.length + 1) cap) = wq at KM2 ⊢
            have HFN := Lib.hid KM2.fin
            rw [HL.out] at HFN
            have g0 := KM2.cells.1
            have g1 := KM2.cells.2
            rw [HL.out] at g1
            have t0 := (obj_cell (i := 0) KM2.ob).trans rfl
            have t1 := (obj_cell (i := 1) KM2.ob).trans rfl
            have u0 := obj_frozen (i := 0) KM2.ob
            have u1 := obj_frozen (i := 1) KM2.ob
            have l0 := (obj_cell (i := 0) HFN.out.2.2.2).trans rfl
            have l2 := (obj_cell (i := 1) HFN.out.2.2.2).trans rfl
            go_wp2_with fail
            refine bodyPost_ret (v := .agg #[.slice P p.length pk, .slice (some ⟨g, 0, none⟩) (ys.length + 1) cap]) (by simp [results, Try.results76, go_sem, l0, l2]) rfl ?_
            exact ⟨P, pk, p, (some ⟨g, 0, none⟩), cap, (ys ++ [x1]), (by rw [HL.out]), hp4, by rw [HL.out]; omega, HPP.out, HFN.out.1, (by rw [HL.out]; exact HFN.out.2.1), HFN.out.2.2.1⟩
          · have f1 := (M5.alloc (Obj.cells #[Value.int .i64 x1] 3)).cells.2
            go_simp
            refine hK.out _ _ (trivial) (fun hHeld => ?_)
            clear hK K
            try simp only [Act.put, List.setIfInBounds_toArray, List.set_cons_zero, List.set_cons_succ, List.getElem_toArray, List.getElem_cons_succ, List.getElem_cons_zero]
            refine wpAnyH_ready (rs := [1]) (by kernel_rfl) (by simp) ?_
            refine AllReadyH.cons (o := _) rfl (fun K hK => ?_) AllReadyH.nil
            go_simp
            refine hK.out _ _ (trivial) (fun hHeld => ?_)
            clear hK K
            try simp only [Act.put, List.setIfInBounds_toArray, List.set_cons_zero, List.set_cons_succ, List.getElem_toArray, List.getElem_cons_succ, List.getElem_cons_zero]
            refine wpAnyH_ready (rs := [5]) (by kernel_rfl) (by simp) ?_
            refine AllReadyH.cons (o := _) rfl (fun K hK => ?_) AllReadyH.nil
            refine step_append_lies _ (by rfl) _ _ _ (by rfl) (G + 1) 3 i0 (.int .i64 0) 1 8 Try.underlying24 hi hz0 hz1 hz2 rfl (by decide) (Value.slice J ys.length k) ys.length _ (by rfl) (M5.alloc (Obj.cells #[Value.int .i64 x1] 3)).ownJ ⟨w5.heap.size, 0, none⟩ 1 1 [.int .i64 x1] (by rfl) (by rfl) (cell_one_new _ _ _) (by intro u hu; simp at hu; subst hu; rfl) (by omega) (by unfold maxLen; omega) (by omega) (by have := obj_lt M5.og; simp; omega) (w5.heap.size + 1) (by simp) ?_
            intro g cap w9 hown9 hgrow9 hlies9 hglt9
            obtain ⟨A2, c2, hA2, f7, u7, KM⟩ := NearSt.push (x := x1) (lit := Obj.cells #[Value.int .i64 x1] 3) M5 rfl hown9 hgrow9
            injection hA2 with hA2 _ hc2
            subst hA2 hc2
            refine hK.out _ _ (trivial) (fun hHeld => ?_)
            clear hK K
            try simp only [Act.put, List.setIfInBounds_toArray, List.set_cons_zero, List.set_cons_succ, List.getElem_toArray, List.getElem_cons_succ, List.getElem_cons_zero]
            refine wpAnyH_take (i := 6) (oi := _) (v := ?_) rfl (by kernel_rfl) (by kernel_rfl) (by kernel_rfl) (fun _ _ _ h => h) (Or.inl ⟨by rfl, ?_⟩) (by assumption) ?_
            rotate_left
            · intro w hSw
              try dsimp only at hSw
              go_simp
              all_goals with_reducible rfl
            try simp only [Act.put, List.setIfInBounds_toArray, List.set_cons_zero, List.set_cons_succ, List.getElem_toArray, List.getElem_cons_succ, List.getElem_cons_zero]
            refine wpAnyH_ready (rs := [7]) (by kernel_rfl) (by simp) ?_
            refine AllReadyH.cons (o := _) rfl (fun K hK => ?_) AllReadyH.nil
            go_simp
            refine hK.out _ _ (trivial) (fun hHeld => ?_)
            clear hK K
            try simp only [Act.put, List.setIfInBounds_toArray, List.set_cons_zero, List.set_cons_succ, List.getElem_toArray, List.getElem_cons_succ, List.getElem_cons_zero]
            refine wpAnyH_done (by kernel_rfl) ?_ _
            have HL := Lib.hid (show (ys ++ [x1]).length = ys.length + 1 by simp)
            have KM2 : NearSt w (w9.setCell ⟨G, 1, none⟩ (.slice (some ⟨g, 0, none⟩) (ys.length + 1) cap)) q G w.heap.size A c bs P pk p (some ⟨g, 0, none⟩) cap (ys ++ [x1]) := KM.out
            clear f7 u7 KM M5 f1 hown9 hgrow9 M0
            generalize w9.setCell ⟨G, 1, none⟩ (.slice (some ⟨g, 0, none⟩) (ys.length + 1) cap) = wq at KM2 ⊢
            have HFN := Lib.hid KM2.fin
            rw [HL.out] at HFN
            have g0 := KM2.cells.1
            have g1 := KM2.cells.2
            rw [HL.out] at g1
            have t0 := (obj_cell (i := 0) KM2.ob).trans rfl
            have t1 := (obj_cell (i := 1) KM2.ob).trans rfl
            have u0 := obj_frozen (i := 0) KM2.ob
            have u1 := obj_frozen (i := 1) KM2.ob
            have l0 := (obj_cell (i := 0) HFN.out.2.2.2).trans rfl
            have l2 := (obj_cell (i := 1) HFN.out.2.2.2).trans rfl
            go_wp2_with fail
            refine bodyPost_ret (v := .agg #[.slice P p.length pk, .slice (some ⟨g, 0, none⟩) (ys.length + 1) cap]) (by simp [results, Try.results76, go_sem, l0, l2]) rfl ?_
            exact ⟨P, pk, p, (some ⟨g, 0, none⟩), cap, (ys ++ [x1]), (by rw [HL.out]), hp4, by rw [HL.out]; omega, HPP.out, HFN.out.1, (by rw [HL.out]; exact HFN.out.2.1), HFN.out.2.2.1⟩
set_option maxHeartbeats 2000000 in
theorem drawMeshOf (A : Option Addr) (c : Nat) (bs : List Int) (w : World) (h : InY w A c bs) :
    Calls Try.prog 10 #[.slice A bs.length c] w (fun en w' => ∃ (P : Option Addr) (pk : Nat) (p : List Int) (J : Option Addr) (k : Nat) (ys : List Int), en = .returned (.agg #[.slice P p.length pk, .slice J ys.length k]) ∧
      p.length ≤ 4 ∧ ys.length ≤ 4 ∧ InN w' P pk p J k ys ∧ Below w.heap.size w w') := by
  have hb0 := (Below.refl w.heap.size w).alloc (Nat.le_refl _) (Obj.cells #[Value.slice none 0 0, Value.slice none 0 0] 32)
  have ob := obj_new w (Obj.cells #[Value.slice none 0 0, Value.slice none 0 0] 32)
  have HC := Lib.hid (l1New_any A c bs _ h.len (h.next hb0).rd)
  go_enter Try.func10, Try.ntmps10
  go_wp2_with fail
  (with_reducible refine HC.out.mono ?_)
  rintro e w1 ⟨q, rfl, hq, hc, hb⟩
  have ob := obj_below ob hb (by simp)
  have hb0 := hb0.trans (hb.mono hb0.size)
  have hq0 : w.heap.size < q := by simp at hq; omega
  have HE := Lib.hid (l8Draw_any w1 q A c bs hc)
  clear HC hb hq
  go_wp2_with fail
  (with_reducible refine HE.out.mono ?_)
  rintro e w3 ⟨P, pk, p, S, k, rs, rfl, hp4, hr4, hpp, hoP, hoR, k3⟩
  have hq1 := hc.lt
  have ob := obj_below ob (k3.below (B := q) (Nat.le_refl _) (Nat.le_of_lt hq1)) hq0
  have hb0 := hb0.trans (k3.below (by omega) hb0.size)
  have t0 := (obj_cell (i := 0) ob).trans rfl
  have t1 := (obj_cell (i := 1) ob).trans rfl
  have u0 := obj_frozen (i := 0) ob
  have u1 := obj_frozen (i := 1) ob
  have o1 := obj_set (i := 0) ob (Value.slice P p.length pk)
  have o2 := obj_set (i := 1) o1 (Value.slice S rs.length k)
  have l0 := (obj_cell (i := 0) o2).trans rfl
  have l1 := (obj_cell (i := 1) o2).trans rfl
  have hP := In.of_own (own_boxed (i := 1) (u := Value.slice S rs.length k) (own_boxed (i := 0) (u := Value.slice P p.length pk) hoP ob (by decide)) o1 (by decide)) (by omega)
  have hR := In.of_own (own_boxed (i := 1) (u := Value.slice S rs.length k) (own_boxed (i := 0) (u := Value.slice P p.length pk) hoR ob (by decide)) o1 (by decide)) (by omega)
  have hb9 := (hb0.setCell (p := ⟨w.heap.size, 0, none⟩) (Nat.le_refl _) (Value.slice P p.length pk)).setCell (p := ⟨w.heap.size, 1, none⟩) (Nat.le_refl _) (Value.slice S rs.length k)
  clear HE k3 o1 o2 ob hoP hoR hpp
  go_wp2_with fail
  refine bodyPost_ret (v := .agg #[.slice P p.length pk, .slice S rs.length k]) (by simp [results, Try.results10, go_sem, l0, l1]) rfl ?_
  exact ⟨P, pk, p, S, k, rs, rfl, hp4, hr4, ⟨hP, hR⟩, hb9⟩
end Go.Proofs.Ythipikllgpnlhaa
