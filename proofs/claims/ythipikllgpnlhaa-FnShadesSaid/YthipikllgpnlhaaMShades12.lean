/- Several texts in one, each with its own head: WShades, Open. No program of ours. -/
import Derived.Deep.RegionHeld3
import Derived.Test.YthipikllgpnlhaaRows
import Derived.ProofKit
import Derived.OpenShut
import Derived.Deep.Matrix
import Derived.Test.YthipikllgpnlhaaMShades11
/- The walk of FnShades. Written by gen/genwsh.py. -/
namespace Go.Proofs.Ythipikllgpnlhaa
set_option maxRecDepth 100000
open Go Go.RowKit

/-- A row's header is appended to the list that lies in a box. -/
theorem box_push {y wr w9 : World} {b7 n c1 : Nat} {Pv v9 : Value} {A1 : Option Addr} {ms : List Row} {r : Row} {o : Obj} (h : OutL wr b7 A1 c1 ms) (hn : ms.length = n)
    (o7 : wr.heap[b7]? = some (Obj.cells #[Pv, .slice A1 n c1] 27)) (hr : RowOk wr b7 r)
    (hown : w9.ownsRow b7 24 1 v9 (n + 1) (ms.map Row.v ++ [r.v])) (hg : (wr.alloc o).grownBy w9 (Value.slice A1 n c1).ownBlock) (hb : Below b7 y wr) :
    ∃ A2 c2, v9 = .slice A2 (n + 1) c2 ∧ w9.cell? ⟨b7, 1, none⟩ = some (.slice A1 n c1) ∧ w9.frozen? ⟨b7, 1, none⟩ = false ∧
      Hid ((w9.setCell ⟨b7, 1, none⟩ (.slice A2 (n + 1) c2)).heap[b7]? = some (Obj.cells #[Pv, .slice A2 (n + 1) c2] 27) ∧ OutL (w9.setCell ⟨b7, 1, none⟩ (.slice A2 (n + 1) c2)) b7 A2 c2 (ms ++ [r]) ∧
        Below b7 y (w9.setCell ⟨b7, 1, none⟩ (.slice A2 (n + 1) c2))) := by
  have hlt := obj_lt o7
  obtain ⟨A2, c2, rfl, hO, hgg, hsz⟩ := OutL.push h hn (Nat.le_of_lt hlt) hr hown hg
  have hne : some b7 ≠ (Value.slice A1 n c1).ownBlock := by
    intro e
    subst hn
    rcases h.out.2 with ⟨e1, _⟩ | ⟨g1, cap1, cur1, e1, _, hh, _⟩
    · rw [e1] at e; cases e
    · rw [e1] at e
      injection e with e
      have e : b7 = g1 := e
      subst e
      rw [o7] at hh
      injection hh with hh
      injection hh with _ ht _
      exact absurd ht (by decide)
  have o9 := (hgg.block b7 hlt hne).trans o7
  refine ⟨A2, c2, rfl, (obj_cell o9).trans rfl, obj_frozen o9, Lib.hid ⟨obj_set (i := 1) o9 _, hO.box (Nat.le_refl _) (by omega) o9 (by decide) (by decide) _, ?_⟩⟩
  exact (hb.grown hgg (Nat.le_of_lt hlt) fun g hg => (h.lt hn g hg).1).setCell (p := ⟨b7, 1, none⟩) (Nat.le_refl _) _
theorem countMesh_sq {Q : Int} (C : Option Addr) (e : Nat) (p : List Int) (A B : Option Addr) (c k : Nat) (xs : List Int) (rs : List Row) (w : World) (hp : In w C e p) (h : InM w A c xs B k rs) (hq : cmG p xs (rs.map Row.xs) = Q) :
    Calls Try.prog 15 #[.slice C p.length e, .agg #[.slice A xs.length c, .slice B rs.length k]] w (Rb w (.int .i64 Q)) := by subst hq; exact countMesh_spec C e p A B c k xs rs w hp h

set_option maxHeartbeats 4000000 in
set_option maxRecDepth 100000 in
theorem walk_FnShades (w : World) (A : Option Addr) (c : Nat) (bs : List Int) (hm : bs.length ≤ 9223372036854775807) (hr : Rd (Value.int .u8) w w.heap.size A bs) :
    Calls Try.prog 6 #[.slice A bs.length c] w (Rb w (.bool true)) := by
  obtain ⟨i0, hi, hz0, hz1, hz2⟩ := info_parts infoI
  rcases Nat.lt_or_ge 1048576 bs.length with hbig | hlen
  · have HC := Lib.hid (big_no A c bs w hbig hm)
    go_enter Try.func6, Try.ntmps6
    go_wp2_with fail
    (with_reducible refine HC.out.mono ?_)
    rintro e w1 ⟨rfl, rfl⟩
    go_wp2_with fail
    go_ret
    exact ⟨rfl, Below.refl _ _⟩
  have h0 : InY w A c bs := ⟨hlen, hr⟩
  have HC := Lib.hid (big_ok A c bs w hlen)
  clear hr hm
  go_enter Try.func6, Try.ntmps6
  go_wp2_with fail
  (with_reducible refine HC.out.mono ?_)
  rintro e w0 ⟨rfl, rfl⟩
  clear HC
  have HB := Below.refl w.heap.size w
  have HC := Lib.hid (drawCanShade A c bs w h0)
  go_wp2_with fail
  (with_reducible refine HC.out.mono ?_)
  rintro e x1 ⟨P, pk, p, S, sk, rs, x, y, rfl, hp2, hrl, hr2, hxl0, hxl1, hyl0, hyl1, im, hb⟩
  clear HC
  replace h0 := h0.next hb
  replace HB := HB.trans (hb.mono HB.size)
  clear hb
  clear h0
  obtain ⟨j0, hj, hy0, hy1, hy2⟩ := info_parts infoL
  have HR2 := Lib.hid hr2
  have hbA := (Below.refl x1.heap.size x1).alloc (Nat.le_refl _) (Obj.cells #[Value.slice P p.length pk, Value.slice S rs.length sk] 27)
  have o3 := obj_new x1 (Obj.cells #[Value.slice P p.length pk, Value.slice S rs.length sk] 27)
  have HB := HB.trans (hbA.mono HB.size)
  have im := im.next hbA
  obtain ⟨b3, hb3⟩ : ∃ b, b = x1.heap.size := ⟨_, rfl⟩
  rw [← hb3] at o3
  have H3 := Lib.hid hb3
  clear hr2 hbA hb3
  have f30 : (x1.alloc (Obj.cells #[Value.slice P p.length pk, Value.slice S rs.length sk] 27)).cell? ⟨x1.heap.size, 0, none⟩ = some (Value.slice P p.length pk) := by rw [← H3.out]; exact (obj_cell o3).trans rfl
  have f31 : (x1.alloc (Obj.cells #[Value.slice P p.length pk, Value.slice S rs.length sk] 27)).cell? ⟨x1.heap.size, 1, none⟩ = some (Value.slice S rs.length sk) := by rw [← H3.out]; exact (obj_cell o3).trans rfl
  have HC := Lib.hid (canShade_impl P S pk sk p rs x (by omega) y (by omega) _ im)
  go_wp2_with fail
  (with_reducible refine HC.out.mono ?_)
  rintro e x2 ⟨rfl, hb⟩
  have o3 := obj_below o3 hb (obj_lt o3)
  have HB := HB.trans (hb.mono HB.size)
  have im := im.next hb
  have f30 : x2.cell? ⟨x1.heap.size, 0, none⟩ = some (Value.slice P p.length pk) := by rw [← H3.out]; exact (obj_cell o3).trans rfl
  have f31 : x2.cell? ⟨x1.heap.size, 1, none⟩ = some (Value.slice S rs.length sk) := by rw [← H3.out]; exact (obj_cell o3).trans rfl
  have HC := Lib.hid (canShade_spec P S pk sk p rs x (by omega) y (by omega) _ im)
  clear hb
  go_wp2_with fail
  (with_reducible refine HC.out.mono ?_)
  rintro e x3 ⟨rfl, hb⟩
  have o3 := obj_below o3 hb (obj_lt o3)
  have HB := HB.trans (hb.mono HB.size)
  have im := im.next hb
  have hl3 := obj_lt o3
  clear hb HC f30 f31
  rcases hcs : csB p (rs.map Row.xs) x y with _ | _
  · have c0 : (false != false) = false := rfl
    go_wp2_with fail
    go_ret
    exact ⟨rfl, HB⟩
  have HCS := Lib.hid hcs
  have f30 : x3.cell? ⟨x1.heap.size, 0, none⟩ = some (Value.slice P p.length pk) := by rw [← H3.out]; exact (obj_cell o3).trans rfl
  clear hcs
  go_upto_region 10 with (fail)
  obtain ⟨b7, hb7⟩ : ∃ b, b = x3.heap.size := ⟨_, rfl⟩
  have h37 : b3 < b7 := by omega
  have o7 := obj_new x3 (Obj.cells #[Value.slice P p.length pk, Value.slice none 0 0] 27)
  have hbN : Below b7 x3 (x3.alloc (Obj.cells #[Value.slice P p.length pk, Value.slice none 0 0] 27)) := (Below.refl b7 x3).alloc (by omega) _
  rw [← hb7] at o7
  have H7 := Lib.hid hb7
  rw [← hb7] at hl3
  clear hb7 f30
  rw [← H3.out, ← H7.out]
  go_wp2_with fail
  go_loopw [8, 9, 10] (fun pl i _ wr => ∃ (k : Nat) (b : Bool) (A1 : Option Addr) (c1 : Nat) (ms : List Row), k ≤ rs.length ∧ i = .int .i64 k ∧ pl = .bool b ∧ Hid (insTo (rs.map Row.xs) x y k = (ms.map Row.xs, b)) ∧
    wr.heap[b7]? = some (Obj.cells #[Value.slice P p.length pk, Value.slice A1 ms.length c1] 27) ∧ OutL wr b7 A1 c1 ms ∧ Below b7 x3 wr) (fun _ i _ _ => rs.length - (intOf i).toNat)
  case atStart => exact ⟨0, false, none, 0, [], Nat.zero_le _, rfl, rfl, Lib.hid rfl, o7, OutL.nil _ _, hbN⟩
  case round =>
    clear o7 hbN
    obtain ⟨k, b, A1, c1, ms, hk, rfl, rfl, HI, o7, hO, hbN⟩ := hrel
    have o3w := obj_below o3 hbN h37
    have f31 : wr.cell? ⟨b3, 1, none⟩ = some (Value.slice S rs.length sk) := (obj_cell o3w).trans rfl
    have hl7 := obj_lt o7
    have hms : ms.length ≤ 2 := by
      have h1 := insTo_len (rs.map Row.xs) x y k
      rw [HI.out] at h1
      simp at h1
      omega
    rcases Nat.lt_or_ge k rs.length with hlt | hge
    · have hjl : (k : Int) < (rs.length : Int) := by omega
      have hj0 : (0 : Int) ≤ (k : Int) := Int.natCast_nonneg _
      have imw := im.next (w' := wr) (by rw [← H7.out]; exact hbN)
      obtain ⟨sb, so, hS, hsb, hcells⟩ := imw.snd.read.at (by omega)
      have hcell := hcells k hlt
      have hrin := imw.snd.row (List.getElem_mem hlt)
      have HROK := Lib.hid (show ∀ wz, Below b7 x3 wz → RowOk wz b7 rs[k] from fun wz hz => ⟨hrin.cap, .inl (((im.snd.read.rd rs[k] (List.getElem_mem hlt)).more (B' := b7) (by rw [← H7.out]; exact Nat.le_refl _)).below hz)⟩)
      have hx2 := HR2.out rs[k] (List.getElem_mem hlt)
      have HG := Lib.hid (show (rs.map Row.xs)[k]?.getD [] = rs[k].xs by simp [hlt])
      have HL : Hid (insTo (rs.map Row.xs) x y (k + 1) = if ((!(ms.map Row.xs, b).2) && gtB rs[k].xs x y) = true then ((ms.map Row.xs, b).1 ++ [[x, y], rs[k].xs], true) else ((ms.map Row.xs, b).1 ++ [rs[k].xs], (ms.map Row.xs, b).2)) := Lib.hid (by
        show (if ((!(insTo (rs.map Row.xs) x y k).2) && gtB ((rs.map Row.xs)[k]?.getD []) x y) = true then _ else _) = _
        rw [HI.out, HG.out])
      generalize rs[k] = r at hcell hrin HROK hx2 HG HL
      obtain ⟨rA, rc, rx⟩ := r
      simp only at hcell hrin hx2 HL
      obtain ⟨a1, a2, rfl⟩ : ∃ a b, rx = [a, b] := by
        match rx, hx2 with
        | [a, b], _ => exact ⟨a, b, rfl⟩
      obtain ⟨rb, ro, hrA, _, hrc⟩ := hrin.rd (by simp)
      subst hrA hS
      have e0 : wr.cell? ⟨rb, ro, none⟩ = some (.int .i64 a1) := hrc 0 (by simp)
      have e1 : wr.cell? ⟨rb, ro + 1, none⟩ = some (.int .i64 a2) := hrc 1 (by simp)
      have hcell : wr.cell? ⟨sb, so + k, none⟩ = some (Value.slice (some ⟨rb, ro, none⟩) 2 rc) := hcell
      clear hcells hrc imw hrin hx2 HG HI
      go_upto_region 15 with fail
      go_cut [70] from 48 to 70 (fun s wz => s = .bool (!b && gtB [a1, a2] x y) ∧ wz = wr)
      case first =>
        rcases b with _ | _
        · by_cases h1 : a1 > x
          · have HH := Lib.hid (show gtB [a1, a2] x y = true by simp [gtB, h1])
            go_wp2_with fail
            go_meet
            case rel => exact ⟨by rw [HH.out]; rfl, rfl⟩
          · by_cases h2 : a1 = x
            · by_cases h3 : a2 > y
              · have HH := Lib.hid (show gtB [a1, a2] x y = true by simp [gtB, h2, h3])
                go_wp2_with fail
                go_meet
                case rel => exact ⟨by rw [HH.out]; rfl, rfl⟩
              · have HH := Lib.hid (show gtB [a1, a2] x y = false by simp [gtB, h2, h3])
                go_wp2_with fail
                go_meet
                case rel => exact ⟨by rw [HH.out]; rfl, rfl⟩
            · have HH := Lib.hid (show gtB [a1, a2] x y = false by simp [gtB, h1, h2])
              have h2b : (a1 == x) = false := by simp [h2]
              go_wp2_with fail
              go_meet
              case rel => exact ⟨by rw [HH.out]; rfl, rfl⟩
        · go_wp2_with fail
          go_meet
          case rel => exact ⟨rfl, rfl⟩
      obtain ⟨rfl, rfl⟩ := hcut
      obtain ⟨wr, rfl⟩ : ∃ w', w' = wc := ⟨_, rfl⟩
      have f71 : wr.cell? ⟨b7, 1, none⟩ = some (Value.slice A1 ms.length c1) := (obj_cell o7).trans rfl
      clear e0 e1 hcell f31
      by_cases hgt : (!b && gtB [a1, a2] x y) = true
      · have HT := Lib.hid (show insTo (rs.map Row.xs) x y (k + 1) = (ms.map Row.xs ++ [[x, y], [a1, a2]], true) by rw [HL.out, if_pos hgt])
        have hbx := (Below.refl wr.heap.size wr).alloc (Nat.le_refl _) (Obj.cells #[Value.int .i64 x, Value.int .i64 y] 3)
        have o7x := obj_alloc o7 (Obj.cells #[Value.int .i64 x, Value.int .i64 y] 3)
        have hOx := hO.below hbx (Nat.le_of_lt hl7)
        have hNx := hbN.alloc (Nat.le_of_lt hl7) (Obj.cells #[Value.int .i64 x, Value.int .i64 y] 3)
        have hrk : RowOk (wr.alloc (Obj.cells #[Value.int .i64 x, Value.int .i64 y] 3)) b7 ⟨some ⟨wr.heap.size, 0, none⟩, 2, [x, y]⟩ := RowOk.two (obj_new wr _) (Nat.le_of_lt hl7)
        rw [hgt]
        go_upto_region 18 with ((at_builtin; refine wpList_append_own _ rfl _ _ 25 rfl (b7) 24 j0 (.slice none 0 0) 1 24 Try.underlying25 hj hy0 hy1 hy2 rfl (by decide) _ _ _ rfl (World.ownsRow.alloc hOx.out _) ⟨wr.heap.size + 1, 0, none⟩ 1 1 [Value.slice (some ⟨wr.heap.size, 0, none⟩) 2 2] rfl rfl (cell_one_at _ _ (by simp)) (by intro u hu; simp at hu; subst hu; rfl) (by unfold maxLen; omega) (by omega) (by simp; omega) ?_; intro v9 w9 hown9 hgrow9 _)
                                obtain ⟨A2, c2, rfl, f7, u7, K9⟩ := box_push (r := ⟨some ⟨wr.heap.size, 0, none⟩, 2, [x, y]⟩) hOx rfl o7x hrk hown9 hgrow9 hNx)
        generalize w9.setCell ⟨b7, 1, none⟩ (Value.slice A2 (ms.length + 1) c2) = wq at K9 ⊢
        obtain ⟨o7q, hOq, hNq⟩ := K9.out
        have f7q : wq.cell? ⟨b7, 1, none⟩ = some (Value.slice A2 (ms.length + 1) c2) := (obj_cell o7q).trans rfl
        have hl7q := obj_lt o7q
        have hOqn : wq.ownsRow b7 24 1 (.slice A2 (ms.length + 1) c2) (ms.length + 1) ((ms ++ [(⟨some ⟨wr.heap.size, 0, none⟩, 2, [x, y]⟩ : Row)]).map Row.v) := by have := hOq.out; simpa using this
        clear o7x hOx hNx hrk hbx K9 hown9 hgrow9 f7 u7 f71 HL hgt
        go_wp2_with ((at_builtin; refine wpList_append_own _ rfl _ _ 25 rfl (b7) 24 j0 (.slice none 0 0) 1 24 Try.underlying25 hj hy0 hy1 hy2 rfl (by decide) _ _ _ rfl (World.ownsRow.alloc hOqn _) ⟨wq.heap.size, 0, none⟩ 1 1 [Value.slice (some ⟨rb, ro, none⟩) 2 rc] rfl rfl (cell_one_at _ _ (by simp)) (by intro u hu; simp at hu; subst hu; rfl) (by unfold maxLen; omega) (by omega) (by simp; omega) ?_; intro v9 w9 hown9 hgrow9 _)
                     obtain ⟨A3, c3, rfl, f7, u7, K8⟩ := box_push (r := ⟨some ⟨rb, ro, none⟩, rc, [a1, a2]⟩) hOq (by simp) o7q (HROK.out _ hNq) hown9 hgrow9 hNq)
        go_roundw
        case rel => exact ⟨k + 1, true, A3, c3, ms ++ [⟨some ⟨wr.heap.size, 0, none⟩, 2, [x, y]⟩] ++ [⟨some ⟨rb, ro, none⟩, rc, [a1, a2]⟩], by omega, by go_num, rfl, Lib.hid (by rw [HT.out]; simp), by rw [show (ms ++ [(⟨some ⟨wr.heap.size, 0, none⟩, 2, [x, y]⟩ : Row)] ++ [(⟨some ⟨rb, ro, none⟩, rc, [a1, a2]⟩ : Row)]).length = ms.length + 1 + 1 by simp]; exact K8.out.1, K8.out.2.1, K8.out.2.2⟩
        case measure => simp [intOf]; omega
      · have hgt : (!b && gtB [a1, a2] x y) = false := by simpa using hgt
        have HT := Lib.hid (show insTo (rs.map Row.xs) x y (k + 1) = (ms.map Row.xs ++ [[a1, a2]], b) by rw [HL.out, if_neg (by simp [hgt])])
        have hrk := HROK.out _ hbN
        have hO1 := hO.out
        rw [hgt]
        clear HL hgt
        go_wp2_with ((at_builtin; refine wpList_append_own _ rfl _ _ 25 rfl (b7) 24 j0 (.slice none 0 0) 1 24 Try.underlying25 hj hy0 hy1 hy2 rfl (by decide) _ _ _ rfl (World.ownsRow.alloc hO1 _) ⟨wr.heap.size, 0, none⟩ 1 1 [Value.slice (some ⟨rb, ro, none⟩) 2 rc] rfl rfl (cell_one_at _ _ (by simp)) (by intro u hu; simp at hu; subst hu; rfl) (by unfold maxLen; omega) (by omega) (by simp; omega) ?_; intro v9 w9 hown9 hgrow9 _)
                     obtain ⟨A3, c3, rfl, f7, u7, K8⟩ := box_push (r := ⟨some ⟨rb, ro, none⟩, rc, [a1, a2]⟩) hO rfl o7 hrk hown9 hgrow9 hbN)
        go_roundw
        case rel => exact ⟨k + 1, b, A3, c3, ms ++ [⟨some ⟨rb, ro, none⟩, rc, [a1, a2]⟩], by omega, by go_num, rfl, Lib.hid (by rw [HT.out]; simp), by rw [show (ms ++ [(⟨some ⟨rb, ro, none⟩, rc, [a1, a2]⟩ : Row)]).length = ms.length + 1 by simp]; exact K8.out.1, K8.out.2.1, K8.out.2.2⟩
        case measure => simp [intOf]; omega
    · obtain rfl : k = rs.length := by omega
      have f71 : wr.cell? ⟨b7, 1, none⟩ = some (Value.slice A1 ms.length c1) := (obj_cell o7).trans rfl
      have HI2 := Lib.hid (show insTo (rs.map Row.xs) x y (rs.map Row.xs).length = (ms.map Row.xs, b) by rw [List.length_map]; exact HI.out)
      go_upto_if 86 with (fail)
      go_cut [] from 85 to 94 (fun wz => Hid (∃ (A1 : Option Addr) (c1 : Nat) (ms : List Row), ms.map Row.xs = moreL (rs.map Row.xs) x y ∧ wz.heap[b7]? = some (Obj.cells #[Value.slice P p.length pk, Value.slice A1 ms.length c1] 27) ∧ OutL wz b7 A1 c1 ms ∧ Below b7 x3 wz))
      case first =>
        rcases b with _ | _
        · have HT := Lib.hid (show moreL (rs.map Row.xs) x y = ms.map Row.xs ++ [[x, y]] by unfold moreL; rw [HI2.out]; rfl)
          have hbx := (Below.refl wr.heap.size wr).alloc (Nat.le_refl _) (Obj.cells #[Value.int .i64 x, Value.int .i64 y] 3)
          have o7x := obj_alloc o7 (Obj.cells #[Value.int .i64 x, Value.int .i64 y] 3)
          have hOx := hO.below hbx (Nat.le_of_lt hl7)
          have hNx := hbN.alloc (Nat.le_of_lt hl7) (Obj.cells #[Value.int .i64 x, Value.int .i64 y] 3)
          have hrk : RowOk (wr.alloc (Obj.cells #[Value.int .i64 x, Value.int .i64 y] 3)) b7 ⟨some ⟨wr.heap.size, 0, none⟩, 2, [x, y]⟩ := RowOk.two (obj_new wr _) (Nat.le_of_lt hl7)
          go_wp2_with ((at_builtin; refine wpList_append_own _ rfl _ _ 25 rfl (b7) 24 j0 (.slice none 0 0) 1 24 Try.underlying25 hj hy0 hy1 hy2 rfl (by decide) _ _ _ rfl (World.ownsRow.alloc hOx.out _) ⟨wr.heap.size + 1, 0, none⟩ 1 1 [Value.slice (some ⟨wr.heap.size, 0, none⟩) 2 2] rfl rfl (cell_one_at _ _ (by simp)) (by intro u hu; simp at hu; subst hu; rfl) (by unfold maxLen; omega) (by omega) (by simp; omega) ?_; intro v9 w9 hown9 hgrow9 _)
                       obtain ⟨A2, c2, rfl, f7, u7, K9⟩ := box_push (r := ⟨some ⟨wr.heap.size, 0, none⟩, 2, [x, y]⟩) hOx rfl o7x hrk hown9 hgrow9 hNx)
          go_meet
          case rel => exact Lib.hid ⟨A2, c2, ms ++ [⟨some ⟨wr.heap.size, 0, none⟩, 2, [x, y]⟩], by rw [HT.out]; simp, by rw [show (ms ++ [(⟨some ⟨wr.heap.size, 0, none⟩, 2, [x, y]⟩ : Row)]).length = ms.length + 1 by simp]; exact K9.out.1, K9.out.2.1, K9.out.2.2⟩
        · have HT := Lib.hid (show moreL (rs.map Row.xs) x y = ms.map Row.xs by unfold moreL; rw [HI2.out]; rfl)
          go_wp2_with fail
          go_meet
          case rel => exact Lib.hid ⟨A1, c1, ms, HT.out.symm, o7, hO, hbN⟩
      clear o7 hO hbN o3w f31 f71 hl7 hms HI HI2
      obtain ⟨z0, rfl⟩ : ∃ w', w' = wc := ⟨_, rfl⟩
      obtain ⟨A1, c1, ms, hmx, o7, hO, hbN⟩ := hcut.out
      have HMX := Lib.hid hmx
      have HMO := Lib.hid (more_ok (X := rs.map Row.xs) (by simpa using hrl) HCS.out)
      have hl7 := obj_lt o7
      have hmsl : ms.length ≤ 2 := by
        have h1 := moreL_len (X := rs.map Row.xs) (by simpa using hrl) x y
        rw [← hmx, List.length_map] at h1
        exact h1
      have hms2 : ∀ r ∈ ms, r.xs.length = 2 := rows_two (xs := p) (by rw [hmx]; exact HMO.out.2.1)
      have o3 := obj_below o3 hbN h37
      have im := im.next (w' := z0) (by rw [← H7.out]; exact hbN)
      have i7 : InM z0 P pk p A1 c1 ms := ⟨im.fst, hO.inL (Nat.le_of_lt hl7) (by rw [sizeR_2s hms2]; omega)⟩
      have HB := HB.trans (hbN.mono (by have := HB.size; rw [H7.out]; exact this))
      clear hcut hmx hO hbN hms2
      have HC := Lib.hid (permsOf_spec (4 : Int) z0)
      go_wp2_with fail
      (with_reducible refine HC.out.mono ?_)
      rintro e z1 ⟨PA, pc, qs, rfl, hX, hQ, hbC⟩
      have HX : Hid (qs.map Row.xs = permsL 4) := Lib.hid (by rw [hX, permsG, if_pos (by omega)]; rfl)
      have hqsl : qs.length ≤ 120 := by
        have h1 := congrArg List.length HX.out
        rw [List.length_map] at h1
        rw [h1]
        exact permsL_120 (by omega)
      have o3 := obj_below o3 hbC (obj_lt o3)
      have o7 := obj_below o7 hbC hl7
      have hl7 := obj_lt o7
      have im := im.next hbC
      have i7 := i7.next hbC
      have HB := HB.trans (hbC.mono HB.size)
      clear hX hbC HC
      go_wp2_with fail
      go_loopw [12] (fun i wr => ∃ j : Nat, j ≤ qs.length ∧ i = .int .i64 j ∧ Below z1.heap.size z1 wr) (fun i _ => qs.length - (intOf i).toNat)
      case atStart => exact ⟨0, Nat.zero_le _, rfl, Below.refl _ _⟩
      case round =>
        obtain ⟨j, hj, rfl, hb⟩ := hrel
        have hsz := hb.size
        have o3 := obj_below o3 hb (obj_lt o3)
        have o7 := obj_below o7 hb hl7
        have im := im.next hb
        have i7 := i7.next hb
        rcases Nat.lt_or_ge j qs.length with hlt | hge
        · have hQ2 := hQ.below hb
          have hjl : (j : Int) < (qs.length : Int) := by omega
          have hj0 : (0 : Int) ≤ (j : Int) := Int.natCast_nonneg _
          obtain ⟨pb, cap, hv, hpb, hlp⟩ := hQ2.out.form (by simp; omega)
          have hv : PA = some ⟨pb, 0, none⟩ := by injection hv
          subst hv
          have hcell := hQ2.read.cellAt j hlt
          have hrow := own_row hQ2 (r := qs[j]) (List.getElem_mem hlt) hsz
          have hmem : qs[j].xs ∈ permsL 4 := by rw [← HX.out]; exact List.mem_map.2 ⟨qs[j], List.getElem_mem hlt, rfl⟩
          generalize qs[j] = r1 at hcell hrow hmem
          obtain ⟨rA, rc, rx⟩ := r1
          simp only [Nat.zero_add] at hcell hrow hmem
          have hx8 : rx.length ≤ 5 := by have := (permsI_mem hmem).1; omega
          have hin : In wr rA rc rx := ⟨by omega, hrow.1, hrow.2⟩
          obtain ⟨Q1, hQ1⟩ : ∃ Q, cmG rx p (rs.map Row.xs) = Q := ⟨_, rfl⟩
          obtain ⟨Q2, hQ2e⟩ : ∃ Q, cmG rx p (ms.map Row.xs) = Q := ⟨_, rfl⟩
          have HQQ : (0 < Q1 ↔ 0 < Q2) := by
            have h1 := HMO.out.2.2 rx hmem
            rw [← HMX.out, hQ1, hQ2e] at h1
            exact h1
          have HQ1 := Lib.hid hQ1
          have HQ2 := Lib.hid hQ2e
          have hpl : pb < wr.drew.heap.size := hlp
          have h3l : b3 < wr.drew.heap.size := obj_lt o3
          have h7l : b7 < wr.drew.heap.size := obj_lt o7
          have hS0 : wr.drew.cell? ⟨pb, j, none⟩ = some (Value.slice rA rx.length rc) ∧ wr.drew.cell? ⟨b3, 0, none⟩ = some (Value.slice P p.length pk) ∧ wr.drew.cell? ⟨b3, 1, none⟩ = some (Value.slice S rs.length sk) ∧ wr.drew.cell? ⟨b7, 0, none⟩ = some (Value.slice P p.length pk) ∧ wr.drew.cell? ⟨b7, 1, none⟩ = some (Value.slice A1 ms.length c1) := ⟨hcell, (obj_cell o3).trans rfl, (obj_cell o3).trans rfl, (obj_cell o7).trans rfl, (obj_cell o7).trans rfl⟩
          have HIN := Lib.hid (hin.dr (Dr.refl wr).drew)
          have HIM := Lib.hid (im.next (w' := wr.drew) (below_dr (Below.refl _ _) (Dr.refl wr).drew))
          have HI7 := Lib.hid (i7.next (w' := wr.drew) (below_dr (Below.refl _ _) (Dr.refl wr).drew))
          have hbd := below_dr hb (Dr.refl wr).drew
          clear hQ hQ2 hQ1 hQ2e hrow hmem hcell hin o3 o7 im i7
          rcases Int.lt_or_le 0 Q1 with hq1 | hq1
          · have hq2 := HQQ.1 hq1
            clear HQQ
            go_wp2_with fail
            refine wp_region_held_drew (S := (fun v => v.cell? ⟨pb, j, none⟩ = some (Value.slice rA rx.length rc) ∧ v.cell? ⟨b3, 0, none⟩ = some (Value.slice P p.length pk) ∧ v.cell? ⟨b3, 1, none⟩ = some (Value.slice S rs.length sk) ∧ v.cell? ⟨b7, 0, none⟩ = some (Value.slice P p.length pk) ∧ v.cell? ⟨b7, 1, none⟩ = some (Value.slice A1 ms.length c1))) (by kernel_rfl) hS0 (fun hHeld => ?_)
            refine wpAnyH_take (i := 0) (oi := _) (v := ?_) rfl (by kernel_rfl) (by kernel_rfl) (by kernel_rfl) (fun _ _ _ h => h) (Or.inl ⟨by rfl, ?_⟩) (by assumption) ?_
            rotate_left
            · intro w hSw
              try dsimp only at hSw
              go_simp
              all_goals with_reducible rfl
            try simp only [Act.put, List.setIfInBounds_toArray, List.set_cons_zero, List.set_cons_succ, List.getElem_toArray, List.getElem_cons_succ, List.getElem_cons_zero]
            refine wpAnyH_take (i := 1) (oi := _) (v := ?_) rfl (by kernel_rfl) (by kernel_rfl) (by kernel_rfl) (fun _ _ _ h => h) (Or.inl ⟨by rfl, ?_⟩) (by assumption) ?_
            rotate_left
            · intro w hSw
              try dsimp only at hSw
              go_simp
              all_goals with_reducible rfl
            try simp only [Act.put, List.setIfInBounds_toArray, List.set_cons_zero, List.set_cons_succ, List.getElem_toArray, List.getElem_cons_succ, List.getElem_cons_zero]
            refine wpAnyH_take (i := 2) (oi := _) (v := ?_) rfl (by kernel_rfl) (by kernel_rfl) (by kernel_rfl) (fun _ _ _ h => h) (Or.inl ⟨by rfl, ?_⟩) (by assumption) ?_
            rotate_left
            · intro w hSw
              try dsimp only at hSw
              go_simp
              all_goals with_reducible rfl
            try simp only [Act.put, List.setIfInBounds_toArray, List.set_cons_zero, List.set_cons_succ, List.getElem_toArray, List.getElem_cons_succ, List.getElem_cons_zero]
            refine wpAnyH_take (i := 3) (oi := _) (v := ?_) rfl (by kernel_rfl) (by kernel_rfl) (by kernel_rfl) (fun _ _ _ h => h) (Or.inl ⟨by rfl, ?_⟩) (by assumption) ?_
            rotate_left
            · intro w hSw
              try dsimp only at hSw
              go_simp
              all_goals with_reducible rfl
            try simp only [Act.put, List.setIfInBounds_toArray, List.set_cons_zero, List.set_cons_succ, List.getElem_toArray, List.getElem_cons_succ, List.getElem_cons_zero]
            refine wpAnyH_take (i := 4) (oi := _) (v := ?_) rfl (by kernel_rfl) (by kernel_rfl) (by kernel_rfl) (fun _ _ _ h => h) (Or.inl ⟨by rfl, ?_⟩) (by assumption) ?_
            rotate_left
            · intro w hSw
              try dsimp only at hSw
              go_simp
              all_goals with_reducible rfl
            try simp only [Act.put, List.setIfInBounds_toArray, List.set_cons_zero, List.set_cons_succ, List.getElem_toArray, List.getElem_cons_succ, List.getElem_cons_zero]
            refine wpAnyH_take (i := 7) (oi := _) (v := ?_) rfl (by kernel_rfl) (by kernel_rfl) (by kernel_rfl) (fun _ _ _ h => h) (Or.inl ⟨by rfl, ?_⟩) (by assumption) ?_
            rotate_left
            · intro w hSw
              try dsimp only at hSw
              go_simp
              all_goals with_reducible rfl
            try simp only [Act.put, List.setIfInBounds_toArray, List.set_cons_zero, List.set_cons_succ, List.getElem_toArray, List.getElem_cons_succ, List.getElem_cons_zero]
            refine wpAnyH_take (i := 8) (oi := _) (v := ?_) rfl (by kernel_rfl) (by kernel_rfl) (by kernel_rfl) (fun _ _ _ h => h) (Or.inl ⟨by rfl, ?_⟩) (by assumption) ?_
            rotate_left
            · intro w hSw
              try dsimp only at hSw
              go_simp
              all_goals with_reducible rfl
            try simp only [Act.put, List.setIfInBounds_toArray, List.set_cons_zero, List.set_cons_succ, List.getElem_toArray, List.getElem_cons_succ, List.getElem_cons_zero]
            refine wpAnyH_take (i := 9) (oi := _) (v := ?_) rfl (by kernel_rfl) (by kernel_rfl) (by kernel_rfl) (fun _ _ _ h => h) (Or.inl ⟨by rfl, ?_⟩) (by assumption) ?_
            rotate_left
            · intro w hSw
              try dsimp only at hSw
              go_simp
              all_goals with_reducible rfl
            try simp only [Act.put, List.setIfInBounds_toArray, List.set_cons_zero, List.set_cons_succ, List.getElem_toArray, List.getElem_cons_succ, List.getElem_cons_zero]
            refine wpAnyH_take (i := 10) (oi := _) (v := ?_) rfl (by kernel_rfl) (by kernel_rfl) (by kernel_rfl) (fun _ _ _ h => h) (Or.inl ⟨by rfl, ?_⟩) (by assumption) ?_
            rotate_left
            · intro w hSw
              try dsimp only at hSw
              go_simp
              all_goals with_reducible rfl
            try simp only [Act.put, List.setIfInBounds_toArray, List.set_cons_zero, List.set_cons_succ, List.getElem_toArray, List.getElem_cons_succ, List.getElem_cons_zero]
            refine wpAnyH_take (i := 11) (oi := _) (v := ?_) rfl (by kernel_rfl) (by kernel_rfl) (by kernel_rfl) (fun _ _ _ h => h) (Or.inl ⟨by rfl, ?_⟩) (by assumption) ?_
            rotate_left
            · intro w hSw
              try dsimp only at hSw
              go_simp
              all_goals with_reducible rfl
            try simp only [Act.put, List.setIfInBounds_toArray, List.set_cons_zero, List.set_cons_succ, List.getElem_toArray, List.getElem_cons_succ, List.getElem_cons_zero]
            refine wpAnyH_ready (rs := [5]) (by kernel_rfl) (by simp) ?_
            refine AllReadyH.cons (o := _) rfl (fun K hK => ?_) AllReadyH.nil
            go_simp
            refine Calls.mono (countMesh_sq rA rc rx P S pk sk p rs _ HIN.out HIM.out HQ1.out) ?_
            rintro e w8 ⟨rfl, hb8⟩
            have hS8 : w8.cell? ⟨pb, j, none⟩ = some (Value.slice rA rx.length rc) ∧ w8.cell? ⟨b3, 0, none⟩ = some (Value.slice P p.length pk) ∧ w8.cell? ⟨b3, 1, none⟩ = some (Value.slice S rs.length sk) ∧ w8.cell? ⟨b7, 0, none⟩ = some (Value.slice P p.length pk) ∧ w8.cell? ⟨b7, 1, none⟩ = some (Value.slice A1 ms.length c1) := ⟨(hb8.cell hpl).trans hS0.1, (hb8.cell h3l).trans hS0.2.1, (hb8.cell h3l).trans hS0.2.2.1, (hb8.cell h7l).trans hS0.2.2.2.1, (hb8.cell h7l).trans hS0.2.2.2.2⟩
            have HI78 := Lib.hid (HI7.out.next hb8)
            have HIN8 := Lib.hid (HIN.out.next hb8)
            have hpl := Nat.lt_of_lt_of_le hpl hb8.size
            have h3l := Nat.lt_of_lt_of_le h3l hb8.size
            have h7l := Nat.lt_of_lt_of_le h7l hb8.size
            go_wp2_with fail
            refine hK.out _ _ (hS8) (fun hHeld => ?_)
            clear hK K
            try simp only [Act.put, List.setIfInBounds_toArray, List.set_cons_zero, List.set_cons_succ, List.getElem_toArray, List.getElem_cons_succ, List.getElem_cons_zero]
            refine wpAnyH_take (i := 6) (oi := _) (v := ?_) rfl (by kernel_rfl) (by kernel_rfl) (by kernel_rfl) (fun _ _ _ h => h) (Or.inl ⟨by rfl, ?_⟩) (by assumption) ?_
            rotate_left
            · intro w hSw
              try dsimp only at hSw
              go_simp
              all_goals with_reducible rfl
            try simp only [Act.put, List.setIfInBounds_toArray, List.set_cons_zero, List.set_cons_succ, List.getElem_toArray, List.getElem_cons_succ, List.getElem_cons_zero]
            refine wpAnyH_ready (rs := [12]) (by kernel_rfl) (by simp) ?_
            refine AllReadyH.cons (o := _) rfl (fun K hK => ?_) AllReadyH.nil
            go_simp
            refine Calls.mono (countMesh_sq rA rc rx P A1 pk c1 p ms _ HIN8.out HI78.out HQ2.out) ?_
            rintro e w9 ⟨rfl, hb9⟩
            have hS9 : w9.cell? ⟨pb, j, none⟩ = some (Value.slice rA rx.length rc) ∧ w9.cell? ⟨b3, 0, none⟩ = some (Value.slice P p.length pk) ∧ w9.cell? ⟨b3, 1, none⟩ = some (Value.slice S rs.length sk) ∧ w9.cell? ⟨b7, 0, none⟩ = some (Value.slice P p.length pk) ∧ w9.cell? ⟨b7, 1, none⟩ = some (Value.slice A1 ms.length c1) := ⟨(hb9.cell hpl).trans hS8.1, (hb9.cell h3l).trans hS8.2.1, (hb9.cell h3l).trans hS8.2.2.1, (hb9.cell h7l).trans hS8.2.2.2.1, (hb9.cell h7l).trans hS8.2.2.2.2⟩
            go_wp2_with fail
            refine hK.out _ _ (hS9) (fun hHeld => ?_)
            clear hK K
            try simp only [Act.put, List.setIfInBounds_toArray, List.set_cons_zero, List.set_cons_succ, List.getElem_toArray, List.getElem_cons_succ, List.getElem_cons_zero]
            refine wpAnyH_take (i := 13) (oi := _) (v := ?_) rfl (by kernel_rfl) (by kernel_rfl) (by kernel_rfl) (fun _ _ _ h => h) (Or.inl ⟨by rfl, ?_⟩) (by assumption) ?_
            rotate_left
            · intro w hSw
              try dsimp only at hSw
              go_simp
              all_goals with_reducible rfl
            try simp only [Act.put, List.setIfInBounds_toArray, List.set_cons_zero, List.set_cons_succ, List.getElem_toArray, List.getElem_cons_succ, List.getElem_cons_zero]
            refine wpAnyH_take (i := 14) (oi := _) (v := ?_) rfl (by kernel_rfl) (by kernel_rfl) (by kernel_rfl) (fun _ _ _ h => h) (Or.inl ⟨by rfl, ?_⟩) (by assumption) ?_
            rotate_left
            · intro w hSw
              try dsimp only at hSw
              go_simp
              all_goals with_reducible rfl
            try simp only [Act.put, List.setIfInBounds_toArray, List.set_cons_zero, List.set_cons_succ, List.getElem_toArray, List.getElem_cons_succ, List.getElem_cons_zero]
            refine wpAnyH_done (by kernel_rfl) ?_ _
            have hbn := (hbd.trans (hb8.mono hbd.size)).trans (hb9.mono (Nat.le_trans hbd.size hb8.size))
            clear hS0 hS8 hS9 HIN HIN8 HIM HI7 HI78
            go_wp2_with fail
            go_roundw
            case rel => exact ⟨j + 1, by omega, by go_num, hbn⟩
            case measure => simp [intOf]; omega
          · have hq2 : ¬ (0 < Q2) := fun h => by have := HQQ.2 h; omega
            have hq1 : ¬ (0 < Q1) := by omega
            have hd1 : decide (0 < Q1) = false := decide_eq_false hq1
            have hd2 : decide (0 < Q2) = false := decide_eq_false hq2
            clear HQQ
            go_wp2_with fail
            refine wp_region_held_drew (S := (fun v => v.cell? ⟨pb, j, none⟩ = some (Value.slice rA rx.length rc) ∧ v.cell? ⟨b3, 0, none⟩ = some (Value.slice P p.length pk) ∧ v.cell? ⟨b3, 1, none⟩ = some (Value.slice S rs.length sk) ∧ v.cell? ⟨b7, 0, none⟩ = some (Value.slice P p.length pk) ∧ v.cell? ⟨b7, 1, none⟩ = some (Value.slice A1 ms.length c1))) (by kernel_rfl) hS0 (fun hHeld => ?_)
            refine wpAnyH_take (i := 0) (oi := _) (v := ?_) rfl (by kernel_rfl) (by kernel_rfl) (by kernel_rfl) (fun _ _ _ h => h) (Or.inl ⟨by rfl, ?_⟩) (by assumption) ?_
            rotate_left
            · intro w hSw
              try dsimp only at hSw
              go_simp
              all_goals with_reducible rfl
            try simp only [Act.put, List.setIfInBounds_toArray, List.set_cons_zero, List.set_cons_succ, List.getElem_toArray, List.getElem_cons_succ, List.getElem_cons_zero]
            refine wpAnyH_take (i := 1) (oi := _) (v := ?_) rfl (by kernel_rfl) (by kernel_rfl) (by kernel_rfl) (fun _ _ _ h => h) (Or.inl ⟨by rfl, ?_⟩) (by assumption) ?_
            rotate_left
            · intro w hSw
              try dsimp only at hSw
              go_simp
              all_goals with_reducible rfl
            try simp only [Act.put, List.setIfInBounds_toArray, List.set_cons_zero, List.set_cons_succ, List.getElem_toArray, List.getElem_cons_succ, List.getElem_cons_zero]
            refine wpAnyH_take (i := 2) (oi := _) (v := ?_) rfl (by kernel_rfl) (by kernel_rfl) (by kernel_rfl) (fun _ _ _ h => h) (Or.inl ⟨by rfl, ?_⟩) (by assumption) ?_
            rotate_left
            · intro w hSw
              try dsimp only at hSw
              go_simp
              all_goals with_reducible rfl
            try simp only [Act.put, List.setIfInBounds_toArray, List.set_cons_zero, List.set_cons_succ, List.getElem_toArray, List.getElem_cons_succ, List.getElem_cons_zero]
            refine wpAnyH_take (i := 3) (oi := _) (v := ?_) rfl (by kernel_rfl) (by kernel_rfl) (by kernel_rfl) (fun _ _ _ h => h) (Or.inl ⟨by rfl, ?_⟩) (by assumption) ?_
            rotate_left
            · intro w hSw
              try dsimp only at hSw
              go_simp
              all_goals with_reducible rfl
            try simp only [Act.put, List.setIfInBounds_toArray, List.set_cons_zero, List.set_cons_succ, List.getElem_toArray, List.getElem_cons_succ, List.getElem_cons_zero]
            refine wpAnyH_take (i := 4) (oi := _) (v := ?_) rfl (by kernel_rfl) (by kernel_rfl) (by kernel_rfl) (fun _ _ _ h => h) (Or.inl ⟨by rfl, ?_⟩) (by assumption) ?_
            rotate_left
            · intro w hSw
              try dsimp only at hSw
              go_simp
              all_goals with_reducible rfl
            try simp only [Act.put, List.setIfInBounds_toArray, List.set_cons_zero, List.set_cons_succ, List.getElem_toArray, List.getElem_cons_succ, List.getElem_cons_zero]
            refine wpAnyH_take (i := 7) (oi := _) (v := ?_) rfl (by kernel_rfl) (by kernel_rfl) (by kernel_rfl) (fun _ _ _ h => h) (Or.inl ⟨by rfl, ?_⟩) (by assumption) ?_
            rotate_left
            · intro w hSw
              try dsimp only at hSw
              go_simp
              all_goals with_reducible rfl
            try simp only [Act.put, List.setIfInBounds_toArray, List.set_cons_zero, List.set_cons_succ, List.getElem_toArray, List.getElem_cons_succ, List.getElem_cons_zero]
            refine wpAnyH_take (i := 8) (oi := _) (v := ?_) rfl (by kernel_rfl) (by kernel_rfl) (by kernel_rfl) (fun _ _ _ h => h) (Or.inl ⟨by rfl, ?_⟩) (by assumption) ?_
            rotate_left
            · intro w hSw
              try dsimp only at hSw
              go_simp
              all_goals with_reducible rfl
            try simp only [Act.put, List.setIfInBounds_toArray, List.set_cons_zero, List.set_cons_succ, List.getElem_toArray, List.getElem_cons_succ, List.getElem_cons_zero]
            refine wpAnyH_take (i := 9) (oi := _) (v := ?_) rfl (by kernel_rfl) (by kernel_rfl) (by kernel_rfl) (fun _ _ _ h => h) (Or.inl ⟨by rfl, ?_⟩) (by assumption) ?_
            rotate_left
            · intro w hSw
              try dsimp only at hSw
              go_simp
              all_goals with_reducible rfl
            try simp only [Act.put, List.setIfInBounds_toArray, List.set_cons_zero, List.set_cons_succ, List.getElem_toArray, List.getElem_cons_succ, List.getElem_cons_zero]
            refine wpAnyH_take (i := 10) (oi := _) (v := ?_) rfl (by kernel_rfl) (by kernel_rfl) (by kernel_rfl) (fun _ _ _ h => h) (Or.inl ⟨by rfl, ?_⟩) (by assumption) ?_
            rotate_left
            · intro w hSw
              try dsimp only at hSw
              go_simp
              all_goals with_reducible rfl
            try simp only [Act.put, List.setIfInBounds_toArray, List.set_cons_zero, List.set_cons_succ, List.getElem_toArray, List.getElem_cons_succ, List.getElem_cons_zero]
            refine wpAnyH_take (i := 11) (oi := _) (v := ?_) rfl (by kernel_rfl) (by kernel_rfl) (by kernel_rfl) (fun _ _ _ h => h) (Or.inl ⟨by rfl, ?_⟩) (by assumption) ?_
            rotate_left
            · intro w hSw
              try dsimp only at hSw
              go_simp
              all_goals with_reducible rfl
            try simp only [Act.put, List.setIfInBounds_toArray, List.set_cons_zero, List.set_cons_succ, List.getElem_toArray, List.getElem_cons_succ, List.getElem_cons_zero]
            refine wpAnyH_ready (rs := [5]) (by kernel_rfl) (by simp) ?_
            refine AllReadyH.cons (o := _) rfl (fun K hK => ?_) AllReadyH.nil
            go_simp
            refine Calls.mono (countMesh_sq rA rc rx P S pk sk p rs _ HIN.out HIM.out HQ1.out) ?_
            rintro e w8 ⟨rfl, hb8⟩
            have hS8 : w8.cell? ⟨pb, j, none⟩ = some (Value.slice rA rx.length rc) ∧ w8.cell? ⟨b3, 0, none⟩ = some (Value.slice P p.length pk) ∧ w8.cell? ⟨b3, 1, none⟩ = some (Value.slice S rs.length sk) ∧ w8.cell? ⟨b7, 0, none⟩ = some (Value.slice P p.length pk) ∧ w8.cell? ⟨b7, 1, none⟩ = some (Value.slice A1 ms.length c1) := ⟨(hb8.cell hpl).trans hS0.1, (hb8.cell h3l).trans hS0.2.1, (hb8.cell h3l).trans hS0.2.2.1, (hb8.cell h7l).trans hS0.2.2.2.1, (hb8.cell h7l).trans hS0.2.2.2.2⟩
            have HI78 := Lib.hid (HI7.out.next hb8)
            have HIN8 := Lib.hid (HIN.out.next hb8)
            have hpl := Nat.lt_of_lt_of_le hpl hb8.size
            have h3l := Nat.lt_of_lt_of_le h3l hb8.size
            have h7l := Nat.lt_of_lt_of_le h7l hb8.size
            go_wp2_with fail
            refine hK.out _ _ (hS8) (fun hHeld => ?_)
            clear hK K
            try simp only [Act.put, List.setIfInBounds_toArray, List.set_cons_zero, List.set_cons_succ, List.getElem_toArray, List.getElem_cons_succ, List.getElem_cons_zero]
            refine wpAnyH_take (i := 6) (oi := _) (v := ?_) rfl (by kernel_rfl) (by kernel_rfl) (by kernel_rfl) (fun _ _ _ h => h) (Or.inl ⟨by rfl, ?_⟩) (by assumption) ?_
            rotate_left
            · intro w hSw
              try dsimp only at hSw
              go_simp
              all_goals with_reducible rfl
            try simp only [Act.put, List.setIfInBounds_toArray, List.set_cons_zero, List.set_cons_succ, List.getElem_toArray, List.getElem_cons_succ, List.getElem_cons_zero]
            refine wpAnyH_ready (rs := [12]) (by kernel_rfl) (by simp) ?_
            refine AllReadyH.cons (o := _) rfl (fun K hK => ?_) AllReadyH.nil
            go_simp
            refine Calls.mono (countMesh_sq rA rc rx P A1 pk c1 p ms _ HIN8.out HI78.out HQ2.out) ?_
            rintro e w9 ⟨rfl, hb9⟩
            have hS9 : w9.cell? ⟨pb, j, none⟩ = some (Value.slice rA rx.length rc) ∧ w9.cell? ⟨b3, 0, none⟩ = some (Value.slice P p.length pk) ∧ w9.cell? ⟨b3, 1, none⟩ = some (Value.slice S rs.length sk) ∧ w9.cell? ⟨b7, 0, none⟩ = some (Value.slice P p.length pk) ∧ w9.cell? ⟨b7, 1, none⟩ = some (Value.slice A1 ms.length c1) := ⟨(hb9.cell hpl).trans hS8.1, (hb9.cell h3l).trans hS8.2.1, (hb9.cell h3l).trans hS8.2.2.1, (hb9.cell h7l).trans hS8.2.2.2.1, (hb9.cell h7l).trans hS8.2.2.2.2⟩
            go_wp2_with fail
            refine hK.out _ _ (hS9) (fun hHeld => ?_)
            clear hK K
            try simp only [Act.put, List.setIfInBounds_toArray, List.set_cons_zero, List.set_cons_succ, List.getElem_toArray, List.getElem_cons_succ, List.getElem_cons_zero]
            refine wpAnyH_take (i := 13) (oi := _) (v := ?_) rfl (by kernel_rfl) (by kernel_rfl) (by kernel_rfl) (fun _ _ _ h => h) (Or.inl ⟨by rfl, ?_⟩) (by assumption) ?_
            rotate_left
            · intro w hSw
              try dsimp only at hSw
              go_simp
              all_goals with_reducible rfl
            try simp only [Act.put, List.setIfInBounds_toArray, List.set_cons_zero, List.set_cons_succ, List.getElem_toArray, List.getElem_cons_succ, List.getElem_cons_zero]
            refine wpAnyH_take (i := 14) (oi := _) (v := ?_) rfl (by kernel_rfl) (by kernel_rfl) (by kernel_rfl) (fun _ _ _ h => h) (Or.inl ⟨by rfl, ?_⟩) (by assumption) ?_
            rotate_left
            · intro w hSw
              try dsimp only at hSw
              go_simp
              all_goals with_reducible rfl
            try simp only [Act.put, List.setIfInBounds_toArray, List.set_cons_zero, List.set_cons_succ, List.getElem_toArray, List.getElem_cons_succ, List.getElem_cons_zero]
            refine wpAnyH_done (by kernel_rfl) ?_ _
            have hbn := (hbd.trans (hb8.mono hbd.size)).trans (hb9.mono (Nat.le_trans hbd.size hb8.size))
            clear hS0 hS8 hS9 HIN HIN8 HIM HI7 HI78
            go_wp2_with fail
            go_roundw
            case rel => exact ⟨j + 1, by omega, by go_num, hbn⟩
            case measure => simp [intOf]; omega
        · obtain rfl : j = qs.length := by omega
          have f70 : wr.cell? ⟨b7, 0, none⟩ = some (Value.slice P p.length pk) := (obj_cell o7).trans rfl
          have f71 : wr.cell? ⟨b7, 1, none⟩ = some (Value.slice A1 ms.length c1) := (obj_cell o7).trans rfl
          have HC := Lib.hid (mesh_sb P A1 pk c1 p ms wr true i7 (by rw [HMX.out]; exact HMO.out.2.1))
          have HB := HB.trans (hb.mono HB.size)
          go_wp2_with fail
          (with_reducible refine HC.out.mono ?_)
          rintro e wz ⟨rfl, hbz⟩
          go_wp2_with fail
          go_ret
          exact ⟨rfl, HB.trans (hbz.mono HB.size)⟩

end Go.Proofs.Ythipikllgpnlhaa

/- What the arguments of a law read as: from the form's own reading to the words of Base. -/
namespace Go.Proofs.Ythipikllgpnlhaa
set_option maxRecDepth 100000
open Go Go.RowKit Go.ChangeShapes Go.WideShapes Go.ChangeAt

theorem ownK : ownKnob Try.prog.godebug = none := by kernel_rfl
theorem wf_i64_bounds {n : Int} (h : (Lit.int .i64 n).wf = true) : -9223372036854775808 ≤ n ∧ n ≤ 9223372036854775807 := by
  have hmin : IntKind.i64.min = -9223372036854775808 := rfl
  have hmax : IntKind.i64.max = 9223372036854775807 := rfl
  simp only [Lit.wf, Bool.and_eq_true, decide_eq_true_eq] at h
  omega
theorem cells_int : Try.prog.cellsOf 3 = 1 := by kernel_rfl
theorem cells_ints : Try.prog.cellsOf 24 = 1 := by kernel_rfl
theorem cells_u8 : Try.prog.cellsOf 5 = 1 := by kernel_rfl
theorem laidOutK : laidOutB Try.prog = true := by kernel_rfl

section
variable {H : Type} {enc : TypeId × Value → H} {P : Program} {W : World} {base : Nat}

/-- A slice of whole numbers that came in, nil or not, reads as a list. -/
theorem open_intsR {t e : TypeId} {k : IntKind} {v : Value} {d : DataW H} {ps : List MemPlace} (ht : P.underlying t = some (.slice e)) (he : P.underlying e = some (.int k)) (ce : P.cellsOf e = 1)
    (hv : Value.okWide P W .any base t v) (h : DataW.Trod enc P W 0 (fun _ => true) true t v d ps) :
    ∃ (A : Option Addr) (xs : List Int) (c : Nat), v = .slice A xs.length c ∧ xs.length ≤ c ∧ c ≤ maxLen ∧ Rd (Value.int k) W W.heap.size A xs ∧ ∀ n ∈ xs, (Lit.int k n).wf = true := by
  obtain ⟨a0, len, cap, rfl⟩ := okWide_slice ht hv
  obtain ⟨fuel, hf⟩ := h
  rcases open_ints ht he ce hf with ⟨hcs, hx⟩ | ⟨a, len', cap', zs, hcs, _, hl, hm, hz, hx, hcell, hwz⟩
  · simp [Value.cells] at hcs
    obtain ⟨rfl, rfl, rfl⟩ := hcs
    exact ⟨none, [], 0, rfl, Nat.le_refl _, Nat.zero_le _, Rd.nil_, by simp⟩
  · simp [Value.cells] at hcs
    obtain ⟨rfl, rfl, rfl⟩ := hcs
    simp only [if_true] at hz
    have hlen : (zs.take len).length = len := by rw [List.length_take]; omega
    refine ⟨some a, zs.take len, cap, by rw [hlen], by omega, hm, fun h0 => ?_, fun n hn => hwz n (List.mem_of_mem_take hn)⟩
    rw [hlen] at h0
    obtain ⟨b, off, spot⟩ := a
    have hc0 := hcell 0 (by omega)
    have hspot : spot = none := by simpa [Addr.add] using World.cell?_spot hc0
    subst hspot
    refine ⟨b, off, rfl, ?_, fun j hj => ?_⟩
    · have := block_lt_of_cell hc0
      simpa [Addr.add] using this
    · have := hcell j (by omega)
      rw [add_plain] at this
      rw [this]
      simp [List.getD, show j < zs.length by omega]
end
end Go.Proofs.Ythipikllgpnlhaa
