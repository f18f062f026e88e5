/- Several texts in one, each with its own head: CS2, C4. No program of ours. -/
import Derived.Test.YthipikllgpnlhaaMShades9
/- CanShade of the reference. -/
namespace Go.Proofs.Ythipikllgpnlhaa
set_option maxRecDepth 100000
open Go Go.RowKit

theorem Own.allocS {w : World} {lo : Nat} {rs : List Row} {os : List Outer} (h : Own w lo w.heap.size rs os) (o : Obj) : Own (w.alloc o) lo (w.alloc o).heap.size rs os :=
  (h.below ((Below.refl _ _).alloc (Nat.le_refl _) o)).wider (Nat.le_refl _) (by simp)
theorem in_lit {w : World} {bl : Nat} {x y : Int} (h : w.heap[bl]? = some (.cells #[.int .i64 x, .int .i64 y] 3 (0, 0))) : In w (some ⟨bl, 0, none⟩) 2 [x, y] :=
  ⟨by simp, Nat.le_refl _, fun _ => ⟨bl, 0, rfl, obj_lt h, fun j hj => by
    rw [Nat.zero_add, obj_cell h]
    match j, hj with
    | 0, _ => rfl
    | 1, _ => rfl⟩⟩
theorem l3Put_x (A B : Option Addr) (c d lo : Nat) (rs : List Row) (p : List Int) (w : World) (hO : Own w lo w.heap.size rs [⟨A, c, rs.map Row.v⟩]) (hlo : lo ≤ w.heap.size) (hp : In w B d p)
    (hn : rs.length ≤ 1048576) (hr8 : ∀ r ∈ rs, r.xs.length ≤ 1048576) :
    Calls Try.prog 84 #[.slice A rs.length c, .slice B p.length d] w (fun e w' => Own w lo w.heap.size rs [⟨A, c, rs.map Row.v⟩] ∧ RetP w lo A (putL (rs.map Row.xs) p) e w') :=
  (l3Put_any A B c d lo rs p w hO hlo hp hn hr8).mono fun _ _ h => ⟨hO, h⟩
theorem own_hk {w wx : World} {base e n : Nat} {v : Value} {vs : List Value} (h : w.ownsRow base e 1 v n vs) (hk : ∀ (q : Nat) (cs : Array Value), w.heap[q]? = some (.cells cs e (0, 0)) → wx.heap[q]? = some (.cells cs e (0, 0))) : wx.ownsRow base e 1 v n vs := by
  refine ⟨h.1, ?_⟩
  rcases h.2 with h2 | ⟨g, cap, cur, hv, hg, hh, r⟩
  · exact .inl h2
  · exact .inr ⟨g, cap, cur, hv, hg, hk _ _ hh, r⟩
theorem Own.hk {w wx : World} {lo hi : Nat} {rs : List Row} {os : List Outer} (h : Own w lo hi rs os) (hk : ∀ (q : Nat) (cs : Array Value) (t : TypeId), t ≠ 27 → w.heap[q]? = some (.cells cs t (0, 0)) → wx.heap[q]? = some (.cells cs t (0, 0))) : Own wx lo hi rs os :=
  ⟨fun r hr => own_hk (h.rows r hr) (fun q cs hq => hk q cs _ (by decide) hq), h.lt, h.apart, fun o ho => own_hk (h.outs o ho) (fun q cs hq => hk q cs _ (by decide) hq), h.olt⟩
def MoreP (w : World) (A B : Option Addr) (c k : Nat) (xs : List Int) (rs : List Row) (x y : Int) (s7 : Value) (wx : World) : Prop :=
  ∃ (g : Nat) (A' : Option Addr) (c' : Nat) (ms : List Row), s7 = .pointer (some ⟨g, 0, none⟩) ∧ wx.heap[g]? = some (Obj.cells #[Value.slice A xs.length c, Value.slice A' ms.length c'] 27) ∧ ms.map Row.xs = putL (rs.map Row.xs) [x, y] ∧ Read wx wx.heap.size ms [⟨A', c', ms.map Row.v⟩] ∧ wx.heap[w.heap.size]? = some (Obj.cells #[Value.slice A xs.length c, Value.slice B rs.length k] 27) ∧ Below w.heap.size w wx
section
variable {w wc w4 : World} {A B A' : Option Addr} {c c' k lo : Nat} {xs : List Int} {rs ms : List Row} {x y : Int}
theorem leafP_alloc (hX : ms.map Row.xs = putL (rs.map Row.xs) [x, y]) (hO : Own w4 lo w4.heap.size ms [⟨A', c', ms.map Row.v⟩]) (hb4 : Below wc.heap.size wc w4) (hb : Below w.heap.size w wc) (ob : wc.heap[w.heap.size]? = some (Obj.cells #[Value.slice A xs.length c, Value.slice B rs.length k] 27)) :
    MoreP w A B c k xs rs x y (.pointer (some ⟨w4.heap.size, 0, none⟩)) (w4.alloc (Obj.cells #[Value.slice A xs.length c, Value.slice A' ms.length c'] 27)) := by
  have hbx := hb4.alloc hb4.size (Obj.cells #[Value.slice A xs.length c, Value.slice A' ms.length c'] 27)
  exact ⟨w4.heap.size, A', c', ms, rfl, obj_new _ _, hX, (hO.allocS _).read, obj_alloc (obj_below ob hb4 (obj_lt ob)) _, hb.trans (hbx.mono hb.size)⟩
theorem leafP_set {G : Nat} {z0 z1 : Value} (hz4 : w4.heap[G]? = some (.cells #[z0, z1] 27 (0, 0))) (hG : wc.heap.size ≤ G) (hX : ms.map Row.xs = putL (rs.map Row.xs) [x, y]) (hO : Own w4 lo w4.heap.size ms [⟨A', c', ms.map Row.v⟩]) (hb4 : Below wc.heap.size wc w4) (hb : Below w.heap.size w wc) (ob : wc.heap[w.heap.size]? = some (Obj.cells #[Value.slice A xs.length c, Value.slice B rs.length k] 27)) :
    MoreP w A B c k xs rs x y (.pointer (some ⟨G, 0, none⟩)) ((w4.setCell ⟨G, 0, none⟩ (Value.slice A xs.length c)).setCell ⟨G, 1, none⟩ (Value.slice A' ms.length c')) := by
  have hbx := (hb4.setCell (p := ⟨G, 0, none⟩) hG (Value.slice A xs.length c)).setCell (p := ⟨G, 1, none⟩) hG (Value.slice A' ms.length c')
  have hlt := obj_lt ob
  have hO2 : Own ((w4.setCell ⟨G, 0, none⟩ (Value.slice A xs.length c)).setCell ⟨G, 1, none⟩ (Value.slice A' ms.length c')) lo w4.heap.size ms [⟨A', c', ms.map Row.v⟩] := hO.hk fun q cs t ht h => by
    have hne : G ≠ q := fun e => by
      subst e
      rw [hz4] at h
      injection h with h
      injection h with _ h2 _
      exact ht h2.symm
    exact obj_other (obj_other h hne _) hne _
  exact ⟨G, A', c', ms, rfl, obj_set (i := 1) (obj_set (i := 0) hz4 _) _, hX, hO2.read.more (by simp [World.setCell]), obj_other (obj_other (obj_below ob hb4 hlt) (by omega) _) (by omega) _, hb.trans (hbx.mono hb.size)⟩
end
set_option maxHeartbeats 8000000 in
theorem canShade_spec (A B : Option Addr) (c k : Nat) (xs : List Int) (rs : List Row) (x : Int) (_ : -9223372036854775808 ≤ x ∧ x ≤ 9223372036854775807) (y : Int) (_ : -9223372036854775808 ≤ y ∧ y ≤ 9223372036854775807) (w : World) (h : InM w A c xs B k rs) :
    Calls Try.prog 70 #[.agg #[.slice A xs.length c, .slice B rs.length k], .int .i64 x, .int .i64 y] w (Rb w (.bool (csB xs (rs.map Row.xs) x y))) := by
  go_enter Try.func70, Try.ntmps70
  have hb0 : Below w.heap.size w (w.alloc (Obj.cells #[Value.slice A xs.length c, Value.slice B rs.length k] 27)) := (Below.refl _ _).alloc (Nat.le_refl _) _
  have ob := obj_new w (Obj.cells #[Value.slice A xs.length c, Value.slice B rs.length k] 27)
  have f00 : (w.alloc (Obj.cells #[Value.slice A xs.length c, Value.slice B rs.length k] 27)).cell? ⟨w.heap.size, 0, none⟩ = some (Value.slice A xs.length c) := (obj_cell ob).trans rfl
  have f01 : (w.alloc (Obj.cells #[Value.slice A xs.length c, Value.slice B rs.length k] 27)).cell? ⟨w.heap.size, 1, none⟩ = some (Value.slice B rs.length k) := (obj_cell ob).trans rfl
  go_upto_region 1 with fail
  generalize (w.alloc (Obj.cells #[Value.slice A xs.length c, Value.slice B rs.length k] 27)) = w0 at hb0 ob f00 f01 ⊢
  go_cut [29] (fun s wq => s = .bool (!(meshB xs (rs.map Row.xs) && inBox xs.length x y)) ∧ wq.heap[w.heap.size]? = some (Obj.cells #[Value.slice A xs.length c, Value.slice B rs.length k] 27) ∧ Below w.heap.size w wq)
  case first =>
    go_wp2_with fail
    by_cases hM : meshB xs (rs.map Row.xs) = true
    · have H1 := Lib.hid hM
      (with_reducible refine (mesh_sb A B c k xs rs w0 true (h.next hb0) hM).mono ?_)
      rintro e w1 ⟨rfl, hb1⟩
      have ob := obj_below ob hb1 (obj_lt ob)
      have hb := hb0.trans (hb1.mono hb0.size)
      have f10 : w1.cell? ⟨w.heap.size, 0, none⟩ = some (Value.slice A xs.length c) := (obj_cell ob).trans rfl
      clear hM f00 f01
      go_wp2_with fail
      by_cases hx : 0 ≤ x ∧ x ≤ xs.length
      · (with_reducible refine (l1In_b x 0 xs.length w1 true (decide_eq_true hx)).mono ?_)
        rintro e w' ⟨rfl, rfl⟩
        go_wp2_with fail
        by_cases hy : 0 ≤ y ∧ y ≤ xs.length
        · have HI := Lib.hid (show inBox xs.length x y = true by unfold inBox; exact decide_eq_true ⟨hx.1, hx.2, hy.1, hy.2⟩)
          (with_reducible refine (l1In_b y 0 xs.length w1 true (decide_eq_true hy)).mono ?_)
          rintro e w' ⟨rfl, rfl⟩
          clear hx hy
          go_wp2_with fail
          go_meet
          case rel => exact ⟨by rw [H1.out, HI.out]; rfl, ob, hb⟩
        · have HI := Lib.hid (show inBox xs.length x y = false by unfold inBox; exact decide_eq_false (fun h => hy ⟨h.2.2.1, h.2.2.2⟩))
          (with_reducible refine (l1In_b y 0 xs.length w1 false (decide_eq_false hy)).mono ?_)
          rintro e w' ⟨rfl, rfl⟩
          clear hx hy
          go_wp2_with fail
          go_meet
          case rel => exact ⟨by rw [H1.out, HI.out]; rfl, ob, hb⟩
      · have HI := Lib.hid (show inBox xs.length x y = false by unfold inBox; exact decide_eq_false (fun h => hx ⟨h.1, h.2.1⟩))
        (with_reducible refine (l1In_b x 0 xs.length w1 false (decide_eq_false hx)).mono ?_)
        rintro e w' ⟨rfl, rfl⟩
        clear hx
        go_wp2_with fail
        go_meet
        case rel => exact ⟨by rw [H1.out, HI.out]; rfl, ob, hb⟩
    · have hMf : meshB xs (rs.map Row.xs) = false := by simpa using hM
      have H1 := Lib.hid hMf
      (with_reducible refine (mesh_sb A B c k xs rs w0 false (h.next hb0) hMf).mono ?_)
      rintro e w1 ⟨rfl, hb1⟩
      have ob := obj_below ob hb1 (obj_lt ob)
      clear hM hMf f00 f01
      go_wp2_with fail
      go_meet
      case rel => exact ⟨by rw [H1.out]; rfl, ob, hb0.trans (hb1.mono hb0.size)⟩
  case rest =>
    obtain ⟨rfl, ob, hb⟩ := hcut
    by_cases hA : (meshB xs (rs.map Row.xs) && inBox xs.length x y) = true
    · have HA := Lib.hid hA
      have hM : meshB xs (rs.map Row.xs) = true := by rw [Bool.and_eq_true] at hA; exact hA.1
      have hx4 := (mesh_perm hM).2
      have HP1 := Lib.hid (mesh_perm hM).1
      have H2 := Lib.hid (rows_two hM)
      have hl25 := mesh_len hM
      have HSR := Lib.hid (mesh_srt hM)
      rw [List.length_map] at hl25
      rw [hA]
      have HG := Lib.hid (show csB xs (rs.map Row.xs) x y = (!decide ([x, y] ∈ rs.map Row.xs) && canTo xs (rs.map Row.xs) (rs.map Row.xs ++ [[x, y]]) 6) by unfold csB; rw [HA.out, Bool.true_and, shB_mem])
      clear hA hM
      go_upto_region 3 with fail
      have f10 : wc.cell? ⟨w.heap.size, 0, none⟩ = some (Value.slice A xs.length c) := (obj_cell ob).trans rfl
      have f11 : wc.cell? ⟨w.heap.size, 1, none⟩ = some (Value.slice B rs.length k) := (obj_cell ob).trans rfl
      have hbs := hb.size
      have hblt := obj_lt ob
      have KB : ∀ (v v' : World), (v.cell? ⟨w.heap.size, 0, none⟩ = some (Value.slice A xs.length c) ∧ v.cell? ⟨w.heap.size, 1, none⟩ = some (Value.slice B rs.length k) ∧ Below wc.heap.size wc v) → Below v.heap.size v v' → (v'.cell? ⟨w.heap.size, 0, none⟩ = some (Value.slice A xs.length c) ∧ v'.cell? ⟨w.heap.size, 1, none⟩ = some (Value.slice B rs.length k) ∧ Below wc.heap.size wc v') := fun v v' hv hvv => by
        have hs := hv.2.2.size
        exact ⟨(hvv.cell (p := ⟨w.heap.size, 0, none⟩) (by show w.heap.size < v.heap.size; omega)).trans hv.1, (hvv.cell (p := ⟨w.heap.size, 1, none⟩) (by show w.heap.size < v.heap.size; omega)).trans hv.2.1, hv.2.2.trans (hvv.mono hs)⟩
      have hI0 := (h.next hb).2
      have RB : ∀ (v : World), (v.cell? ⟨w.heap.size, 0, none⟩ = some (Value.slice A xs.length c) ∧ v.cell? ⟨w.heap.size, 1, none⟩ = some (Value.slice B rs.length k) ∧ Below wc.heap.size wc v) → InL v B k rs := fun v hv => ⟨hI0.len, (hI0.read.below hv.2.2).more hv.2.2.size⟩
      have SB : ∀ (v : World), (v.cell? ⟨w.heap.size, 0, none⟩ = some (Value.slice A xs.length c) ∧ v.cell? ⟨w.heap.size, 1, none⟩ = some (Value.slice B rs.length k) ∧ Below wc.heap.size wc v) → wc.heap.size ≤ v.heap.size := fun v hv => hv.2.2.size
      have KG : ∀ (v v' : World) (row : Option Nat), (v.cell? ⟨w.heap.size, 0, none⟩ = some (Value.slice A xs.length c) ∧ v.cell? ⟨w.heap.size, 1, none⟩ = some (Value.slice B rs.length k) ∧ Below wc.heap.size wc v) → v.grownBy v' row → (∀ g, row = some g → wc.heap.size ≤ g) → (v'.cell? ⟨w.heap.size, 0, none⟩ = some (Value.slice A xs.length c) ∧ v'.cell? ⟨w.heap.size, 1, none⟩ = some (Value.slice B rs.length k) ∧ Below wc.heap.size wc v') := fun v v' row hv hg hr => by
        have hs := hv.2.2.size
        exact ⟨(World.cell?_of_block (a := ⟨w.heap.size, 0, none⟩) (hg.block _ (show w.heap.size < v.heap.size by omega) (fun e => by have : wc.heap.size ≤ w.heap.size := hr _ e.symm; omega))).trans hv.1, (World.cell?_of_block (a := ⟨w.heap.size, 1, none⟩) (hg.block _ (show w.heap.size < v.heap.size by omega) (fun e => by have : wc.heap.size ≤ w.heap.size := hr _ e.symm; omega))).trans hv.2.1, hv.2.2.grown hg hs hr⟩
      have KS : ∀ (v : World) (G : Nat) (a b : Value), (v.cell? ⟨w.heap.size, 0, none⟩ = some (Value.slice A xs.length c) ∧ v.cell? ⟨w.heap.size, 1, none⟩ = some (Value.slice B rs.length k) ∧ Below wc.heap.size wc v) → wc.heap.size ≤ G → (((v.setCell ⟨G, 0, none⟩ a).setCell ⟨G, 1, none⟩ b).cell? ⟨w.heap.size, 0, none⟩ = some (Value.slice A xs.length c) ∧ ((v.setCell ⟨G, 0, none⟩ a).setCell ⟨G, 1, none⟩ b).cell? ⟨w.heap.size, 1, none⟩ = some (Value.slice B rs.length k) ∧ Below wc.heap.size wc ((v.setCell ⟨G, 0, none⟩ a).setCell ⟨G, 1, none⟩ b)) := fun v G a b hv hG => by
        refine ⟨?_, ?_, (hv.2.2.setCell (p := ⟨G, 0, none⟩) hG a).setCell (p := ⟨G, 1, none⟩) hG b⟩
        · refine ((World.cell?_setCell_other _ _ _ _ (fun e => by injection e with e; omega)).trans (World.cell?_setCell_other _ _ _ _ (fun e => by injection e with e; omega))).trans hv.1
        · refine ((World.cell?_setCell_other _ _ _ _ (fun e => by injection e with e; omega)).trans (World.cell?_setCell_other _ _ _ _ (fun e => by injection e with e; omega))).trans hv.2.1
      have KSH := Lib.hid KS
      have KGH := Lib.hid KG
      have KBH := Lib.hid KB
      have RBH := Lib.hid RB
      have SBH := Lib.hid SB
      clear KB RB SB KG KS
      go_cut [7] (fun s7 wx => MoreP w A B c k xs rs x y s7 wx)
      case first =>
        have hS0 : (wc.drew.cell? ⟨w.heap.size, 0, none⟩ = some (Value.slice A xs.length c) ∧ wc.drew.cell? ⟨w.heap.size, 1, none⟩ = some (Value.slice B rs.length k) ∧ Below wc.heap.size wc wc.drew) := ⟨f10, f11, below_dr (Below.refl _ _) (Dr.refl _).drew⟩
        go_region_held3 (fun v => v.cell? ⟨w.heap.size, 0, none⟩ = some (Value.slice A xs.length c) ∧ v.cell? ⟨w.heap.size, 1, none⟩ = some (Value.slice B rs.length k) ∧ Below wc.heap.size wc v)
          (first
            | exact hS0
            | exact hS4
            | exact KSH.out _ _ _ _ hS4 hG
            | exact KBH.out _ _ (by assumption) hbq
            | exact KBH.out _ _ (by assumption) ((Below.refl _ _).alloc (Nat.le_refl _) _))
          ((first
            | (go_at_call 119
               (with_reducible refine (l2Copy_any B k rs _ (RBH.out _ (by assumption))).mono ?_)
               rintro e wq ⟨Ac, cc, cs, rfl, hXc, hOc0, hbq⟩
               have hOc := hOc0.wider (SBH.out _ (by assumption)) (Nat.le_refl _)
               have HXc := Lib.hid hXc
               have HCL := Lib.hid (show cs.length ≤ 1048576 by have h1 := congrArg List.length hXc; rw [List.length_map, List.length_map] at h1; omega)
               have HC8 := Lib.hid (show ∀ r ∈ cs, r.xs.length ≤ 1048576 from fun r hr => by
                 have h1 := map_memX hXc hr
                 obtain ⟨q, hq, he⟩ := List.mem_map.1 h1
                 have h2 := H2.out q hq
                 rw [← he]; omega)
               clear hOc0 hXc)
            | (go_at_call 84
               refine Calls.mono (l3Put_x Ac _ cc 2 wc.heap.size cs [x, y] _ (by ((repeat (first | exact hOc | refine Own.allocS ?_ _ | fail)); first | done | fail)) (SBH.out _ (by assumption)) (in_lit (by ((repeat (first | exact obj_newH (by (simp; first | done | fail)) | refine obj_belowS ?_ hbq | refine obj_alloc ?_ _ | fail)); first | done | fail))) HCL.out HC8.out) ?_
               rintro e w4 ⟨hOV, A4, c4, ms, rfl, hms, hO4, hgr4⟩
               rw [HXc.out] at hms
               have HMS := Lib.hid hms
               have hS4 := KGH.out _ _ _ (by assumption) hgr4 (fun q hq => (hOV.olim (n := cs.length) (by simp) q (by rw [ownBlock_len _ _ 0 _ 0]; exact hq)).1)
               have hgr5 := hgr4
               rw [ownBlock_len _ 0 (cs.map Row.v).length 0 cc] at hgr5
               clear hms
               try (first
                 | (have hz4 := obj_grownT (G := wc.heap.size) (cs := #[.slice none 0 0, .slice none 0 0]) (t := 27) (by ((repeat (first | exact obj_newH (by (simp; first | done | fail)) | refine obj_belowS ?_ hbq | refine obj_alloc ?_ _ | fail)); first | done | fail)) hOV.out (by decide) hgr5; have hG : wc.heap.size ≤ wc.heap.size := by (first | omega | (have h1 := hbq.size; simp at h1 ⊢; omega) | fail))
                 | (have hz4 := obj_grownT (G := wc.heap.size + 1) (cs := #[.slice none 0 0, .slice none 0 0]) (t := 27) (by ((repeat (first | exact obj_newH (by (simp; first | done | fail)) | refine obj_belowS ?_ hbq | refine obj_alloc ?_ _ | fail)); first | done | fail)) hOV.out (by decide) hgr5; have hG : wc.heap.size ≤ wc.heap.size + 1 := by (first | omega | (have h1 := hbq.size; simp at h1 ⊢; omega) | fail))
                 | (have hz4 := obj_grownT (G := wc.heap.size + 2) (cs := #[.slice none 0 0, .slice none 0 0]) (t := 27) (by ((repeat (first | exact obj_newH (by (simp; first | done | fail)) | refine obj_belowS ?_ hbq | refine obj_alloc ?_ _ | fail)); first | done | fail)) hOV.out (by decide) hgr5; have hG : wc.heap.size ≤ wc.heap.size + 2 := by (first | omega | (have h1 := hbq.size; simp at h1 ⊢; omega) | fail))
                 | (have hz4 := obj_grownT (G := wq.heap.size) (cs := #[.slice none 0 0, .slice none 0 0]) (t := 27) (by ((repeat (first | exact obj_newH (by (simp; first | done | fail)) | refine obj_belowS ?_ hbq | refine obj_alloc ?_ _ | fail)); first | done | fail)) hOV.out (by decide) hgr5; have hG : wc.heap.size ≤ wq.heap.size := by (first | omega | (have h1 := hbq.size; simp at h1 ⊢; omega) | fail))
                 | (have hz4 := obj_grownT (G := wq.heap.size + 1) (cs := #[.slice none 0 0, .slice none 0 0]) (t := 27) (by ((repeat (first | exact obj_newH (by (simp; first | done | fail)) | refine obj_belowS ?_ hbq | refine obj_alloc ?_ _ | fail)); first | done | fail)) hOV.out (by decide) hgr5; have hG : wc.heap.size ≤ wq.heap.size + 1 := by (first | omega | (have h1 := hbq.size; simp at h1 ⊢; omega) | fail))
                 | (have hz4 := obj_grownT (G := wq.heap.size + 2) (cs := #[.slice none 0 0, .slice none 0 0]) (t := 27) (by ((repeat (first | exact obj_newH (by (simp; first | done | fail)) | refine obj_belowS ?_ hbq | refine obj_alloc ?_ _ | fail)); first | done | fail)) hOV.out (by decide) hgr5; have hG : wc.heap.size ≤ wq.heap.size + 2 := by (first | omega | (have h1 := hbq.size; simp at h1 ⊢; omega) | fail))
                 | fail)
               try (have cz0 := obj_cell (i := 0) hz4; have cz1 := obj_cell (i := 1) hz4; have fz0 := obj_frozen (i := 0) hz4; have fz1 := obj_frozen (i := 1) hz4))
            | fail))
        all_goals
          go_wp2_with fail
          go_meet
          case rel => first | exact leafP_alloc HMS.out hO4 hS4.2.2 hb ob | exact leafP_set hz4 hG HMS.out hO4 hS4.2.2 hb ob
      case rest =>
        obtain ⟨g1, A', c', ms, rfl, ob1, hms, hRm, ob, hb⟩ := hcut
        have q00 : wc.cell? ⟨w.heap.size, 0, none⟩ = some (Value.slice A xs.length c) := (obj_cell ob).trans rfl
        have q01 : wc.cell? ⟨w.heap.size, 1, none⟩ = some (Value.slice B rs.length k) := (obj_cell ob).trans rfl
        have q10 : wc.cell? ⟨g1, 0, none⟩ = some (Value.slice A xs.length c) := (obj_cell ob1).trans rfl
        have q11 : wc.cell? ⟨g1, 1, none⟩ = some (Value.slice A' ms.length c') := (obj_cell ob1).trans rfl
        by_cases hin0 : [x, y] ∈ rs.map Row.xs
        · have hml : ms.length = rs.length := by
            have h1 := congrArg List.length hms
            rw [putL_old HSR.out hin0, List.length_map, List.length_map] at h1; exact h1
          have HF := Lib.hid (show csB xs (rs.map Row.xs) x y = false by rw [HG.out, decide_eq_true hin0]; rfl)
          clear hms hin0
          go_wp2_with fail
          go_ret
          exact ⟨ret_bool HF.out.symm, hb⟩
        have HMS := Lib.hid hms
        have HG2 := Lib.hid (show csB xs (rs.map Row.xs) x y = canTo xs (rs.map Row.xs) (rs.map Row.xs ++ [[x, y]]) 6 by rw [HG.out, decide_eq_false hin0]; rfl)
        have HME := Lib.hid (show ∀ s, s ∈ ms.map Row.xs ↔ s ∈ rs.map Row.xs ++ [[x, y]] from fun s => by rw [hms, putL_mem, List.mem_append, List.mem_singleton, Or.comm])
        have hml : ms.length = rs.length + 1 := by
          have h1 := congrArg List.length hms
          rw [putL_len_new hin0, List.length_map, List.length_map] at h1; exact h1
        have H2m := Lib.hid (show ∀ r ∈ ms, r.xs.length = 2 from fun r hr => by
          rcases List.mem_append.1 ((HME.out _).1 (List.mem_map.2 ⟨r, hr, rfl⟩)) with h1 | h1
          · obtain ⟨q, hq, he⟩ := List.mem_map.1 h1
            rw [← he]; exact H2.out q hq
          · rw [List.mem_singleton.1 h1]; rfl)
        have hM0 := h.next hb
        have hM1 : InM wc A c xs A' c' ms := ⟨hM0.1, ⟨by rw [sizeR_two H2m.out]; omega, hRm⟩⟩
        have HCN := Lib.hid (fun p => cntM_congr (X := ms.map Row.xs) HME.out p xs)
        have hne : ((ms.length : Int) == (rs.length : Int)) = false := by simp; omega
        have HML := Lib.hid hml
        clear hms hRm hml hin0
        go_wp2_with fail
        go_loopw [8] (fun i wr => ∃ n : Nat, n ≤ 6 ∧ i = .int .i64 n ∧ Hid (canTo xs (rs.map Row.xs) (rs.map Row.xs ++ [[x, y]]) n = true) ∧ wr.heap[w.heap.size]? = some (Obj.cells #[Value.slice A xs.length c, Value.slice B rs.length k] 27) ∧ wr.heap[g1]? = some (Obj.cells #[Value.slice A xs.length c, Value.slice A' ms.length c'] 27) ∧ Below wc.heap.size wc wr) (fun i _ => 6 - (intOf i).toNat)
        case atStart => exact ⟨0, Nat.zero_le _, rfl, Lib.hid rfl, ob, ob1, Below.refl _ _⟩
        case round =>
          clear ob ob1
          obtain ⟨n, hn, rfl, HT, ob, ob1, hbr⟩ := hrel
          rcases Nat.lt_or_ge n 6 with hlt | hge
          · have hn6 : n ≤ 6 := hn
            have HCS := Lib.hid (canTo_succ xs (rs.map Row.xs) (rs.map Row.xs ++ [[x, y]]) n)
            have HPG := Lib.hid (show permsG (n : Int) = permsL n by unfold permsG; rw [if_pos (by omega)]; rfl)
            go_wp2_with fail
            (with_reducible refine (permsOf_spec (n : Int) wr).mono ?_)
            rintro e w1 ⟨A1, c1, ps, rfl, hX, hO, hb1⟩
            rw [HPG.out] at hX
            have ob := obj_below ob hb1 (obj_lt ob)
            have ob1 := obj_below ob1 hb1 (obj_lt ob1)
            have hbw := hbr.trans (hb1.mono hbr.size)
            have hRp := hO.read
            have hpl : ps.length ≤ 46656 := by have h1 := permsL_le hn6; rw [← hX, List.length_map] at h1; exact h1
            have HX := Lib.hid hX
            clear hX hO hb1
            go_wp2_with fail
            go_loopw [10] (fun i wr => ∃ j : Nat, j ≤ ps.length ∧ i = .int .i64 j ∧ Hid ((ps.take j).all (fun r : Row => canAt xs (rs.map Row.xs) (rs.map Row.xs ++ [[x, y]]) r.xs) = true) ∧ wr.heap[w.heap.size]? = some (Obj.cells #[Value.slice A xs.length c, Value.slice B rs.length k] 27) ∧ wr.heap[g1]? = some (Obj.cells #[Value.slice A xs.length c, Value.slice A' ms.length c'] 27) ∧ Below w1.heap.size w1 wr) (fun i _ => ps.length - (intOf i).toNat)
            case atStart => exact ⟨0, Nat.zero_le _, rfl, Lib.hid rfl, ob, ob1, Below.refl _ _⟩
            case round =>
              clear ob ob1
              obtain ⟨j, hj, rfl, HJ, ob, ob1, hbj⟩ := hrel
              rcases Nat.lt_or_ge j ps.length with hjl | hjg
              · have hRp2 := hRp.below hbj
                obtain ⟨bp, op, rfl, _, hcp⟩ := hRp2.at (by omega)
                have cp := hcp j hjl
                have hpm := map_memX HX.out (List.getElem_mem hjl)
                have hp8 : ps[j].xs.length ≤ 8 := by have := (permsI_mem hpm).1; omega
                have HPP := Lib.hid (permsL_perm (by omega) hpm).1
                have hbd : Below wr.heap.size wr wr.drew := below_dr (Below.refl _ _) (Dr.refl _).drew
                have hbD := (hbw.trans (hbj.mono hbw.size))
                have hRpd := hRp2.dr (w' := wr.drew) (Dr.refl _).drew
                have hsj := hbj.size
                have hin := row_in hRpd (List.getElem_mem hjl) (by omega) hbj.size
                have cpd : wr.drew.cell? ⟨bp, op + j, none⟩ = some (Value.slice ps[j].A ps[j].xs.length ps[j].c) := cp
                have hM0d := hM0.next (hbD.trans (hbd.mono hbD.size))
                have hM1d := hM1.next (hbD.trans (hbd.mono hbD.size))
                have HALL := Lib.hid (show ∀ b : Bool, canAt xs (rs.map Row.xs) (rs.map Row.xs ++ [[x, y]]) ps[j].xs = b → (ps.take (j + 1)).all (fun r : Row => canAt xs (rs.map Row.xs) (rs.map Row.xs ++ [[x, y]]) r.xs) = b from fun b hb => by rw [List.take_succ_eq_append_getElem hjl, List.all_append, HJ.out, ← hb]; simp)
                have HCA := Lib.hid (show canAt xs (rs.map Row.xs) (rs.map Row.xs ++ [[x, y]]) ps[j].xs = (decide (0 < cntM ps[j].xs xs (rs.map Row.xs)) == decide (0 < cntM ps[j].xs xs (ms.map Row.xs))) by unfold canAt; rw [HCN.out])
                have i0 : (0 : Int) ≤ (j : Int) := by omega
                have i1 : (j : Int) < (ps.length : Int) := by omega
                have hbpl : bp < wr.heap.size := by
                  have := hRp2.ord _ (List.mem_singleton.2 rfl) (by simpa using (show 0 < ps.length by omega))
                  obtain ⟨b', o', he, hb', _⟩ := this
                  injection he with he
                  injection he with he1 _ _
                  omega
                clear hcp hpm
                go_upto_region 13 with fail
                go_cut [73] (fun s wq => s = .bool (!canAt xs (rs.map Row.xs) (rs.map Row.xs ++ [[x, y]]) ps[j].xs) ∧ wq.heap[w.heap.size]? = some (Obj.cells #[Value.slice A xs.length c, Value.slice B rs.length k] 27) ∧ wq.heap[g1]? = some (Obj.cells #[Value.slice A xs.length c, Value.slice A' ms.length c'] 27) ∧ Below wr.heap.size wr wq)
                case first =>
                  have ob0d : wr.drew.heap[w.heap.size]? = some (Obj.cells #[Value.slice A xs.length c, Value.slice B rs.length k] 27) := ob
                  have ob1d : wr.drew.heap[g1]? = some (Obj.cells #[Value.slice A xs.length c, Value.slice A' ms.length c'] 27) := ob1
                  have d00 : wr.drew.cell? ⟨w.heap.size, 0, none⟩ = some (Value.slice A xs.length c) := (obj_cell ob0d).trans rfl
                  have d01 : wr.drew.cell? ⟨w.heap.size, 1, none⟩ = some (Value.slice B rs.length k) := (obj_cell ob0d).trans rfl
                  have d10 : wr.drew.cell? ⟨g1, 0, none⟩ = some (Value.slice A xs.length c) := (obj_cell ob1d).trans rfl
                  have d11 : wr.drew.cell? ⟨g1, 1, none⟩ = some (Value.slice A' ms.length c') := (obj_cell ob1d).trans rfl
                  by_cases ha : 0 < cntM ps[j].xs xs (rs.map Row.xs)
                  · have ea : decide (0 < cntM ps[j].xs xs (rs.map Row.xs)) = true := decide_eq_true ha
                    have ea' : decide (((cntM ps[j].xs xs (rs.map Row.xs) : Nat) : Int) > 0) = true := decide_eq_true (by omega)
                    by_cases hb' : 0 < cntM ps[j].xs xs (ms.map Row.xs)
                    · have eb : decide (0 < cntM ps[j].xs xs (ms.map Row.xs)) = true := decide_eq_true hb'
                      have eb' : decide (((cntM ps[j].xs xs (ms.map Row.xs) : Nat) : Int) > 0) = true := decide_eq_true (by omega)
                      have HCB := Lib.hid (show canAt xs (rs.map Row.xs) (rs.map Row.xs ++ [[x, y]]) ps[j].xs = true by rw [HCA.out, ea, eb]; rfl)
                      clear ha hb'
                      go_region_held3 (fun v => v.cell? ⟨w.heap.size, 0, none⟩ = some (Value.slice A xs.length c) ∧ v.cell? ⟨w.heap.size, 1, none⟩ = some (Value.slice B rs.length k) ∧ v.cell? ⟨g1, 0, none⟩ = some (Value.slice A xs.length c) ∧ v.cell? ⟨g1, 1, none⟩ = some (Value.slice A' ms.length c') ∧ v.cell? ⟨bp, op + j, none⟩ = some (Value.slice ps[j].A ps[j].xs.length ps[j].c)) (first | exact ⟨d00, d01, d10, d11, cpd⟩ | exact ⟨e00, e01, e10, e11, cpe⟩ | exact ⟨f00, f01, f10, f11, cpf⟩) ((first | (go_at_call 85; (with_reducible refine (l9Count_any ps[j].A ps[j].c ps[j].xs A B c k xs rs wr.drew hin hM0d H2.out HPP.out HP1.out).mono ?_); rintro e w2 ⟨rfl, hb2⟩; have ob02 := obj_below ob0d hb2 (obj_lt ob0d); have ob12 := obj_below ob1d hb2 (obj_lt ob1d); have e00 : w2.cell? ⟨w.heap.size, 0, none⟩ = some (Value.slice A xs.length c) := (obj_cell ob02).trans rfl; have e01 : w2.cell? ⟨w.heap.size, 1, none⟩ = some (Value.slice B rs.length k) := (obj_cell ob02).trans rfl; have e10 : w2.cell? ⟨g1, 0, none⟩ = some (Value.slice A xs.length c) := (obj_cell ob12).trans rfl; have e11 : w2.cell? ⟨g1, 1, none⟩ = some (Value.slice A' ms.length c') := (obj_cell ob12).trans rfl; have cpe : w2.cell? ⟨bp, op + j, none⟩ = some (Value.slice ps[j].A ps[j].xs.length ps[j].c) := (hb2.cell (p := ⟨bp, op + j, none⟩) (hbpl)).trans cpd) | (go_at_call 85; (with_reducible refine (l9Count_any ps[j].A ps[j].c ps[j].xs A A' c c' xs ms wr.drew hin hM1d H2m.out HPP.out HP1.out).mono ?_); rintro e w2 ⟨rfl, hb2⟩; have ob02 := obj_below ob0d hb2 (obj_lt ob0d); have ob12 := obj_below ob1d hb2 (obj_lt ob1d); have e00 : w2.cell? ⟨w.heap.size, 0, none⟩ = some (Value.slice A xs.length c) := (obj_cell ob02).trans rfl; have e01 : w2.cell? ⟨w.heap.size, 1, none⟩ = some (Value.slice B rs.length k) := (obj_cell ob02).trans rfl; have e10 : w2.cell? ⟨g1, 0, none⟩ = some (Value.slice A xs.length c) := (obj_cell ob12).trans rfl; have e11 : w2.cell? ⟨g1, 1, none⟩ = some (Value.slice A' ms.length c') := (obj_cell ob12).trans rfl; have cpe : w2.cell? ⟨bp, op + j, none⟩ = some (Value.slice ps[j].A ps[j].xs.length ps[j].c) := (hb2.cell (p := ⟨bp, op + j, none⟩) (hbpl)).trans cpd) | (go_at_call 85; (with_reducible refine (l9Count_any ps[j].A ps[j].c ps[j].xs A B c k xs rs w2 (hin.next hb2) (hM0d.next hb2) H2.out HPP.out HP1.out).mono ?_); rintro e w3 ⟨rfl, hb3⟩; have ob03 := obj_below ob02 hb3 (obj_lt ob02); have ob13 := obj_below ob12 hb3 (obj_lt ob12); have f00 : w3.cell? ⟨w.heap.size, 0, none⟩ = some (Value.slice A xs.length c) := (obj_cell ob03).trans rfl; have f01 : w3.cell? ⟨w.heap.size, 1, none⟩ = some (Value.slice B rs.length k) := (obj_cell ob03).trans rfl; have f10 : w3.cell? ⟨g1, 0, none⟩ = some (Value.slice A xs.length c) := (obj_cell ob13).trans rfl; have f11 : w3.cell? ⟨g1, 1, none⟩ = some (Value.slice A' ms.length c') := (obj_cell ob13).trans rfl; have cpf : w3.cell? ⟨bp, op + j, none⟩ = some (Value.slice ps[j].A ps[j].xs.length ps[j].c) := (hb3.cell (p := ⟨bp, op + j, none⟩) (Nat.lt_of_lt_of_le hbpl hb2.size)).trans cpe) | (go_at_call 85; (with_reducible refine (l9Count_any ps[j].A ps[j].c ps[j].xs A A' c c' xs ms w2 (hin.next hb2) (hM1d.next hb2) H2m.out HPP.out HP1.out).mono ?_); rintro e w3 ⟨rfl, hb3⟩; have ob03 := obj_below ob02 hb3 (obj_lt ob02); have ob13 := obj_below ob12 hb3 (obj_lt ob12); have f00 : w3.cell? ⟨w.heap.size, 0, none⟩ = some (Value.slice A xs.length c) := (obj_cell ob03).trans rfl; have f01 : w3.cell? ⟨w.heap.size, 1, none⟩ = some (Value.slice B rs.length k) := (obj_cell ob03).trans rfl; have f10 : w3.cell? ⟨g1, 0, none⟩ = some (Value.slice A xs.length c) := (obj_cell ob13).trans rfl; have f11 : w3.cell? ⟨g1, 1, none⟩ = some (Value.slice A' ms.length c') := (obj_cell ob13).trans rfl; have cpf : w3.cell? ⟨bp, op + j, none⟩ = some (Value.slice ps[j].A ps[j].xs.length ps[j].c) := (hb3.cell (p := ⟨bp, op + j, none⟩) (Nat.lt_of_lt_of_le hbpl hb2.size)).trans cpe) | fail))
                      all_goals
                        go_wp2_with fail
                        go_meet
                        case rel => exact ⟨by rw [HCB.out]; rfl, ob03, ob13, (hbd.trans (hb2.mono hbd.size)).trans (hb3.mono (hbd.trans (hb2.mono hbd.size)).size)⟩
                    · have eb : decide (0 < cntM ps[j].xs xs (ms.map Row.xs)) = false := decide_eq_false hb'
                      have eb' : decide (((cntM ps[j].xs xs (ms.map Row.xs) : Nat) : Int) > 0) = false := decide_eq_false (by omega)
                      have HCB := Lib.hid (show canAt xs (rs.map Row.xs) (rs.map Row.xs ++ [[x, y]]) ps[j].xs = false by rw [HCA.out, ea, eb]; rfl)
                      clear ha hb'
                      go_region_held3 (fun v => v.cell? ⟨w.heap.size, 0, none⟩ = some (Value.slice A xs.length c) ∧ v.cell? ⟨w.heap.size, 1, none⟩ = some (Value.slice B rs.length k) ∧ v.cell? ⟨g1, 0, none⟩ = some (Value.slice A xs.length c) ∧ v.cell? ⟨g1, 1, none⟩ = some (Value.slice A' ms.length c') ∧ v.cell? ⟨bp, op + j, none⟩ = some (Value.slice ps[j].A ps[j].xs.length ps[j].c)) (first | exact ⟨d00, d01, d10, d11, cpd⟩ | exact ⟨e00, e01, e10, e11, cpe⟩ | exact ⟨f00, f01, f10, f11, cpf⟩) ((first | (go_at_call 85; (with_reducible refine (l9Count_any ps[j].A ps[j].c ps[j].xs A B c k xs rs wr.drew hin hM0d H2.out HPP.out HP1.out).mono ?_); rintro e w2 ⟨rfl, hb2⟩; have ob02 := obj_below ob0d hb2 (obj_lt ob0d); have ob12 := obj_below ob1d hb2 (obj_lt ob1d); have e00 : w2.cell? ⟨w.heap.size, 0, none⟩ = some (Value.slice A xs.length c) := (obj_cell ob02).trans rfl; have e01 : w2.cell? ⟨w.heap.size, 1, none⟩ = some (Value.slice B rs.length k) := (obj_cell ob02).trans rfl; have e10 : w2.cell? ⟨g1, 0, none⟩ = some (Value.slice A xs.length c) := (obj_cell ob12).trans rfl; have e11 : w2.cell? ⟨g1, 1, none⟩ = some (Value.slice A' ms.length c') := (obj_cell ob12).trans rfl; have cpe : w2.cell? ⟨bp, op + j, none⟩ = some (Value.slice ps[j].A ps[j].xs.length ps[j].c) := (hb2.cell (p := ⟨bp, op + j, none⟩) (hbpl)).trans cpd) | (go_at_call 85; (with_reducible refine (l9Count_any ps[j].A ps[j].c ps[j].xs A A' c c' xs ms wr.drew hin hM1d H2m.out HPP.out HP1.out).mono ?_); rintro e w2 ⟨rfl, hb2⟩; have ob02 := obj_below ob0d hb2 (obj_lt ob0d); have ob12 := obj_below ob1d hb2 (obj_lt ob1d); have e00 : w2.cell? ⟨w.heap.size, 0, none⟩ = some (Value.slice A xs.length c) := (obj_cell ob02).trans rfl; have e01 : w2.cell? ⟨w.heap.size, 1, none⟩ = some (Value.slice B rs.length k) := (obj_cell ob02).trans rfl; have e10 : w2.cell? ⟨g1, 0, none⟩ = some (Value.slice A xs.length c) := (obj_cell ob12).trans rfl; have e11 : w2.cell? ⟨g1, 1, none⟩ = some (Value.slice A' ms.length c') := (obj_cell ob12).trans rfl; have cpe : w2.cell? ⟨bp, op + j, none⟩ = some (Value.slice ps[j].A ps[j].xs.length ps[j].c) := (hb2.cell (p := ⟨bp, op + j, none⟩) (hbpl)).trans cpd) | (go_at_call 85; (with_reducible refine (l9Count_any ps[j].A ps[j].c ps[j].xs A B c k xs rs w2 (hin.next hb2) (hM0d.next hb2) H2.out HPP.out HP1.out).mono ?_); rintro e w3 ⟨rfl, hb3⟩; have ob03 := obj_below ob02 hb3 (obj_lt ob02); have ob13 := obj_below ob12 hb3 (obj_lt ob12); have f00 : w3.cell? ⟨w.heap.size, 0, none⟩ = some (Value.slice A xs.length c) := (obj_cell ob03).trans rfl; have f01 : w3.cell? ⟨w.heap.size, 1, none⟩ = some (Value.slice B rs.length k) := (obj_cell ob03).trans rfl; have f10 : w3.cell? ⟨g1, 0, none⟩ = some (Value.slice A xs.length c) := (obj_cell ob13).trans rfl; have f11 : w3.cell? ⟨g1, 1, none⟩ = some (Value.slice A' ms.length c') := (obj_cell ob13).trans rfl; have cpf : w3.cell? ⟨bp, op + j, none⟩ = some (Value.slice ps[j].A ps[j].xs.length ps[j].c) := (hb3.cell (p := ⟨bp, op + j, none⟩) (Nat.lt_of_lt_of_le hbpl hb2.size)).trans cpe) | (go_at_call 85; (with_reducible refine (l9Count_any ps[j].A ps[j].c ps[j].xs A A' c c' xs ms w2 (hin.next hb2) (hM1d.next hb2) H2m.out HPP.out HP1.out).mono ?_); rintro e w3 ⟨rfl, hb3⟩; have ob03 := obj_below ob02 hb3 (obj_lt ob02); have ob13 := obj_below ob12 hb3 (obj_lt ob12); have f00 : w3.cell? ⟨w.heap.size, 0, none⟩ = some (Value.slice A xs.length c) := (obj_cell ob03).trans rfl; have f01 : w3.cell? ⟨w.heap.size, 1, none⟩ = some (Value.slice B rs.length k) := (obj_cell ob03).trans rfl; have f10 : w3.cell? ⟨g1, 0, none⟩ = some (Value.slice A xs.length c) := (obj_cell ob13).trans rfl; have f11 : w3.cell? ⟨g1, 1, none⟩ = some (Value.slice A' ms.length c') := (obj_cell ob13).trans rfl; have cpf : w3.cell? ⟨bp, op + j, none⟩ = some (Value.slice ps[j].A ps[j].xs.length ps[j].c) := (hb3.cell (p := ⟨bp, op + j, none⟩) (Nat.lt_of_lt_of_le hbpl hb2.size)).trans cpe) | fail))
                      all_goals
                        go_wp2_with fail
                        go_meet
                        case rel => exact ⟨by rw [HCB.out]; rfl, ob03, ob13, (hbd.trans (hb2.mono hbd.size)).trans (hb3.mono (hbd.trans (hb2.mono hbd.size)).size)⟩
                  · have ea : decide (0 < cntM ps[j].xs xs (rs.map Row.xs)) = false := decide_eq_false ha
                    have ea' : decide (((cntM ps[j].xs xs (rs.map Row.xs) : Nat) : Int) > 0) = false := decide_eq_false (by omega)
                    by_cases hb' : 0 < cntM ps[j].xs xs (ms.map Row.xs)
                    · have eb : decide (0 < cntM ps[j].xs xs (ms.map Row.xs)) = true := decide_eq_true hb'
                      have eb' : decide (((cntM ps[j].xs xs (ms.map Row.xs) : Nat) : Int) > 0) = true := decide_eq_true (by omega)
                      have HCB := Lib.hid (show canAt xs (rs.map Row.xs) (rs.map Row.xs ++ [[x, y]]) ps[j].xs = false by rw [HCA.out, ea, eb]; rfl)
                      clear ha hb'
                      go_region_held3 (fun v => v.cell? ⟨w.heap.size, 0, none⟩ = some (Value.slice A xs.length c) ∧ v.cell? ⟨w.heap.size, 1, none⟩ = some (Value.slice B rs.length k) ∧ v.cell? ⟨g1, 0, none⟩ = some (Value.slice A xs.length c) ∧ v.cell? ⟨g1, 1, none⟩ = some (Value.slice A' ms.length c') ∧ v.cell? ⟨bp, op + j, none⟩ = some (Value.slice ps[j].A ps[j].xs.length ps[j].c)) (first | exact ⟨d00, d01, d10, d11, cpd⟩ | exact ⟨e00, e01, e10, e11, cpe⟩ | exact ⟨f00, f01, f10, f11, cpf⟩) ((first | (go_at_call 85; (with_reducible refine (l9Count_any ps[j].A ps[j].c ps[j].xs A B c k xs rs wr.drew hin hM0d H2.out HPP.out HP1.out).mono ?_); rintro e w2 ⟨rfl, hb2⟩; have ob02 := obj_below ob0d hb2 (obj_lt ob0d); have ob12 := obj_below ob1d hb2 (obj_lt ob1d); have e00 : w2.cell? ⟨w.heap.size, 0, none⟩ = some (Value.slice A xs.length c) := (obj_cell ob02).trans rfl; have e01 : w2.cell? ⟨w.heap.size, 1, none⟩ = some (Value.slice B rs.length k) := (obj_cell ob02).trans rfl; have e10 : w2.cell? ⟨g1, 0, none⟩ = some (Value.slice A xs.length c) := (obj_cell ob12).trans rfl; have e11 : w2.cell? ⟨g1, 1, none⟩ = some (Value.slice A' ms.length c') := (obj_cell ob12).trans rfl; have cpe : w2.cell? ⟨bp, op + j, none⟩ = some (Value.slice ps[j].A ps[j].xs.length ps[j].c) := (hb2.cell (p := ⟨bp, op + j, none⟩) (hbpl)).trans cpd) | (go_at_call 85; (with_reducible refine (l9Count_any ps[j].A ps[j].c ps[j].xs A A' c c' xs ms wr.drew hin hM1d H2m.out HPP.out HP1.out).mono ?_); rintro e w2 ⟨rfl, hb2⟩; have ob02 := obj_below ob0d hb2 (obj_lt ob0d); have ob12 := obj_below ob1d hb2 (obj_lt ob1d); have e00 : w2.cell? ⟨w.heap.size, 0, none⟩ = some (Value.slice A xs.length c) := (obj_cell ob02).trans rfl; have e01 : w2.cell? ⟨w.heap.size, 1, none⟩ = some (Value.slice B rs.length k) := (obj_cell ob02).trans rfl; have e10 : w2.cell? ⟨g1, 0, none⟩ = some (Value.slice A xs.length c) := (obj_cell ob12).trans rfl; have e11 : w2.cell? ⟨g1, 1, none⟩ = some (Value.slice A' ms.length c') := (obj_cell ob12).trans rfl; have cpe : w2.cell? ⟨bp, op + j, none⟩ = some (Value.slice ps[j].A ps[j].xs.length ps[j].c) := (hb2.cell (p := ⟨bp, op + j, none⟩) (hbpl)).trans cpd) | (go_at_call 85; (with_reducible refine (l9Count_any ps[j].A ps[j].c ps[j].xs A B c k xs rs w2 (hin.next hb2) (hM0d.next hb2) H2.out HPP.out HP1.out).mono ?_); rintro e w3 ⟨rfl, hb3⟩; have ob03 := obj_below ob02 hb3 (obj_lt ob02); have ob13 := obj_below ob12 hb3 (obj_lt ob12); have f00 : w3.cell? ⟨w.heap.size, 0, none⟩ = some (Value.slice A xs.length c) := (obj_cell ob03).trans rfl; have f01 : w3.cell? ⟨w.heap.size, 1, none⟩ = some (Value.slice B rs.length k) := (obj_cell ob03).trans rfl; have f10 : w3.cell? ⟨g1, 0, none⟩ = some (Value.slice A xs.length c) := (obj_cell ob13).trans rfl; have f11 : w3.cell? ⟨g1, 1, none⟩ = some (Value.slice A' ms.length c') := (obj_cell ob13).trans rfl; have cpf : w3.cell? ⟨bp, op + j, none⟩ = some (Value.slice ps[j].A ps[j].xs.length ps[j].c) := (hb3.cell (p := ⟨bp, op + j, none⟩) (Nat.lt_of_lt_of_le hbpl hb2.size)).trans cpe) | (go_at_call 85; (with_reducible refine (l9Count_any ps[j].A ps[j].c ps[j].xs A A' c c' xs ms w2 (hin.next hb2) (hM1d.next hb2) H2m.out HPP.out HP1.out).mono ?_); rintro e w3 ⟨rfl, hb3⟩; have ob03 := obj_below ob02 hb3 (obj_lt ob02); have ob13 := obj_below ob12 hb3 (obj_lt ob12); have f00 : w3.cell? ⟨w.heap.size, 0, none⟩ = some (Value.slice A xs.length c) := (obj_cell ob03).trans rfl; have f01 : w3.cell? ⟨w.heap.size, 1, none⟩ = some (Value.slice B rs.length k) := (obj_cell ob03).trans rfl; have f10 : w3.cell? ⟨g1, 0, none⟩ = some (Value.slice A xs.length c) := (obj_cell ob13).trans rfl; have f11 : w3.cell? ⟨g1, 1, none⟩ = some (Value.slice A' ms.length c') := (obj_cell ob13).trans rfl; have cpf : w3.cell? ⟨bp, op + j, none⟩ = some (Value.slice ps[j].A ps[j].xs.length ps[j].c) := (hb3.cell (p := ⟨bp, op + j, none⟩) (Nat.lt_of_lt_of_le hbpl hb2.size)).trans cpe) | fail))
                      all_goals
                        go_wp2_with fail
                        go_meet
                        case rel => exact ⟨by rw [HCB.out]; rfl, ob03, ob13, (hbd.trans (hb2.mono hbd.size)).trans (hb3.mono (hbd.trans (hb2.mono hbd.size)).size)⟩
                    · have eb : decide (0 < cntM ps[j].xs xs (ms.map Row.xs)) = false := decide_eq_false hb'
                      have eb' : decide (((cntM ps[j].xs xs (ms.map Row.xs) : Nat) : Int) > 0) = false := decide_eq_false (by omega)
                      have HCB := Lib.hid (show canAt xs (rs.map Row.xs) (rs.map Row.xs ++ [[x, y]]) ps[j].xs = true by rw [HCA.out, ea, eb]; rfl)
                      clear ha hb'
                      go_region_held3 (fun v => v.cell? ⟨w.heap.size, 0, none⟩ = some (Value.slice A xs.length c) ∧ v.cell? ⟨w.heap.size, 1, none⟩ = some (Value.slice B rs.length k) ∧ v.cell? ⟨g1, 0, none⟩ = some (Value.slice A xs.length c) ∧ v.cell? ⟨g1, 1, none⟩ = some (Value.slice A' ms.length c') ∧ v.cell? ⟨bp, op + j, none⟩ = some (Value.slice ps[j].A ps[j].xs.length ps[j].c)) (first | exact ⟨d00, d01, d10, d11, cpd⟩ | exact ⟨e00, e01, e10, e11, cpe⟩ | exact ⟨f00, f01, f10, f11, cpf⟩) ((first | (go_at_call 85; (with_reducible refine (l9Count_any ps[j].A ps[j].c ps[j].xs A B c k xs rs wr.drew hin hM0d H2.out HPP.out HP1.out).mono ?_); rintro e w2 ⟨rfl, hb2⟩; have ob02 := obj_below ob0d hb2 (obj_lt ob0d); have ob12 := obj_below ob1d hb2 (obj_lt ob1d); have e00 : w2.cell? ⟨w.heap.size, 0, none⟩ = some (Value.slice A xs.length c) := (obj_cell ob02).trans rfl; have e01 : w2.cell? ⟨w.heap.size, 1, none⟩ = some (Value.slice B rs.length k) := (obj_cell ob02).trans rfl; have e10 : w2.cell? ⟨g1, 0, none⟩ = some (Value.slice A xs.length c) := (obj_cell ob12).trans rfl; have e11 : w2.cell? ⟨g1, 1, none⟩ = some (Value.slice A' ms.length c') := (obj_cell ob12).trans rfl; have cpe : w2.cell? ⟨bp, op + j, none⟩ = some (Value.slice ps[j].A ps[j].xs.length ps[j].c) := (hb2.cell (p := ⟨bp, op + j, none⟩) (hbpl)).trans cpd) | (go_at_call 85; (with_reducible refine (l9Count_any ps[j].A ps[j].c ps[j].xs A A' c c' xs ms wr.drew hin hM1d H2m.out HPP.out HP1.out).mono ?_); rintro e w2 ⟨rfl, hb2⟩; have ob02 := obj_below ob0d hb2 (obj_lt ob0d); have ob12 := obj_below ob1d hb2 (obj_lt ob1d); have e00 : w2.cell? ⟨w.heap.size, 0, none⟩ = some (Value.slice A xs.length c) := (obj_cell ob02).trans rfl; have e01 : w2.cell? ⟨w.heap.size, 1, none⟩ = some (Value.slice B rs.length k) := (obj_cell ob02).trans rfl; have e10 : w2.cell? ⟨g1, 0, none⟩ = some (Value.slice A xs.length c) := (obj_cell ob12).trans rfl; have e11 : w2.cell? ⟨g1, 1, none⟩ = some (Value.slice A' ms.length c') := (obj_cell ob12).trans rfl; have cpe : w2.cell? ⟨bp, op + j, none⟩ = some (Value.slice ps[j].A ps[j].xs.length ps[j].c) := (hb2.cell (p := ⟨bp, op + j, none⟩) (hbpl)).trans cpd) | (go_at_call 85; (with_reducible refine (l9Count_any ps[j].A ps[j].c ps[j].xs A B c k xs rs w2 (hin.next hb2) (hM0d.next hb2) H2.out HPP.out HP1.out).mono ?_); rintro e w3 ⟨rfl, hb3⟩; have ob03 := obj_below ob02 hb3 (obj_lt ob02); have ob13 := obj_below ob12 hb3 (obj_lt ob12); have f00 : w3.cell? ⟨w.heap.size, 0, none⟩ = some (Value.slice A xs.length c) := (obj_cell ob03).trans rfl; have f01 : w3.cell? ⟨w.heap.size, 1, none⟩ = some (Value.slice B rs.length k) := (obj_cell ob03).trans rfl; have f10 : w3.cell? ⟨g1, 0, none⟩ = some (Value.slice A xs.length c) := (obj_cell ob13).trans rfl; have f11 : w3.cell? ⟨g1, 1, none⟩ = some (Value.slice A' ms.length c') := (obj_cell ob13).trans rfl; have cpf : w3.cell? ⟨bp, op + j, none⟩ = some (Value.slice ps[j].A ps[j].xs.length ps[j].c) := (hb3.cell (p := ⟨bp, op + j, none⟩) (Nat.lt_of_lt_of_le hbpl hb2.size)).trans cpe) | (go_at_call 85; (with_reducible refine (l9Count_any ps[j].A ps[j].c ps[j].xs A A' c c' xs ms w2 (hin.next hb2) (hM1d.next hb2) H2m.out HPP.out HP1.out).mono ?_); rintro e w3 ⟨rfl, hb3⟩; have ob03 := obj_below ob02 hb3 (obj_lt ob02); have ob13 := obj_below ob12 hb3 (obj_lt ob12); have f00 : w3.cell? ⟨w.heap.size, 0, none⟩ = some (Value.slice A xs.length c) := (obj_cell ob03).trans rfl; have f01 : w3.cell? ⟨w.heap.size, 1, none⟩ = some (Value.slice B rs.length k) := (obj_cell ob03).trans rfl; have f10 : w3.cell? ⟨g1, 0, none⟩ = some (Value.slice A xs.length c) := (obj_cell ob13).trans rfl; have f11 : w3.cell? ⟨g1, 1, none⟩ = some (Value.slice A' ms.length c') := (obj_cell ob13).trans rfl; have cpf : w3.cell? ⟨bp, op + j, none⟩ = some (Value.slice ps[j].A ps[j].xs.length ps[j].c) := (hb3.cell (p := ⟨bp, op + j, none⟩) (Nat.lt_of_lt_of_le hbpl hb2.size)).trans cpe) | fail))
                      all_goals
                        go_wp2_with fail
                        go_meet
                        case rel => exact ⟨by rw [HCB.out]; rfl, ob03, ob13, (hbd.trans (hb2.mono hbd.size)).trans (hb3.mono (hbd.trans (hb2.mono hbd.size)).size)⟩
                case rest =>
                  obtain ⟨rfl, ob, ob1, hbq⟩ := hcut
                  have hbj2 := hbj.trans (hbq.mono hbj.size)
                  by_cases hca : canAt xs (rs.map Row.xs) (rs.map Row.xs ++ [[x, y]]) ps[j].xs = true
                  · have HJ2 := Lib.hid (HALL.out true hca)
                    rw [hca]
                    clear hca
                    go_wp2_with fail
                    go_roundw
                    case rel => exact ⟨j + 1, by omega, by go_num, HJ2, ob, ob1, hbj2⟩
                    case measure => simp [intOf]; omega
                  · have hcaf : canAt xs (rs.map Row.xs) (rs.map Row.xs ++ [[x, y]]) ps[j].xs = false := by simpa using hca
                    have HF := Lib.hid (show canTo xs (rs.map Row.xs) (rs.map Row.xs ++ [[x, y]]) 6 = false from canTo_false hlt (by
                      unfold canN
                      rw [← HX.out, List.all_map, List.all_eq_false]
                      exact ⟨ps[j], List.getElem_mem hjl, by simp [hcaf]⟩))
                    rw [hcaf]
                    clear hca hcaf
                    go_wp2_with fail
                    go_ret
                    exact ⟨ret_bool (by rw [HG2.out, HF.out]), (hb.trans (hbw.mono hb.size)).trans (hbj2.mono (by have h1 := hb.size; have h2 := hbw.size; omega))⟩
              · obtain rfl : j = ps.length := by omega
                have HN := Lib.hid (show canTo xs (rs.map Row.xs) (rs.map Row.xs ++ [[x, y]]) (n + 1) = true by
                  rw [HCS.out, HT.out, Bool.true_and]
                  unfold canN
                  have h1 := HJ.out
                  rw [List.take_length] at h1
                  rw [← HX.out, List.all_map]; exact h1)
                have hb2 := hbw.trans (hbj.mono hbw.size)
                go_wp2_with fail
                go_roundw
                case rel => exact ⟨n + 1, by omega, by go_num, HN, ob, ob1, hb2⟩
                case measure => simp [intOf]; omega
          · obtain rfl : n = 6 := by omega
            go_wp2_with fail
            go_ret
            exact ⟨ret_bool (by rw [HG2.out, HT.out]), hb.trans (hbr.mono hb.size)⟩
    · have hAf : (meshB xs (rs.map Row.xs) && inBox xs.length x y) = false := by simpa using hA
      have HG := Lib.hid (show csB xs (rs.map Row.xs) x y = false by unfold csB; rw [hAf, Bool.false_and, Bool.false_and])
      rw [hAf]
      clear hA hAf
      go_wp2_with fail
      go_ret
      exact ⟨ret_bool HG.out.symm, hb⟩
end Go.Proofs.Ythipikllgpnlhaa

/- Contracts of EulerRow, program and reference. -/
namespace Go.Proofs.Ythipikllgpnlhaa
set_option maxRecDepth 100000
open Go Go.RowKit

def eulA (row : List Int) (k : Nat) : Int := if h : k < row.length then wrap64 (wrap64 (((k : Int) + 1) * row[k])) else 0
def eulX (row : List Int) (m k : Nat) : Int := if 0 < k then wrap64 (eulA row k + wrap64 (((m : Int) - k) * (row[k - 1]?.getD 0))) else eulA row k
def eulRow : Nat → List Int
  | 0 => [1]
  | 1 => [1]
  | j + 2 => (List.range (j + 2)).map (eulX (eulRow (j + 1)) (j + 2))
def eulG (n : Int) : List Int := if 1 ≤ n ∧ n ≤ 12 then eulRow n.toNat else []
theorem eulRow_succ (q : Nat) (h : 1 ≤ q) : eulRow (q + 1) = (List.range (q + 1)).map (eulX (eulRow q) (q + 1)) := by
  obtain ⟨j, rfl⟩ : ∃ j, q = j + 1 := ⟨q - 1, by omega⟩
  rfl
theorem eulRow_length (q : Nat) (h : 1 ≤ q) : (eulRow q).length = q := by
  obtain ⟨j, rfl⟩ : ∃ j, q = j + 1 := ⟨q - 1, by omega⟩
  cases j with
  | zero => rfl
  | succ j => rw [eulRow_succ (j + 1) (by omega)]; simp
theorem eulG_length (n : Int) : (eulG n).length ≤ 1000 := by
  unfold eulG
  split
  · rw [eulRow_length _ (by omega)]; omega
  · simp

set_option maxHeartbeats 800000 in
theorem euler_spec (n : Int) (_ : -9223372036854775808 ≤ n ∧ n ≤ 9223372036854775807) (w : World) : Calls Try.prog 45 #[.int .i64 n] w (Ret (Value.int .i64) 3 w (eulG n)) := by
  obtain ⟨i0, hi, hz0, hz1, hz2⟩ := info_parts infoI
  by_cases h : 1 ≤ n ∧ n ≤ 12
  · obtain ⟨a1, a2⟩ := h
    obtain ⟨m, rfl⟩ := Int.eq_ofNat_of_zero_le (show 0 ≤ n by omega)
    have HG := Lib.hid (show eulG m = eulRow m by rw [eulG, if_pos ⟨a1, a2⟩]; rfl)
    have hd1 : decide (1 ≤ (m : Int) ∧ (m : Int) ≤ 12) = true := by simp [a1, a2]
    go_enter Try.func45, Try.ntmps45
    go_wp2_with (go_at_call 87; refine (l1In_any _ _ _ _).mono ?_; rintro e w' ⟨rfl, rfl⟩)
    clear hd1
    have hown0 : (w.alloc (.cells #[.int .i64 1] 3)).ownsRow w.heap.size 3 1 (.slice (some ⟨w.heap.size, 0, none⟩) 1 1) 1 ((eulRow 1).map (Value.int .i64)) := World.ownsRow_lit w _ 1 (Nat.le_refl _) (by unfold maxLen; omega) rfl
    have hb0 := (Below.refl w.heap.size w).alloc (Nat.le_refl _) (.cells #[.int .i64 1] 3)
    go_loopw [3, 4] (fun v i wr => ∃ (q : Nat) (A : Option Addr) (c : Nat), 1 ≤ q ∧ q ≤ m ∧ i = .int .i64 ((q : Int) + 1) ∧ v = .slice A q c ∧ wr.ownsRow w.heap.size 3 1 (.slice A q c) q ((eulRow q).map (Value.int .i64)) ∧ Below w.heap.size w wr) (fun _ i _ => m + 1 - (intOf i).toNat)
    case atStart => exact ⟨1, _, _, Nat.le_refl _, by omega, rfl, rfl, hown0, hb0⟩
    case round =>
      clear hown0 hb0
      obtain ⟨q, A, c, hq1, hq, rfl, rfl, hown, hb⟩ := hrel
      have hsz := hb.size
      have hlen := eulRow_length q hq1
      rcases Nat.lt_or_ge q m with hlt | hge
      · have hrd : Rd (Value.int .i64) wr wr.heap.size A (eulRow q) := Rd.of_own (by rw [hlen]; exact hown)
        have hLEN := Lib.hid hlen
        have hdq : decide ((q : Int) + 1 ≤ (m : Int)) = true := by simp; omega
        clear hlen
        obtain ⟨wo, rfl⟩ : ∃ wo : World, wo = wr := ⟨_, rfl⟩
        go_wp2
        have hownZ : (wo.alloc (.cells #[] 3)).ownsRow w.heap.size 3 1 (.slice (some ⟨wo.heap.size, 0, none⟩) 0 0) 0 (((List.range 0).map (eulX (eulRow q) (q + 1))).map (Value.int .i64)) := World.ownsRow_lit wo #[] 0 hsz (by unfold maxLen; omega) rfl
        have hbo := (Below.refl wo.heap.size wo).alloc (Nat.le_refl _) (.cells #[] 3)
        go_loopw [5, 6] (fun v i wi => ∃ (k : Nat) (A : Option Addr) (c : Nat), k ≤ q + 1 ∧ i = .int .i64 k ∧ v = .slice A k c ∧ wi.ownsRow wo.heap.size 3 1 (.slice A k c) k (((List.range k).map (eulX (eulRow q) (q + 1))).map (Value.int .i64)) ∧ Below wo.heap.size wo wi) (fun _ i _ => q + 1 - (intOf i).toNat)
        case atStart => exact ⟨0, _, _, Nat.zero_le _, rfl, rfl, World.ownsRow_lit wo #[] 0 (Nat.le_refl _) (by unfold maxLen; omega) rfl, hbo⟩
        case round =>
          clear hownZ hbo
          obtain ⟨k, A', c', hk, rfl, rfl, hownK, hbK⟩ := hrel
          rcases Nat.lt_or_ge k (q + 1) with hk2 | hk2
          · obtain ⟨b, off, rfl, hbb, hc⟩ := (hrd.below hbK) (by rw [hLEN.out]; omega)
            have hszK := hbK.size
            have hlq : q ≤ (eulRow q).length := Nat.le_of_eq hLEN.out.symm
            have hlq2 : (eulRow q).length ≤ q := Nat.le_of_eq hLEN.out
            by_cases h1 : k < q
            · have c1 := hc k (by omega)
              have hkl : k < (eulRow q).length := by omega
              by_cases h2 : 0 < k
              · have c2 := hc (k - 1) (by omega)
                have hkl2 : k - 1 < (eulRow q).length := by omega
                have hX := Lib.hid (show (List.range (k + 1)).map (eulX (eulRow q) (q + 1)) = (List.range k).map (eulX (eulRow q) (q + 1)) ++ [wrap64 (wrap64 (wrap64 (((k : Int) + 1) * (eulRow q)[k])) + wrap64 (((q : Int) + 1 - (k : Int)) * (eulRow q)[k - 1]))] by
                  rw [List.range_succ, List.map_append]; congr 1; simp only [List.map_cons, List.map_nil]; congr 1; rw [eulX, if_pos h2, eulA, dif_pos hkl, List.getElem?_eq_getElem hkl2]; rfl)
                clear hc
                go_wp2_with (at_builtin; refine wpList_append_own _ rfl _ _ 24 rfl (wo.heap.size) 3 i0 (.int .i64 0) 1 8 Try.underlying24 hi hz0 hz1 hz2 rfl (by decide) _ _ _ rfl (World.ownsRow.alloc hownK _) ⟨wr.heap.size, 0, none⟩ 1 1 [.int .i64 (wrap64 (wrap64 (wrap64 (((k : Int) + 1) * (eulRow q)[k])) + wrap64 (((q : Int) + 1 - (k : Int)) * (eulRow q)[k - 1])))] rfl rfl (cell_one_new _ _ _) (by intro u hu; simp at hu; subst hu; rfl) (by unfold maxLen; omega) (by omega) (by simp; omega) ?_; intro v1 w1 hown1 hgrow1 _)
                have hb1 := (hbK.alloc hszK (Obj.cells #[Value.int .i64 (wrap64 (wrap64 (wrap64 (((k : Int) + 1) * (eulRow q)[k])) + wrap64 (((q : Int) + 1 - (k : Int)) * (eulRow q)[k - 1])))] 3)).grown hgrow1 (by simp; omega) (by intro g hg; exact ((hownK.lt g hg).1))
                have hS2 : w1.ownsRow wo.heap.size 3 1 v1 (k + 1) (((List.range (k + 1)).map (eulX (eulRow q) (q + 1))).map (Value.int .i64)) := by rw [hX.out]; simpa using hown1
                obtain ⟨A1, cc, rfl, _, _⟩ := own_shape hS2
                have hH1 := Lib.hid hS2
                have hH2 := Lib.hid hb1
                clear hS2 hown1 hgrow1 hb1 hownK hbK
                go_wp2
                go_roundw
                case rel => exact ⟨k + 1, A1, cc, by omega, by go_num, rfl, hH1.out, hH2.out⟩
                case measure => simp [intOf]; omega
              · 
                have hX := Lib.hid (show (List.range (k + 1)).map (eulX (eulRow q) (q + 1)) = (List.range k).map (eulX (eulRow q) (q + 1)) ++ [wrap64 (wrap64 (((k : Int) + 1) * (eulRow q)[k]))] by
                  rw [List.range_succ, List.map_append]; congr 1; simp only [List.map_cons, List.map_nil]; congr 1; rw [eulX, if_neg h2, eulA, dif_pos hkl])
                clear hc
                go_wp2_with (at_builtin; refine wpList_append_own _ rfl _ _ 24 rfl (wo.heap.size) 3 i0 (.int .i64 0) 1 8 Try.underlying24 hi hz0 hz1 hz2 rfl (by decide) _ _ _ rfl (World.ownsRow.alloc hownK _) ⟨wr.heap.size, 0, none⟩ 1 1 [.int .i64 (wrap64 (wrap64 (((k : Int) + 1) * (eulRow q)[k])))] rfl rfl (cell_one_new _ _ _) (by intro u hu; simp at hu; subst hu; rfl) (by unfold maxLen; omega) (by omega) (by simp; omega) ?_; intro v1 w1 hown1 hgrow1 _)
                have hb1 := (hbK.alloc hszK (Obj.cells #[Value.int .i64 (wrap64 (wrap64 (((k : Int) + 1) * (eulRow q)[k])))] 3)).grown hgrow1 (by simp; omega) (by intro g hg; exact ((hownK.lt g hg).1))
                have hS2 : w1.ownsRow wo.heap.size 3 1 v1 (k + 1) (((List.range (k + 1)).map (eulX (eulRow q) (q + 1))).map (Value.int .i64)) := by rw [hX.out]; simpa using hown1
                obtain ⟨A1, cc, rfl, _, _⟩ := own_shape hS2
                have hH1 := Lib.hid hS2
                have hH2 := Lib.hid hb1
                clear hS2 hown1 hgrow1 hb1 hownK hbK
                go_wp2
                go_roundw
                case rel => exact ⟨k + 1, A1, cc, by omega, by go_num, rfl, hH1.out, hH2.out⟩
                case measure => simp [intOf]; omega
            · have h2 : 0 < k := by omega
              have c2 := hc (k - 1) (by omega)
              have hkl2 : k - 1 < (eulRow q).length := by omega
              have hkl : ¬ k < (eulRow q).length := by omega
              have hX := Lib.hid (show (List.range (k + 1)).map (eulX (eulRow q) (q + 1)) = (List.range k).map (eulX (eulRow q) (q + 1)) ++ [wrap64 (wrap64 (((q : Int) + 1 - (k : Int)) * (eulRow q)[k - 1]))] by
                rw [List.range_succ, List.map_append]; congr 1; simp only [List.map_cons, List.map_nil]; congr 1; rw [eulX, if_pos h2, eulA, dif_neg hkl, List.getElem?_eq_getElem hkl2, Int.zero_add]; rfl)
              clear hc
              go_wp2_with (at_builtin; refine wpList_append_own _ rfl _ _ 24 rfl (wo.heap.size) 3 i0 (.int .i64 0) 1 8 Try.underlying24 hi hz0 hz1 hz2 rfl (by decide) _ _ _ rfl (World.ownsRow.alloc hownK _) ⟨wr.heap.size, 0, none⟩ 1 1 [.int .i64 (wrap64 (wrap64 (((q : Int) + 1 - (k : Int)) * (eulRow q)[k - 1])))] rfl rfl (cell_one_new _ _ _) (by intro u hu; simp at hu; subst hu; rfl) (by unfold maxLen; omega) (by omega) (by simp; omega) ?_; intro v1 w1 hown1 hgrow1 _)
              have hb1 := (hbK.alloc hszK (Obj.cells #[Value.int .i64 (wrap64 (wrap64 (((q : Int) + 1 - (k : Int)) * (eulRow q)[k - 1])))] 3)).grown hgrow1 (by simp; omega) (by intro g hg; exact ((hownK.lt g hg).1))
              have hS2 : w1.ownsRow wo.heap.size 3 1 v1 (k + 1) (((List.range (k + 1)).map (eulX (eulRow q) (q + 1))).map (Value.int .i64)) := by rw [hX.out]; simpa using hown1
              obtain ⟨A1, cc, rfl, _, _⟩ := own_shape hS2
              have hH1 := Lib.hid hS2
              have hH2 := Lib.hid hb1
              clear hS2 hown1 hgrow1 hb1 hownK hbK
              go_wp2
              go_roundw
              case rel => exact ⟨k + 1, A1, cc, by omega, by go_num, rfl, hH1.out, hH2.out⟩
              case measure => simp [intOf]; omega
          · obtain rfl : k = q + 1 := by omega
            have hS := Lib.hid (eulRow_succ q hq1)
            have hbw := Lib.hid (hb.trans (hbK.mono hsz))
            have hO := Lib.hid (own_mono hownK hsz)
            clear hownK hbK
            go_wp2
            go_roundw
            case rel => exact ⟨q + 1, _, _, by omega, by omega, by go_num, rfl, by rw [hS.out]; exact hO.out, hbw.out⟩
            case measure => simp [intOf]; omega
      · obtain rfl : q = m := by omega
        clear hlen
        go_wp2
        go_ret
        rw [HG.out]
        obtain ⟨_, _, he, h1, h2⟩ := own_shape hown
        injection he with _ _ hcc
        subst hcc
        have hL := eulRow_length q hq1
        refine ⟨A, c, by rw [hL]; rfl, by rw [hL]; exact h1, h2, by rw [hL]; exact hown, hb⟩
  · have HV := Lib.hid (show eulG n = [] by rw [eulG, if_neg h])
    have hd1 : decide (1 ≤ n ∧ n ≤ 12) = false := by rw [decide_eq_false_iff_not]; exact h
    clear h
    go_enter Try.func45, Try.ntmps45
    go_wp2_with (go_at_call 87; refine (l1In_any _ _ _ _).mono ?_; rintro e w' ⟨rfl, rfl⟩)
    go_ret
    rw [HV.out]
    exact ⟨_, _, rfl, Nat.le_refl _, Nat.zero_le _, World.ownsRow_lit w #[] 0 (Nat.le_refl _) (Nat.zero_le _) rfl, (Below.refl _ _).alloc (Nat.le_refl _) _⟩

theorem eul_set (f : Nat → Int) (k m : Nat) (x y : Int) (_ : k < m) (hx : x = f k) : ((List.range k).map f ++ y :: List.replicate (m - (k + 1)) 0).set k x = (List.range (k + 1)).map f ++ List.replicate (m - (k + 1)) 0 := by
  subst hx
  rw [List.range_succ]
  simp
theorem eul_rep (f : Nat → Int) (k m : Nat) (h : k < m) : (List.range k).map f ++ List.replicate (m - k) 0 = (List.range k).map f ++ 0 :: List.replicate (m - (k + 1)) 0 := by
  rw [show m - k = (m - (k + 1)) + 1 by omega, List.replicate_succ]
theorem eul_get (f : Nat → Int) (k m : Nat) (y : Int) (hk : k < ((List.range k).map f ++ y :: List.replicate (m - (k + 1)) 0).length) : ((List.range k).map f ++ y :: List.replicate (m - (k + 1)) 0)[k] = y := by
  simp
theorem eul_one (f : Nat → Int) (k m : Nat) (y z : Int) : ((List.range k).map f ++ y :: List.replicate (m - (k + 1)) 0).set k z = (List.range k).map f ++ z :: List.replicate (m - (k + 1)) 0 := by
  simp

set_option maxHeartbeats 1600000 in
theorem euler_impl (n : Int) (_ : -9223372036854775808 ≤ n ∧ n ≤ 9223372036854775807) (w : World) : Calls Try.prog 25 #[.int .i64 n] w (Ret (Value.int .i64) 3 w (eulG n)) := by
  obtain ⟨i0, hi, hz0, hz1, hz2⟩ := info_parts infoI
  by_cases h : 1 ≤ n ∧ n ≤ 12
  · obtain ⟨a1, a2⟩ := h
    obtain ⟨m, rfl⟩ := Int.eq_ofNat_of_zero_le (show 0 ≤ n by omega)
    have HG := Lib.hid (show eulG m = eulRow m by rw [eulG, if_pos ⟨a1, a2⟩]; rfl)
    go_enter Try.func25, Try.ntmps25
    go_wp2
    have hown0 : (w.alloc (.cells #[.int .i64 1] 3)).ownsRow w.heap.size 3 1 (.slice (some ⟨w.heap.size, 0, none⟩) 1 1) 1 ((eulRow 1).map (Value.int .i64)) := World.ownsRow_lit w _ 1 (Nat.le_refl _) (by unfold maxLen; omega) rfl
    have hb0 := (Below.refl w.heap.size w).alloc (Nat.le_refl _) (.cells #[.int .i64 1] 3)
    go_loopw [3, 4] (fun v i wr => ∃ (q : Nat) (A : Option Addr) (c : Nat), 1 ≤ q ∧ q ≤ m ∧ i = .int .i64 ((q : Int) + 1) ∧ v = .slice A q c ∧ wr.ownsRow w.heap.size 3 1 (.slice A q c) q ((eulRow q).map (Value.int .i64)) ∧ Below w.heap.size w wr) (fun _ i _ => m + 1 - (intOf i).toNat)
    case atStart => exact ⟨1, _, _, Nat.le_refl _, by omega, rfl, rfl, hown0, hb0⟩
    case round =>
      clear hown0 hb0
      obtain ⟨q, A, c, hq1, hq, rfl, rfl, hown, hb⟩ := hrel
      have hsz := hb.size
      have hlen := eulRow_length q hq1
      rcases Nat.lt_or_ge q m with hlt | hge
      · have hrd : Rd (Value.int .i64) wr wr.heap.size A (eulRow q) := Rd.of_own (by rw [hlen]; exact hown)
        have hLEN := Lib.hid hlen
        have hdq : decide ((q : Int) + 1 ≤ (m : Int)) = true := by simp; omega
        clear hlen
        obtain ⟨wo, rfl⟩ : ∃ wo : World, wo = wr := ⟨_, rfl⟩
        go_wp2_with (at_make; refine wpList_make_full _ rfl _ _ 24 rfl (w.heap.size) 3 i0 (.int .i64 0) 1 Try.underlying24 hi hz0 hz1 .i64 .i64 _ _ (q + 1) rfl rfl (by omega) (by omega) (by rw [hz2]; omega) (by unfold maxLen; omega) (by omega) ?_; intro w1 hown1 hgrow1)
        have hownZ := made_zeros hown1
        have hbo := below_none hgrow1
        clear hown1 hgrow1
        go_wp2
        go_loopw [23] (fun i wi => ∃ k : Nat, k ≤ q + 1 ∧ i = .int .i64 k ∧ wi.ownsRow w.heap.size 3 1 (.slice (some ⟨wo.heap.size, 0, none⟩) (q + 1) (q + 1)) (q + 1) (((List.range k).map (eulX (eulRow q) (q + 1)) ++ List.replicate (q + 1 - k) 0).map (Value.int .i64)) ∧ Below wo.heap.size wo wi) (fun i _ => q + 1 - (intOf i).toNat)
        case atStart => exact ⟨0, Nat.zero_le _, rfl, by simpa using hownZ, hbo⟩
        case round =>
          clear hownZ hbo
          obtain ⟨k, hk, rfl, hownK, hbK⟩ := hrel
          rcases Nat.lt_or_ge k (q + 1) with hk2 | hk2
          · obtain ⟨b, off, rfl, hbb, hc⟩ := (hrd.below hbK) (by rw [hLEN.out]; omega)
            have hlq : q ≤ (eulRow q).length := Nat.le_of_eq hLEN.out.symm
            have hlq2 : (eulRow q).length ≤ q := Nat.le_of_eq hLEN.out
            rw [eul_rep _ k (q + 1) hk2] at hownK
            have hkL : k < ((List.range k).map (eulX (eulRow q) (q + 1)) ++ 0 :: List.replicate (q + 1 - (k + 1)) 0).length := by simp
            by_cases h1 : k < q
            · have c1 := hc k (by omega)
              have hkl : k < (eulRow q).length := by omega
              obtain ⟨p1, p2, p3⟩ := own_put hownK k hkL (wrap64 (wrap64 (((k : Int) + 1) * (eulRow q)[k])))
              rw [eul_get] at p1
              rw [eul_one] at p3
              have b2 := hbK.setCell (p := ⟨wo.heap.size, k, none⟩) (Nat.le_refl _) (.int .i64 (wrap64 (wrap64 (((k : Int) + 1) * (eulRow q)[k]))))
              by_cases h2 : 0 < k
              · have c2 := hc (k - 1) (by omega)
                have c3 : (wr.setCell ⟨wo.heap.size, k, none⟩ (.int .i64 (wrap64 (wrap64 (((k : Int) + 1) * (eulRow q)[k]))))).cell? ⟨b, off + (k - 1), none⟩ = some (.int .i64 (eulRow q)[k - 1]) := by
                  rw [World.cell?_setCell_other _ _ _ _ (by intro e; injection e; omega)]; exact c2
                have hkl2 : k - 1 < (eulRow q).length := by omega
                have hkM : k < ((List.range k).map (eulX (eulRow q) (q + 1)) ++ (wrap64 (wrap64 (((k : Int) + 1) * (eulRow q)[k]))) :: List.replicate (q + 1 - (k + 1)) 0).length := by simp
                obtain ⟨s1, s2, s3⟩ := own_put p3 k hkM (wrap64 (wrap64 (wrap64 (((k : Int) + 1) * (eulRow q)[k])) + wrap64 (((q : Int) + 1 - (k : Int)) * (eulRow q)[k - 1])))
                rw [eul_get] at s1
                rw [eul_set _ k (q + 1) _ _ hk2 (by rw [eulX, if_pos h2, eulA, dif_pos hkl, List.getElem?_eq_getElem hkl2]; rfl)] at s3
                have e1 : IntKind.i64.wrap ((q : Int) + 1 - (k : Int)) = (q : Int) + 1 - (k : Int) := IntWalk.i64_in _ (by omega)
                have e2 : IntKind.i64.wrap ((k : Int) - 1) = (k : Int) - 1 := IntWalk.i64_in _ (by omega)
                have e3 : 0 ≤ (k : Int) - 1 := by omega
                have e4 : ((k : Int) - 1).toNat = k - 1 := by omega
                have e5 : (k : Int) - 1 < (q : Int) := by omega
                have e7 : 1 ≤ (k : Int) := by omega
                have e8 : (k : Int) ≤ (q : Int) := by omega
                have e9 : (k : Int) < (q : Int) + 1 := by omega
                have e10 : 0 < (k : Int) := by omega
                have e11 : 1 ≤ k := by omega
                have e12 : k ≤ q := by omega
                have e6 : IntKind.i64.wrap ((k : Int) + 1) = (k : Int) + 1 := IntWalk.i64_in _ (by omega)
                clear hc hownK hbK hkL hkM
                go_wp2
                go_still_tail 13, (by kernel_rfl)
                go_wp2
                obtain ⟨W2, hW2⟩ : ∃ W2 : World, W2 = ((wr.setCell ⟨wo.heap.size, k, none⟩ (.int .i64 (wrap64 (wrap64 (((k : Int) + 1) * (eulRow q)[k]))))).drew) := ⟨_, rfl⟩
                have s1 : W2.cell? ⟨wo.heap.size, k, none⟩ = some (.int .i64 (wrap64 (wrap64 (((k : Int) + 1) * (eulRow q)[k])))) := by rw [hW2]; exact s1
                have s2 : W2.frozen? ⟨wo.heap.size, k, none⟩ = false := by rw [hW2]; exact s2
                have c3 : W2.cell? ⟨b, off + (k - 1), none⟩ = some (.int .i64 (eulRow q)[k - 1]) := by rw [hW2]; exact c3
                have S3 := Lib.hid (show (W2.setCell ⟨wo.heap.size, k, none⟩ (.int .i64 (wrap64 (wrap64 (wrap64 (((k : Int) + 1) * (eulRow q)[k])) + wrap64 (((q : Int) + 1 - (k : Int)) * (eulRow q)[k - 1]))))).ownsRow w.heap.size 3 1 (.slice (some ⟨wo.heap.size, 0, none⟩) (q + 1) (q + 1)) (q + 1) (((List.range (k + 1)).map (eulX (eulRow q) (q + 1)) ++ List.replicate (q + 1 - (k + 1)) 0).map (Value.int .i64)) by rw [hW2]; exact s3)
                have B3 := Lib.hid ((below_dr b2 (Dr.of _ 1)).setCell (p := ⟨wo.heap.size, k, none⟩) (Nat.le_refl _) (.int .i64 (wrap64 (wrap64 (wrap64 (((k : Int) + 1) * (eulRow q)[k])) + wrap64 (((q : Int) + 1 - (k : Int)) * (eulRow q)[k - 1])))))
                have B4 := Lib.hid (show Below wo.heap.size wo (W2.setCell ⟨wo.heap.size, k, none⟩ (.int .i64 (wrap64 (wrap64 (wrap64 (((k : Int) + 1) * (eulRow q)[k])) + wrap64 (((q : Int) + 1 - (k : Int)) * (eulRow q)[k - 1]))))) by rw [hW2]; exact B3.out)
                rw [← hW2]
                clear hW2 p1 p2 p3 b2 s3 B3 c1 c2
                go_still_tail 15, (by kernel_rfl)
                go_wp2
                go_roundw
                case rel => exact ⟨k + 1, by omega, by go_num, S3.out, below_dr B4.out (Dr.of _ 1)⟩
                case measure => simp [intOf]; omega
              · have hX : (List.range (k + 1)).map (eulX (eulRow q) (q + 1)) ++ List.replicate (q + 1 - (k + 1)) 0 = (List.range k).map (eulX (eulRow q) (q + 1)) ++ (wrap64 (wrap64 (((k : Int) + 1) * (eulRow q)[k]))) :: List.replicate (q + 1 - (k + 1)) 0 := by
                  rw [List.range_succ, List.map_append, List.append_assoc]; simp [eulX, h2, eulA, hkl]
                have hX2 := Lib.hid hX
                have P3 := Lib.hid p3
                have B2 := Lib.hid b2
                have e6 : IntKind.i64.wrap ((k : Int) + 1) = (k : Int) + 1 := IntWalk.i64_in _ (by omega)
                clear hc p3 b2 hownK hbK hkL hX
                go_wp2
                go_still_tail 13, (by kernel_rfl)
                go_wp2
                go_roundw
                case rel => exact ⟨k + 1, by omega, by go_num, by rw [hX2.out]; exact P3.out, below_dr B2.out (Dr.of _ 1)⟩
                case measure => simp [intOf]; omega
            · have h2 : 0 < k := by omega
              have c2 := hc (k - 1) (by omega)
              have hkl2 : k - 1 < (eulRow q).length := by omega
              have hkl : ¬ k < (eulRow q).length := by omega
              obtain ⟨p1, p2, p3⟩ := own_put hownK k hkL (wrap64 (wrap64 (((q : Int) + 1 - (k : Int)) * (eulRow q)[k - 1])))
              rw [eul_get] at p1
              rw [eul_set _ k (q + 1) _ _ hk2 (by rw [eulX, if_pos h2, eulA, dif_neg hkl, List.getElem?_eq_getElem hkl2, Int.zero_add]; rfl)] at p3
              have P3 := Lib.hid p3
              have B2 := Lib.hid (hbK.setCell (p := ⟨wo.heap.size, k, none⟩) (Nat.le_refl _) (.int .i64 (wrap64 (wrap64 (((q : Int) + 1 - (k : Int)) * (eulRow q)[k - 1])))))
              have e1 : IntKind.i64.wrap ((q : Int) + 1 - (k : Int)) = (q : Int) + 1 - (k : Int) := IntWalk.i64_in _ (by omega)
              have e2 : IntKind.i64.wrap ((k : Int) - 1) = (k : Int) - 1 := IntWalk.i64_in _ (by omega)
              have e3 : 0 ≤ (k : Int) - 1 := by omega
              have e4 : ((k : Int) - 1).toNat = k - 1 := by omega
              have e5 : (k : Int) - 1 < (q : Int) := by omega
              have e7 : 1 ≤ (k : Int) := by omega
              have e8 : (k : Int) ≤ (q : Int) := by omega
              have e9 : (k : Int) < (q : Int) + 1 := by omega
              have e10 : 0 < (k : Int) := by omega
              have e11 : 1 ≤ k := by omega
              have e12 : k ≤ q := by omega
              clear hc p3 hownK hbK hkL
              go_wp2
              go_still_tail 15, (by kernel_rfl)
              go_wp2
              go_roundw
              case rel => exact ⟨k + 1, by omega, by go_num, P3.out, below_dr B2.out (Dr.of _ 1)⟩
              case measure => simp [intOf]; omega
          · obtain rfl : k = q + 1 := by omega
            rw [Nat.sub_self, List.replicate_zero, List.append_nil] at hownK
            have hS := Lib.hid (eulRow_succ q hq1)
            have hbw := Lib.hid (hb.trans (hbK.mono hsz))
            have hO := Lib.hid hownK
            clear hownK hbK
            go_wp2
            go_roundw
            case rel => exact ⟨q + 1, _, _, by omega, by omega, by go_num, rfl, by rw [hS.out]; exact hO.out, hbw.out⟩
            case measure => simp [intOf]; omega
      · obtain rfl : q = m := by omega
        clear hlen
        go_wp2
        go_ret
        rw [HG.out]
        obtain ⟨_, _, he, h1, h2⟩ := own_shape hown
        injection he with _ _ hcc
        subst hcc
        have hL := eulRow_length q hq1
        refine ⟨A, c, by rw [hL]; rfl, by rw [hL]; exact h1, h2, by rw [hL]; exact hown, hb⟩
  · have HV := Lib.hid (show eulG n = [] by rw [eulG, if_neg h])
    by_cases h1 : n < 1
    · clear h
      go_enter Try.func25, Try.ntmps25
      go_wp2
      go_ret
      rw [HV.out]
      exact ⟨none, 0, rfl, Nat.le_refl _, Nat.zero_le _, World.ownsRow_nil _ _ _ _, Below.refl _ _⟩
    · have h2 : 12 < n := by omega
      clear h
      go_enter Try.func25, Try.ntmps25
      go_wp2
      go_ret
      rw [HV.out]
      exact ⟨none, 0, rfl, Nat.le_refl _, Nat.zero_le _, World.ownsRow_nil _ _ _ _, Below.refl _ _⟩
end Go.Proofs.Ythipikllgpnlhaa
