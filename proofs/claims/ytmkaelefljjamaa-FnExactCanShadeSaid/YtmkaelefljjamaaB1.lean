/- Counting the occurrences of a mesh: isShaded, isFree, count; l9Box, l9Fits, l9Count; CountMesh. -/
import Derived.Test.YtmkaelefljjamaaG2
import Derived.Test.YtmkaelefljjamaaG5
import Derived.Test.YtmkaelefljjamaaK2
namespace Go.Proofs.Ytmkaelefljjamaa
set_option maxRecDepth 100000
open Go Go.RowKit

def shB (X : List (List Int)) (x y : Int) : Bool := X.any fun s => decide (s = [x, y])
theorem mesh_perm {xs : List Int} {X : List (List Int)} (h : meshB xs X = true) : permB xs = true ∧ xs.length ≤ 4 := by
  unfold meshB at h
  simp only [Bool.and_eq_true, decide_eq_true_eq] at h
  exact h.1
theorem mesh_two {xs : List Int} {X : List (List Int)} (h : meshB xs X = true) : ∀ s ∈ X, s.length = 2 := fun s hs => by
  unfold meshB at h
  rw [Bool.and_eq_true] at h
  obtain ⟨i, hi, rfl⟩ := List.mem_iff_getElem.1 hs
  have := List.all_eq_true.1 h.2 i (List.mem_range.2 hi)
  unfold meshAt at this
  rw [List.getElem?_eq_getElem hi, Bool.and_eq_true] at this
  exact boxOk_two this.1

theorem call_sh (args : Array Value) (w : World) : (callFunc 126 args).run Try.prog w = .ok (.enter 126 args) w := by kernel_rfl
set_option maxHeartbeats 1000000 in
theorem sh_cl (A : Option Addr) (c g g2 : Nat) (s : List Int) (x y : Int) (w : World) (hs : In w A c s) (h2 : s.length = 2) (hg : w.cell? ⟨g, 0, none⟩ = some (.int .i64 x)) (hg2 : w.cell? ⟨g2, 0, none⟩ = some (.int .i64 y)) :
    Calls Try.prog 126 #[.slice A s.length c, .pointer (some ⟨g, 0, none⟩), .pointer (some ⟨g2, 0, none⟩)] w (Rb w (.bool (decide (s = [x, y])))) := by
  obtain ⟨a, b, rfl⟩ : ∃ a b, s = [a, b] := by
    match s, h2 with
    | [a, b], _ => exact ⟨a, b, rfl⟩
  obtain ⟨bl, off, rfl, _, hc⟩ := hs.rd (by simp)
  have c0 : w.cell? ⟨bl, off, none⟩ = some (.int .i64 a) := hc 0 (by simp)
  have c1 : w.cell? ⟨bl, off + 1, none⟩ = some (.int .i64 b) := hc 1 (by simp)
  have c00 : w.cell? ⟨bl, off + 0, none⟩ = some (.int .i64 a) := hc 0 (by simp)
  clear hc h2
  by_cases hax : a = x
  · have HD := Lib.hid (show decide ([a, b] = [x, y]) = (b == y) by rw [Bool.eq_iff_iff]; simp [hax])
    have dx : (a == x) = true := by simp [hax]
    clear hax
    go_enter Try.func126, Try.ntmps126
    go_wp2_with fail
    go_quiet (fail)
    go_wp2_with fail
    go_ret
    exact ⟨ret_bool HD.out.symm, below_dr (Below.refl _ _) (by first | with_reducible exact Dr.of _ _ | with_reducible exact Dr.of2 _ _ _ | with_reducible exact Dr.refl _ | with_reducible exact Dr.of3 _ _ _)⟩
  · have HD := Lib.hid (show decide ([a, b] = [x, y]) = false by simp [hax])
    have dx : (a == x) = false := by simp [hax]
    clear hax
    go_enter Try.func126, Try.ntmps126
    go_wp2_with fail
    go_quiet (fail)
    go_wp2_with fail
    go_ret
    exact ⟨ret_bool HD.out.symm, below_dr (Below.refl _ _) (by first | with_reducible exact Dr.of _ _ | with_reducible exact Dr.of2 _ _ _ | with_reducible exact Dr.refl _ | with_reducible exact Dr.of3 _ _ _)⟩
set_option maxHeartbeats 2000000 in
theorem isShaded_b (A B : Option Addr) (c k : Nat) (xs : List Int) (rs : List Row) (x y : Int) (w : World) (b : Bool) (h : InM w A c xs B k rs) (h2 : ∀ r ∈ rs, r.xs.length = 2) (hb : shB (rs.map Row.xs) x y = b) :
    Calls Try.prog 92 #[.agg #[.slice A xs.length c, .slice B rs.length k], .int .i64 x, .int .i64 y] w (Rb w (.bool b)) := by
  have hmf : ∀ (fn : Fn) (first cap : Array Value) (w : World), (Instr.makeFunc fn first cap).run Try.prog w = .ok (.func fn first cap) w := fun _ _ _ _ => rfl
  have HB := Lib.hid (show (rs.any fun r : Row => decide (r.xs = [x, y])) = b by rw [any_rows rs (fun s => decide (s = [x, y])), ← hb]; rfl)
  have hlen := h.2.len
  clear hb
  go_enter Try.func92, Try.ntmps92
  have hb0 : Below w.heap.size w (((w.alloc (Obj.cells #[Value.slice A xs.length c, Value.slice B rs.length k] 51)).alloc (Obj.cells #[.int .i64 x] 3)).alloc (Obj.cells #[.int .i64 y] 3)) :=
    (((Below.refl _ _).alloc (Nat.le_refl _) _).alloc (by simp) _).alloc (by simp; omega) _
  have o0 := obj_alloc (obj_alloc (obj_new w (Obj.cells #[Value.slice A xs.length c, Value.slice B rs.length k] 51)) (Obj.cells #[.int .i64 x] 3)) (Obj.cells #[.int .i64 y] 3)
  have o1 := obj_alloc (obj_new (w.alloc (Obj.cells #[Value.slice A xs.length c, Value.slice B rs.length k] 51)) (Obj.cells #[.int .i64 x] 3)) (Obj.cells #[.int .i64 y] 3)
  have o2 := obj_new ((w.alloc (Obj.cells #[Value.slice A xs.length c, Value.slice B rs.length k] 51)).alloc (Obj.cells #[.int .i64 x] 3)) (Obj.cells #[.int .i64 y] 3)
  simp only [World.size_alloc] at o1 o2
  have hz : (((w.alloc (Obj.cells #[Value.slice A xs.length c, Value.slice B rs.length k] 51)).alloc (Obj.cells #[.int .i64 x] 3)).alloc (Obj.cells #[.int .i64 y] 3)).heap.size = w.heap.size + 1 + 1 + 1 := by simp
  go_wp2_with fail
  generalize (((w.alloc (Obj.cells #[Value.slice A xs.length c, Value.slice B rs.length k] 51)).alloc (Obj.cells #[.int .i64 x] 3)).alloc (Obj.cells #[.int .i64 y] 3)) = w0 at hb0 o0 o1 o2 hz ⊢
  have hL := h.2.next hb0
  refine (containsFuncL2 B k rs 126 (w.heap.size + 1) (w.heap.size + 1 + 1) (fun s => decide (s = [x, y])) w0 (by omega) hL.read (fun args w' => call_sh args w') (fun w' j hj hb => ?_) b HB.out).mono ?_
  · exact sh_cl rs[j].A rs[j].c _ _ rs[j].xs x y w' ((hL.next hb).row (List.getElem_mem hj)) (h2 _ (List.getElem_mem hj)) ((obj_cell (obj_below o1 hb (by omega))).trans rfl) ((obj_cell (obj_below o2 hb (by omega))).trans rfl)
  · rintro e w1 ⟨rfl, hb1⟩
    go_wp2_with fail
    go_ret
    exact ⟨rfl, hb0.trans (hb1.mono hb0.size)⟩
/-- The column and the row of a place (counted from 1) for an occurrence. -/
def colN (l : List Int) (a : Int) : Nat := (l.filter fun k => decide (k < a)).length
def rowN (p l : List Int) (v : Int) : Nat := (l.filter fun k => decide (nth p (k - 1) < v)).length
def freeAt (p l : List Int) (X : List (List Int)) (i : Nat) : Bool := decide (((i : Int) + 1) ∈ l) || !shB X (colN l ((i : Int) + 1)) (rowN p l (nth p i))
def freeTo (p l : List Int) (X : List (List Int)) (k : Nat) : Bool := (List.range k).all (freeAt p l X)
theorem freeTo_succ (p l : List Int) (X : List (List Int)) (k : Nat) : freeTo p l X (k + 1) = (freeTo p l X k && freeAt p l X k) := by simp [freeTo, List.range_succ]
theorem freeTo_false {p l : List Int} {X : List (List Int)} {k m : Nat} (h : k < m) (h1 : freeAt p l X k = false) : freeTo p l X m = false := by
  unfold freeTo
  rw [List.all_eq_false]
  exact ⟨k, List.mem_range.2 h, by simp [h1]⟩
def freeB (p l : List Int) (X : List (List Int)) : Bool := freeTo p l X p.length
theorem colN_cnt (l : List Int) (a : Int) : cntTo (fun k => decide (k < a)) l l.length = colN l a := cntTo_all _ _
theorem rowN_cnt (p l : List Int) (v : Int) : cntTo (fun k => decide (nth p (k - 1) < v)) l l.length = rowN p l v := cntTo_all _ _
theorem cntTo_yes {α : Type} {H : α → Bool} {l : List α} {k : Nat} (h : k < l.length) (hh : H l[k] = true) : cntTo H l (k + 1) = cntTo H l k + 1 := by rw [cntTo_succ H l k h, if_pos hh]
theorem cntTo_no {α : Type} {H : α → Bool} {l : List α} {k : Nat} (h : k < l.length) (hh : H l[k] = false) : cntTo H l (k + 1) = cntTo H l k := by rw [cntTo_succ H l k h, if_neg (by simp [hh]), Nat.add_zero]

set_option maxHeartbeats 8000000 in
theorem isFree_b (A B : Option Addr) (c k : Nat) (xs : List Int) (rs : List Row) (C D : Option Addr) (e f : Nat) (p l : List Int) (w : World) (b : Bool) (h : InM w A c xs B k rs) (h2 : ∀ r ∈ rs, r.xs.length = 2) (hp : In w C e p) (hl : In w D f l) (hp8 : p.length ≤ 8) (hl8 : l.length ≤ 8)
    (hm : ∀ x ∈ l, 1 ≤ x ∧ x ≤ p.length) (hb : freeB p l (rs.map Row.xs) = b) :
    Calls Try.prog 125 #[.agg #[.slice A xs.length c, .slice B rs.length k], .slice C p.length e, .slice D l.length f] w (Rb w (.bool b)) := by
  have HB := Lib.hid hb
  clear hb
  go_enter Try.func125, Try.ntmps125
  have hb0 : Below w.heap.size w (w.alloc (Obj.cells #[Value.slice A xs.length c, Value.slice B rs.length k] 51)) := (Below.refl _ _).alloc (Nat.le_refl _) _
  have ob := obj_new w (Obj.cells #[Value.slice A xs.length c, Value.slice B rs.length k] 51)
  go_wp2_with fail
  generalize (w.alloc (Obj.cells #[Value.slice A xs.length c, Value.slice B rs.length k] 51)) = w0 at hb0 ob ⊢
  go_loopw [15] (fun i wr => ∃ j : Nat, j ≤ p.length ∧ i = .int .i64 j ∧ Hid (freeTo p l (rs.map Row.xs) j = true) ∧ wr.heap[w.heap.size]? = some (Obj.cells #[Value.slice A xs.length c, Value.slice B rs.length k] 51) ∧ Below w.heap.size w wr) (fun i _ => p.length - (intOf i).toNat)
  case atStart => exact ⟨0, Nat.zero_le _, rfl, Lib.hid rfl, ob, hb0⟩
  case round =>
    clear hb0 ob
    obtain ⟨j, hj, rfl, HF, ob, hb⟩ := hrel
    rcases Nat.lt_or_ge j p.length with hlt | hge
    · obtain ⟨bp, op, rfl, _, hcp⟩ := (hp.next hb).rd (by omega)
      have cp := hcp j hlt
      have hl1 := (hl.next hb).rd
      have HS := Lib.hid (freeTo_succ p l (rs.map Row.xs) j)
      have hnj : nth p (j : Int) = p[j] := by unfold nth; rw [Int.toNat_natCast, List.getElem?_eq_getElem hlt]; rfl
      have HNJ := Lib.hid hnj
      clear hnj
      go_wp2_with fail
      by_cases hmem : ((j : Int) + 1) ∈ l
      · have HT := Lib.hid (show freeTo p l (rs.map Row.xs) (j + 1) = true by rw [HS.out, HF.out]; unfold freeAt; rw [decide_eq_true hmem]; rfl)
        (with_reducible refine (contains_b D f l.length l ((j : Int) + 1) wr true rfl (by omega) hl1 (decide_eq_true hmem)).mono ?_)
        rintro e w' ⟨rfl, rfl⟩
        clear hmem
        go_wp2_with fail
        go_roundw
        case rel => exact ⟨j + 1, by omega, by go_num, HT, ob, hb⟩
        case measure => simp [intOf]; omega
      · have HFA := Lib.hid (show freeAt p l (rs.map Row.xs) j = !shB (rs.map Row.xs) (colN l ((j : Int) + 1)) (rowN p l p[j]) by unfold freeAt; rw [decide_eq_false hmem, HNJ.out]; rfl)
        (with_reducible refine (contains_b D f l.length l ((j : Int) + 1) wr false rfl (by omega) hl1 (decide_eq_false hmem)).mono ?_)
        rintro e w' ⟨rfl, rfl⟩
        clear hmem
        obtain ⟨wo, rfl⟩ : ∃ wo : World, wo = wr := ⟨_, rfl⟩
        go_wp2_with fail
        go_loopw [9, 10, 26] (fun x y i wr => ∃ u : Nat, u ≤ l.length ∧ i = .int .i64 u ∧ x = .int .i64 (cntTo (fun k => decide (k < (j : Int) + 1)) l u : Nat) ∧ y = .int .i64 (cntTo (fun k => decide (nth p (k - 1) < p[j])) l u : Nat) ∧ wr = wo) (fun _ _ i _ => l.length - (intOf i).toNat)
        case atStart => exact ⟨0, Nat.zero_le _, rfl, rfl, rfl, rfl⟩
        case round =>
          obtain ⟨u, hu, rfl, rfl, rfl, rfl⟩ := hrel
          have hx1 := cntTo_le (fun k => decide (k < (j : Int) + 1)) l u
          have hy1 := cntTo_le (fun k => decide (nth p (k - 1) < p[j])) l u
          rcases Nat.lt_or_ge u l.length with hul | hug
          · obtain ⟨bl, ol, rfl, _, hcl⟩ := hl1 (by omega)
            have hxl := hm l[u] (List.getElem_mem hul)
            obtain ⟨cu, hcu⟩ : ∃ cu : Nat, (cu : Int) + 1 = l[u] := ⟨(l[u] - 1).toNat, by omega⟩
            have hcup : cu < p.length := by omega
            have g1 := hcl u hul
            have g2 := hcp cu hcup
            rw [← hcu] at g1
            have HX := Lib.hid (show decide (l[u] < (j : Int) + 1) = decide ((cu : Int) + 1 < (j : Int) + 1) by rw [hcu])
            have HY := Lib.hid (show decide (nth p (l[u] - 1) < p[j]) = decide (p[cu] < p[j]) by
              rw [← hcu]; unfold nth; rw [Int.add_sub_cancel, Int.toNat_natCast, List.getElem?_eq_getElem hcup]; rfl)
            have e1 : IntKind.i64.wrap ((cu : Int) + 1 - 1) = (cu : Int) := by rw [Int.add_sub_cancel]; exact IntWalk.i64_in _ (by omega)
            clear hcl hxl hcu
            by_cases hx : (cu : Int) + 1 < (j : Int) + 1
            · have KX := Lib.hid (cntTo_yes (H := fun k => decide (k < (j : Int) + 1)) hul (by show decide (l[u] < (j : Int) + 1) = true; rw [HX.out]; exact decide_eq_true hx))
              by_cases hy : p[cu] < p[j]
              · have KY := Lib.hid (cntTo_yes (H := fun k => decide (nth p (k - 1) < p[j])) hul (by show decide (nth p (l[u] - 1) < p[j]) = true; rw [HY.out]; exact decide_eq_true hy))
                go_wp2_with fail
                go_roundw
                case rel => exact ⟨u + 1, by omega, by go_num, by rw [KX.out]; all_goals go_num, by rw [KY.out]; all_goals go_num, trivial⟩
                case measure => simp [intOf]; omega
              · have KY := Lib.hid (cntTo_no (H := fun k => decide (nth p (k - 1) < p[j])) hul (by show decide (nth p (l[u] - 1) < p[j]) = false; rw [HY.out]; exact decide_eq_false hy))
                go_wp2_with fail
                go_roundw
                case rel => exact ⟨u + 1, by omega, by go_num, by rw [KX.out]; all_goals go_num, by rw [KY.out], trivial⟩
                case measure => simp [intOf]; omega
            · have KX := Lib.hid (cntTo_no (H := fun k => decide (k < (j : Int) + 1)) hul (by show decide (l[u] < (j : Int) + 1) = false; rw [HX.out]; exact decide_eq_false hx))
              by_cases hy : p[cu] < p[j]
              · have KY := Lib.hid (cntTo_yes (H := fun k => decide (nth p (k - 1) < p[j])) hul (by show decide (nth p (l[u] - 1) < p[j]) = true; rw [HY.out]; exact decide_eq_true hy))
                go_wp2_with fail
                go_roundw
                case rel => exact ⟨u + 1, by omega, by go_num, by rw [KX.out], by rw [KY.out]; all_goals go_num, trivial⟩
                case measure => simp [intOf]; omega
              · have KY := Lib.hid (cntTo_no (H := fun k => decide (nth p (k - 1) < p[j])) hul (by show decide (nth p (l[u] - 1) < p[j]) = false; rw [HY.out]; exact decide_eq_false hy))
                go_wp2_with fail
                go_roundw
                case rel => exact ⟨u + 1, by omega, by go_num, by rw [KX.out], by rw [KY.out], trivial⟩
                case measure => simp [intOf]; omega
          · obtain rfl : u = l.length := by omega
            have KX := Lib.hid (colN_cnt l ((j : Int) + 1))
            have KY := Lib.hid (rowN_cnt p l p[j])
            rw [KX.out, KY.out]
            have f0 : wr.cell? ⟨w.heap.size, 0, none⟩ = some (Value.slice A xs.length c) := (obj_cell ob).trans rfl
            have f1 : wr.cell? ⟨w.heap.size, 1, none⟩ = some (Value.slice B rs.length k) := (obj_cell ob).trans rfl
            have hM : InM wr A c xs B k rs := h.next hb
            go_wp2_with fail
            by_cases hs : shB (rs.map Row.xs) (colN l ((j : Int) + 1)) (rowN p l p[j]) = true
            · have HE := Lib.hid (show freeB p l (rs.map Row.xs) = false from freeTo_false hlt (by rw [HFA.out, hs]; rfl))
              (with_reducible refine (isShaded_b A B c k xs rs _ _ wr true hM h2 hs).mono ?_)
              rintro e w1 ⟨rfl, hb1⟩
              clear hs
              go_wp2_with fail
              go_ret
              exact ⟨ret_bool (by rw [← HB.out, HE.out]), hb.trans (hb1.mono hb.size)⟩
            · have hsf : shB (rs.map Row.xs) (colN l ((j : Int) + 1)) (rowN p l p[j]) = false := by simpa using hs
              have HT := Lib.hid (show freeTo p l (rs.map Row.xs) (j + 1) = true by rw [HS.out, HF.out, HFA.out, hsf]; rfl)
              (with_reducible refine (isShaded_b A B c k xs rs _ _ wr false hM h2 hsf).mono ?_)
              rintro e w1 ⟨rfl, hb1⟩
              have ob1 := obj_below ob hb1 (obj_lt ob)
              clear hs hsf
              go_wp2_with fail
              go_roundw
              case rel => exact ⟨j + 1, by omega, by go_num, HT, ob1, hb.trans (hb1.mono hb.size)⟩
              case measure => simp [intOf]; omega
    · obtain rfl : j = p.length := by omega
      go_wp2_with fail
      go_ret
      exact ⟨ret_bool (by rw [← HB.out]; exact HF.out.symm), hb⟩
def cntM (p q : List Int) (X : List (List Int)) : Nat := ((occI p q).filter fun l => freeB p l X).length
def cmG (p xs : List Int) (X : List (List Int)) : Int := if permB p = true ∧ meshB xs X = true then (cntM p xs X : Int) else -1
theorem cntM_le {p q : List Int} {X : List (List Int)} (hp8 : p.length ≤ 8) (hq8 : q.length ≤ 8) : cntM p q X ≤ 16777216 := by
  unfold cntM
  have h1 := List.length_filter_le (fun l => freeB p l X) (occI p q)
  have h2 : (occI p q).length ≤ 16777216 := by
    unfold occI
    have h1 := List.length_filter_le (fun l => decide (patL (atL p l) = q)) (ascI p.length q.length)
    have h2 := ascI_le p.length q.length
    have h3 := pow_eight hp8 hq8
    omega
  omega
theorem mesh_ib (A B : Option Addr) (c k : Nat) (xs : List Int) (rs : List Row) (w : World) (b : Bool) (h : InM w A c xs B k rs) (hb : meshB xs (rs.map Row.xs) = b) : Calls Try.prog 88 #[.agg #[.slice A xs.length c, .slice B rs.length k]] w (Rb w (.bool b)) := by
  subst hb; exact mesh_impl A B c k xs rs w h
theorem mesh_sb (A B : Option Addr) (c k : Nat) (xs : List Int) (rs : List Row) (w : World) (b : Bool) (h : InM w A c xs B k rs) (hb : meshB xs (rs.map Row.xs) = b) : Calls Try.prog 86 #[.agg #[.slice A xs.length c, .slice B rs.length k]] w (Rb w (.bool b)) := by
  subst hb; exact mesh_spec A B c k xs rs w h
theorem rows_two {rs : List Row} {xs : List Int} (h : meshB xs (rs.map Row.xs) = true) : ∀ r ∈ rs, r.xs.length = 2 := fun r hr => mesh_two h _ (List.mem_map.2 ⟨r, hr, rfl⟩)

set_option maxHeartbeats 4000000 in
theorem count_impl (A B : Option Addr) (c k : Nat) (xs : List Int) (rs : List Row) (C : Option Addr) (e : Nat) (p : List Int) (w : World) (h : InM w A c xs B k rs) (h2 : ∀ r ∈ rs, r.xs.length = 2) (hp : In w C e p) (hp8 : p.length ≤ 8) (hx8 : xs.length ≤ 8) :
    Calls Try.prog 89 #[.agg #[.slice A xs.length c, .slice B rs.length k], .slice C p.length e] w (Rb w (.int .i64 (cntM p xs (rs.map Row.xs) : Nat))) := by
  go_enter Try.func89, Try.ntmps89
  have hb0 : Below w.heap.size w (w.alloc (Obj.cells #[Value.slice A xs.length c, Value.slice B rs.length k] 51)) := (Below.refl _ _).alloc (Nat.le_refl _) _
  have ob := obj_new w (Obj.cells #[Value.slice A xs.length c, Value.slice B rs.length k] 51)
  go_wp2_with fail
  generalize (w.alloc (Obj.cells #[Value.slice A xs.length c, Value.slice B rs.length k] 51)) = w0 at hb0 ob ⊢
  (with_reducible refine (occurrences_impl C A e c p xs w0 (hp.next hb0) (h.1.next hb0) hp8 hx8).mono ?_)
  rintro e w1 ⟨A3, c3, ls, rfl, hX, hO, hb1⟩
  have ob := obj_below ob hb1 (obj_lt ob)
  have hb := hb0.trans (hb1.mono hb0.size)
  have hRd := hO.read
  have hlen : ls.length ≤ 16777216 := by
    have h1 := List.length_filter_le (fun l => decide (patL (atL p l) = xs)) (ascI p.length xs.length)
    have h2 := ascI_le p.length xs.length
    have h3 := pow_eight hp8 hx8
    have h4 := congrArg List.length hX
    rw [List.length_map] at h4
    unfold occI at h4
    omega
  have HX := Lib.hid hX
  clear hX hO hb1 hb0
  go_wp2_with fail
  go_loopw [5, 13] (fun s i wr => ∃ j : Nat, j ≤ ls.length ∧ i = .int .i64 j ∧ s = .int .i64 (cntTo (fun r : Row => freeB p r.xs (rs.map Row.xs)) ls j : Nat) ∧ wr.heap[w.heap.size]? = some (Obj.cells #[Value.slice A xs.length c, Value.slice B rs.length k] 51) ∧ Below w1.heap.size w1 wr) (fun _ i _ => ls.length - (intOf i).toNat)
  case atStart => exact ⟨0, Nat.zero_le _, rfl, rfl, ob, Below.refl _ _⟩
  case round =>
    clear ob
    obtain ⟨j, hj, rfl, rfl, ob, hb4⟩ := hrel
    have hle := cntTo_le (fun r : Row => freeB p r.xs (rs.map Row.xs)) ls j
    have hsz4 := hb4.size
    rcases Nat.lt_or_ge j ls.length with hlt | hge
    · have hRd2 := hRd.below hb4
      obtain ⟨b, off, rfl, _, hc⟩ := hRd2.at (by omega)
      have cc := hc j hlt
      have hmem := ascI_mem (List.mem_filter.1 (map_memX HX.out (List.getElem_mem hlt))).1
      have hml : ls[j].xs.length = xs.length := hmem.1
      have hlim : ∀ x ∈ ls[j].xs, 1 ≤ x ∧ x ≤ p.length := fun x hx => by have := hmem.2.1 x hx; omega
      have hl8 : ls[j].xs.length ≤ 8 := by omega
      have hin := row_in hRd2 (List.getElem_mem hlt) (by omega) hsz4
      have hb5 := hb.trans (hb4.mono hb.size)
      have f0 : wr.cell? ⟨w.heap.size, 0, none⟩ = some (Value.slice A xs.length c) := (obj_cell ob).trans rfl
      have f1 : wr.cell? ⟨w.heap.size, 1, none⟩ = some (Value.slice B rs.length k) := (obj_cell ob).trans rfl
      have hM : InM wr A c xs B k rs := h.next hb5
      have hp2 := hp.next hb5
      clear hc hmem hml hRd2
      go_wp2_with fail
      by_cases hH : freeB p ls[j].xs (rs.map Row.xs) = true
      · have HT := Lib.hid (cntTo_yes (H := fun r : Row => freeB p r.xs (rs.map Row.xs)) hlt hH)
        (with_reducible refine (isFree_b A B c k xs rs C ls[j].A e ls[j].c p ls[j].xs wr true hM h2 hp2 hin hp8 hl8 hlim hH).mono ?_)
        rintro e w2 ⟨rfl, hb6⟩
        have ob1 := obj_below ob hb6 (obj_lt ob)
        clear hH
        go_wp2_with fail
        go_roundw
        case rel => exact ⟨j + 1, by omega, by go_num, by rw [HT.out]; all_goals go_num, ob1, hb4.trans (hb6.mono hsz4)⟩
        case measure => simp [intOf]; omega
      · have hHf : freeB p ls[j].xs (rs.map Row.xs) = false := by simpa using hH
        have HT := Lib.hid (cntTo_no (H := fun r : Row => freeB p r.xs (rs.map Row.xs)) hlt hHf)
        (with_reducible refine (isFree_b A B c k xs rs C ls[j].A e ls[j].c p ls[j].xs wr false hM h2 hp2 hin hp8 hl8 hlim hHf).mono ?_)
        rintro e w2 ⟨rfl, hb6⟩
        have ob1 := obj_below ob hb6 (obj_lt ob)
        clear hH hHf
        go_wp2_with fail
        go_roundw
        case rel => exact ⟨j + 1, by omega, by go_num, by rw [HT.out], ob1, hb4.trans (hb6.mono hsz4)⟩
        case measure => simp [intOf]; omega
    · obtain rfl : j = ls.length := by omega
      have HE := Lib.hid (show cntTo (fun r : Row => freeB p r.xs (rs.map Row.xs)) ls ls.length = cntM p xs (rs.map Row.xs) by
        rw [cntTo_all]; unfold cntM; rw [← HX.out, List.filter_map, List.length_map]; rfl)
      go_wp2_with fail
      go_ret
      exact ⟨ret_int (by rw [HE.out]), hb.trans (hb4.mono hb.size)⟩
set_option maxHeartbeats 2000000 in
theorem countMesh_impl (C : Option Addr) (e : Nat) (p : List Int) (A B : Option Addr) (c k : Nat) (xs : List Int) (rs : List Row) (w : World) (hp : In w C e p) (h : InM w A c xs B k rs) :
    Calls Try.prog 47 #[.slice C p.length e, .agg #[.slice A xs.length c, .slice B rs.length k]] w (Rb w (.int .i64 (cmG p xs (rs.map Row.xs)))) := by
  go_enter Try.func47, Try.ntmps47
  have hb0 : Below w.heap.size w (w.alloc (Obj.cells #[Value.slice A xs.length c, Value.slice B rs.length k] 51)) := (Below.refl _ _).alloc (Nat.le_refl _) _
  have ob := obj_new w (Obj.cells #[Value.slice A xs.length c, Value.slice B rs.length k] 51)
  go_wp2_with fail
  generalize (w.alloc (Obj.cells #[Value.slice A xs.length c, Value.slice B rs.length k] 51)) = w0 at hb0 ob ⊢
  by_cases hP : permB p = true
  · have H1 := Lib.hid hP
    have hp8 := (permB_true hP).1
    (with_reducible refine (isPerm_ib C e p w0 true (hp.next hb0) hP).mono ?_)
    rintro e w1 ⟨rfl, hb1⟩
    have ob := obj_below ob hb1 (obj_lt ob)
    have hb := hb0.trans (hb1.mono hb0.size)
    have f0 : w1.cell? ⟨w.heap.size, 0, none⟩ = some (Value.slice A xs.length c) := (obj_cell ob).trans rfl
    have f1 : w1.cell? ⟨w.heap.size, 1, none⟩ = some (Value.slice B rs.length k) := (obj_cell ob).trans rfl
    clear hP
    go_wp2_with fail
    by_cases hM : meshB xs (rs.map Row.xs) = true
    · have HG := Lib.hid (show cmG p xs (rs.map Row.xs) = (cntM p xs (rs.map Row.xs) : Int) by unfold cmG; rw [if_pos ⟨H1.out, hM⟩])
      have hx4 := (mesh_perm hM).2
      have h2 := rows_two hM
      (with_reducible refine (mesh_ib A B c k xs rs w1 true (h.next hb) hM).mono ?_)
      rintro e w2 ⟨rfl, hb2⟩
      have ob := obj_below ob hb2 (obj_lt ob)
      have hb := hb.trans (hb2.mono hb.size)
      have f0 : w2.cell? ⟨w.heap.size, 0, none⟩ = some (Value.slice A xs.length c) := (obj_cell ob).trans rfl
      have f1 : w2.cell? ⟨w.heap.size, 1, none⟩ = some (Value.slice B rs.length k) := (obj_cell ob).trans rfl
      clear hM
      go_wp2_with fail
      (with_reducible refine (count_impl A B c k xs rs C _ p w2 (h.next hb) h2 (hp.next hb) hp8 (by omega)).mono ?_)
      rintro e w3 ⟨rfl, hb3⟩
      go_wp2_with fail
      go_ret
      exact ⟨ret_int (by rw [HG.out]), hb.trans (hb3.mono hb.size)⟩
    · have hMf : meshB xs (rs.map Row.xs) = false := by simpa using hM
      have HG := Lib.hid (show cmG p xs (rs.map Row.xs) = -1 by unfold cmG; rw [if_neg]; exact fun h => hM h.2)
      (with_reducible refine (mesh_ib A B c k xs rs w1 false (h.next hb) hMf).mono ?_)
      rintro e w2 ⟨rfl, hb2⟩
      clear hM hMf
      go_wp2_with fail
      go_ret
      exact ⟨ret_int (by rw [HG.out]), hb.trans (hb2.mono hb.size)⟩
  · have hPf : permB p = false := by simpa using hP
    have HG := Lib.hid (show cmG p xs (rs.map Row.xs) = -1 by unfold cmG; rw [if_neg]; exact fun h => hP h.1)
    (with_reducible refine (isPerm_ib C e p w0 false (hp.next hb0) hPf).mono ?_)
    rintro e w1 ⟨rfl, hb1⟩
    clear hP hPf
    go_wp2_with fail
    go_ret
    exact ⟨ret_int (by rw [HG.out]), hb0.trans (hb1.mono hb0.size)⟩
end Go.Proofs.Ytmkaelefljjamaa
