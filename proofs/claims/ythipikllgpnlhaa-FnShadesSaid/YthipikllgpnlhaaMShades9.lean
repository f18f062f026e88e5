/- Several texts in one, each with its own head: CS, E3. No program of ours. -/
import Derived.Deep.RegionHeld3
import Derived.Deep.CutRange
import Derived.Deep.DeepCutAuto
import Derived.Test.YthipikllgpnlhaaMShades8
/- CanShade, program and reference. -/
namespace Go.Proofs.Ythipikllgpnlhaa
set_option maxRecDepth 100000
open Go Go.RowKit

theorem shB_congr {X Y : List (List Int)} (h : ∀ s, s ∈ X ↔ s ∈ Y) (x y : Int) : shB X x y = shB Y x y := by
  unfold shB
  rw [Bool.eq_iff_iff, List.any_eq_true, List.any_eq_true]
  constructor
  · rintro ⟨s, hs, e⟩; exact ⟨s, (h s).1 hs, e⟩
  · rintro ⟨s, hs, e⟩; exact ⟨s, (h s).2 hs, e⟩
theorem cntM_congr {X Y : List (List Int)} (h : ∀ s, s ∈ X ↔ s ∈ Y) (p q : List Int) : cntM p q X = cntM p q Y := by
  unfold cntM
  congr 1
  apply List.filter_congr
  intro l _
  unfold freeB freeTo
  congr 1
  funext i
  unfold freeAt
  rw [shB_congr h]
theorem shB_mem (X : List (List Int)) (x y : Int) : shB X x y = decide ([x, y] ∈ X) := by
  unfold shB
  rw [Bool.eq_iff_iff, List.any_eq_true, decide_eq_true_eq]
  constructor
  · rintro ⟨s, hs, e⟩; rw [← of_decide_eq_true e]; exact hs
  · intro h; exact ⟨_, h, decide_eq_true rfl⟩

def inBox (n : Nat) (x y : Int) : Bool := decide (0 ≤ x ∧ x ≤ n ∧ 0 ≤ y ∧ y ≤ n)
def canAt (xs : List Int) (X Y : List (List Int)) (p : List Int) : Bool := decide (0 < cntM p xs X) == decide (0 < cntM p xs Y)
def canN (xs : List Int) (X Y : List (List Int)) (n : Nat) : Bool := (permsL n).all (canAt xs X Y)
def canTo (xs : List Int) (X Y : List (List Int)) (n : Nat) : Bool := (List.range n).all (canN xs X Y)
def csB (xs : List Int) (X : List (List Int)) (x y : Int) : Bool := meshB xs X && inBox xs.length x y && !shB X x y && canTo xs X (X ++ [[x, y]]) 6
theorem canTo_succ (xs : List Int) (X Y : List (List Int)) (n : Nat) : canTo xs X Y (n + 1) = (canTo xs X Y n && canN xs X Y n) := by simp [canTo, List.range_succ]
theorem canTo_false {xs : List Int} {X Y : List (List Int)} {n m : Nat} (h : n < m) (h1 : canN xs X Y n = false) : canTo xs X Y m = false := by
  unfold canTo
  rw [List.all_eq_false]
  exact ⟨n, List.mem_range.2 h, by simp [h1]⟩
theorem canTo_congr {xs : List Int} {X Y Z : List (List Int)} (h : ∀ s, s ∈ Y ↔ s ∈ Z) (n : Nat) : canTo xs X Y n = canTo xs X Z n := by
  unfold canTo canN
  congr 1
  funext k
  congr 1
  funext p
  unfold canAt
  rw [cntM_congr h]
theorem sizeR_two {rs : List Row} (h : ∀ r ∈ rs, r.xs.length = 2) : sizeR rs = 2 * rs.length := by
  induction rs with
  | nil => rfl
  | cons a t ih =>
    have h1 := h a (by simp)
    have h2 := ih (fun r hr => h r (by simp [hr]))
    simp only [sizeR, List.map_cons, List.sum_cons, List.length_cons] at h2 ⊢
    omega
section
variable {w wc w4 wx : World} {A B : Option Addr} {c k base : Nat} {xs : List Int} {rs : List Row} {x y : Int} {g bl cap n : Nat}
theorem more_leaf (hown4 : w4.ownsRow base 24 1 (.slice (some ⟨g, 0, none⟩) (rs.length + 1) cap) (rs.length + 1) (rs.map Row.v ++ [Value.slice (some ⟨bl, 0, none⟩) 2 2])) (hrow4 : w4.heap[bl]? = some (.cells #[.int .i64 x, .int .i64 y] 3 (0, 0)))
    (hR : Read wc wc.heap.size rs [⟨B, k, rs.map Row.v⟩]) (hB : Below wc.heap.size wc wx)
    (hk : ∀ (q : Nat) (cs : Array Value) (t : TypeId), t ≠ 27 → w4.heap[q]? = some (.cells cs t (0, 0)) → wx.heap[q]? = some (.cells cs t (0, 0))) :
    Read wx wx.heap.size (rs ++ [(⟨some ⟨bl, 0, none⟩, 2, [x, y]⟩ : Row)]) [⟨some ⟨g, 0, none⟩, cap, (rs ++ [(⟨some ⟨bl, 0, none⟩, 2, [x, y]⟩ : Row)]).map Row.v⟩] := by
  have hrx := hk _ _ _ (by decide) hrow4
  have hox : wx.ownsRow base 24 1 (.slice (some ⟨g, 0, none⟩) (rs.length + 1) cap) (rs.length + 1) (rs.map Row.v ++ [Value.slice (some ⟨bl, 0, none⟩) 2 2]) := by
    refine ⟨hown4.1, ?_⟩
    rcases hown4.2 with ⟨e, _⟩ | ⟨g', cap', cur, hv, hg, hh, r⟩
    · cases e
    · exact .inr ⟨g', cap', cur, hv, hg, hk _ _ _ (by decide) hh, r⟩
  have he : (rs ++ [(⟨some ⟨bl, 0, none⟩, 2, [x, y]⟩ : Row)]).map Row.v = rs.map Row.v ++ [Value.slice (some ⟨bl, 0, none⟩) 2 2] := by simp [Row.v]
  refine ⟨fun r hr => ?_, fun r hr => ?_, fun o ho => ?_, fun o ho => ?_⟩
  · rcases List.mem_append.1 hr with hr | hr
    · exact hR.cap r hr
    · obtain rfl := List.mem_singleton.1 hr
      exact Nat.le_refl _
  · rcases List.mem_append.1 hr with hr | hr
    · exact ((hR.rd r hr).below hB).more hB.size
    · obtain rfl := List.mem_singleton.1 hr
      refine fun _ => ⟨bl, 0, rfl, obj_lt hrx, fun j hj => ?_⟩
      rw [Nat.zero_add, obj_cell hrx]
      match j, hj with
      | 0, _ => rfl
      | 1, _ => rfl
  · obtain rfl := List.mem_singleton.1 ho
    have := (own_caps hox).1
    simpa using this
  · obtain rfl := List.mem_singleton.1 ho
    have hl : (rs.map Row.v ++ [Value.slice (some ⟨bl, 0, none⟩) 2 2]).length = rs.length + 1 := by simp
    have := Rd.of_own (f := id) (xs := rs.map Row.v ++ [Value.slice (some ⟨bl, 0, none⟩) 2 2]) (e := 24) (c := cap) (A := some ⟨g, 0, none⟩) (by rw [List.map_id, hl]; exact hox)
    simp only [he]
    exact this
/-- What CanShade's second mesh is, behind the statement that makes it. -/
def MoreAt (w : World) (A B : Option Addr) (c k : Nat) (xs : List Int) (rs : List Row) (x y : Int) (s7 : Value) (wx : World) : Prop :=
  ∃ (g : Nat) (A' : Option Addr) (c' : Nat) (ms : List Row), s7 = .pointer (some ⟨g, 0, none⟩) ∧ wx.heap[g]? = some (Obj.cells #[Value.slice A xs.length c, Value.slice A' ms.length c'] 27) ∧ (∀ s, s ∈ ms.map Row.xs ↔ s ∈ rs.map Row.xs ++ [[x, y]]) ∧ ms.length = rs.length + 1 ∧ Read wx wx.heap.size ms [⟨A', c', ms.map Row.v⟩] ∧ wx.heap[w.heap.size]? = some (Obj.cells #[Value.slice A xs.length c, Value.slice B rs.length k] 27) ∧ Below w.heap.size w wx
theorem leaf_alloc (hown4 : w4.ownsRow base 24 1 (.slice (some ⟨g, 0, none⟩) (rs.length + 1) cap) (rs.length + 1) (rs.map Row.v ++ [Value.slice (some ⟨bl, 0, none⟩) 2 2])) (hrow4 : w4.heap[bl]? = some (.cells #[.int .i64 x, .int .i64 y] 3 (0, 0)))
    (hR : Read wc wc.heap.size rs [⟨B, k, rs.map Row.v⟩]) (hb4 : Below wc.heap.size wc w4) (hb : Below w.heap.size w wc) (ob : wc.heap[w.heap.size]? = some (Obj.cells #[Value.slice A xs.length c, Value.slice B rs.length k] 27)) :
    MoreAt w A B c k xs rs x y (.pointer (some ⟨w4.heap.size, 0, none⟩)) (w4.alloc (Obj.cells #[Value.slice A xs.length c, Value.slice (some ⟨g, 0, none⟩) (rs.length + 1) cap] 27)) := by
  have hbx := hb4.alloc hb4.size (Obj.cells #[Value.slice A xs.length c, Value.slice (some ⟨g, 0, none⟩) (rs.length + 1) cap] 27)
  refine ⟨w4.heap.size, some ⟨g, 0, none⟩, cap, rs ++ [⟨some ⟨bl, 0, none⟩, 2, [x, y]⟩], rfl, ?_, fun s => by simp, by simp, more_leaf hown4 hrow4 hR hbx (fun q cs t _ h => obj_alloc h _), obj_alloc (obj_below ob hb4 (obj_lt ob)) _, hb.trans (hbx.mono hb.size)⟩
  rw [List.length_append]; exact obj_new _ _
theorem leaf_set {G : Nat} {z0 z1 : Value} (hz4 : w4.heap[G]? = some (.cells #[z0, z1] 27 (0, 0))) (hG : wc.heap.size ≤ G) (hown4 : w4.ownsRow base 24 1 (.slice (some ⟨g, 0, none⟩) (rs.length + 1) cap) (rs.length + 1) (rs.map Row.v ++ [Value.slice (some ⟨bl, 0, none⟩) 2 2])) (hrow4 : w4.heap[bl]? = some (.cells #[.int .i64 x, .int .i64 y] 3 (0, 0)))
    (hR : Read wc wc.heap.size rs [⟨B, k, rs.map Row.v⟩]) (hb4 : Below wc.heap.size wc w4) (hb : Below w.heap.size w wc) (ob : wc.heap[w.heap.size]? = some (Obj.cells #[Value.slice A xs.length c, Value.slice B rs.length k] 27)) :
    MoreAt w A B c k xs rs x y (.pointer (some ⟨G, 0, none⟩)) ((w4.setCell ⟨G, 0, none⟩ (Value.slice A xs.length c)).setCell ⟨G, 1, none⟩ (Value.slice (some ⟨g, 0, none⟩) (rs.length + 1) cap)) := by
  have hbx := (hb4.setCell (p := ⟨G, 0, none⟩) hG (Value.slice A xs.length c)).setCell (p := ⟨G, 1, none⟩) hG (Value.slice (some ⟨g, 0, none⟩) (rs.length + 1) cap)
  have hlt := obj_lt ob
  refine ⟨G, some ⟨g, 0, none⟩, cap, rs ++ [⟨some ⟨bl, 0, none⟩, 2, [x, y]⟩], rfl, ?_, fun s => by simp, by simp, more_leaf hown4 hrow4 hR hbx (fun q cs t ht h => ?_), obj_other (obj_other (obj_below ob hb4 hlt) (by omega) _) (by omega) _, hb.trans (hbx.mono hb.size)⟩
  · rw [List.length_append]; exact obj_set (i := 1) (obj_set (i := 0) hz4 _) _
  · have hne : G ≠ q := fun e => by
      subst e
      rw [hz4] at h
      injection h with h
      injection h with _ h2 _
      exact ht h2.symm
    exact obj_other (obj_other h hne _) hne _
end
set_option maxHeartbeats 8000000 in
theorem canShade_impl (A B : Option Addr) (c k : Nat) (xs : List Int) (rs : List Row) (x : Int) (wx : -9223372036854775808 ≤ x ∧ x ≤ 9223372036854775807) (y : Int) (wy : -9223372036854775808 ≤ y ∧ y ≤ 9223372036854775807) (w : World) (h : InM w A c xs B k rs) :
    Calls Try.prog 69 #[.agg #[.slice A xs.length c, .slice B rs.length k], .int .i64 x, .int .i64 y] w (Rb w (.bool (csB xs (rs.map Row.xs) x y))) := by
  obtain ⟨j0, hj, hy0, hy1, hy2⟩ := info_parts infoL
  go_enter Try.func69, Try.ntmps69
  have hb0 : Below w.heap.size w (w.alloc (Obj.cells #[Value.slice A xs.length c, Value.slice B rs.length k] 27)) := (Below.refl _ _).alloc (Nat.le_refl _) _
  have ob := obj_new w (Obj.cells #[Value.slice A xs.length c, Value.slice B rs.length k] 27)
  have f00 : (w.alloc (Obj.cells #[Value.slice A xs.length c, Value.slice B rs.length k] 27)).cell? ⟨w.heap.size, 0, none⟩ = some (Value.slice A xs.length c) := (obj_cell ob).trans rfl
  have f01 : (w.alloc (Obj.cells #[Value.slice A xs.length c, Value.slice B rs.length k] 27)).cell? ⟨w.heap.size, 1, none⟩ = some (Value.slice B rs.length k) := (obj_cell ob).trans rfl
  go_upto_region 1 with fail
  generalize (w.alloc (Obj.cells #[Value.slice A xs.length c, Value.slice B rs.length k] 27)) = w0 at hb0 ob f00 f01 ⊢
  go_cut [34] (fun s wq => s = .bool (!(meshB xs (rs.map Row.xs) && inBox xs.length x y && !shB (rs.map Row.xs) x y)) ∧ wq.heap[w.heap.size]? = some (Obj.cells #[Value.slice A xs.length c, Value.slice B rs.length k] 27) ∧ Below w.heap.size w wq)
  case first =>
    go_wp2_with fail
    by_cases hM : meshB xs (rs.map Row.xs) = true
    · have H1 := Lib.hid hM
      have H2 := Lib.hid (rows_two hM)
      (with_reducible refine (mesh_ib A B c k xs rs w0 true (h.next hb0) hM).mono ?_)
      rintro e w1 ⟨rfl, hb1⟩
      have ob := obj_below ob hb1 (obj_lt ob)
      have hb := hb0.trans (hb1.mono hb0.size)
      have f10 : w1.cell? ⟨w.heap.size, 0, none⟩ = some (Value.slice A xs.length c) := (obj_cell ob).trans rfl
      have f11 : w1.cell? ⟨w.heap.size, 1, none⟩ = some (Value.slice B rs.length k) := (obj_cell ob).trans rfl
      clear hM f00 f01
      by_cases hyx : y < x
      · have hxy : ¬ x < y := by omega
        by_cases h1 : y < 0
        · have d1 : decide (y < 0) = true := decide_eq_true h1
          have HI := Lib.hid (show inBox xs.length x y = false by unfold inBox; exact decide_eq_false (by omega))
          go_wp2_with fail
          go_meet
          case rel => exact ⟨by rw [H1.out, HI.out]; rfl, ob, hb⟩
        · have d1 : decide (y < 0) = false := decide_eq_false h1
          by_cases h2 : (xs.length : Int) < x
          · have d2 : decide ((xs.length : Int) < x) = true := decide_eq_true h2
            have HI := Lib.hid (show inBox xs.length x y = false by unfold inBox; exact decide_eq_false (by omega))
            go_wp2_with fail
            go_meet
            case rel => exact ⟨by rw [H1.out, HI.out]; rfl, ob, hb⟩
          · have d2 : decide ((xs.length : Int) < x) = false := decide_eq_false h2
            have HI := Lib.hid (show inBox xs.length x y = true by unfold inBox; exact decide_eq_true (by omega))
            go_wp2_with fail
            (with_reducible refine (isShaded_b A B c k xs rs x y w1 _ (h.next hb) H2.out rfl).mono ?_)
            rintro e w2 ⟨rfl, hb2⟩
            have ob := obj_below ob hb2 (obj_lt ob)
            go_wp2_with fail
            go_meet
            case rel => exact ⟨by rw [H1.out, HI.out]; simp, ob, hb.trans (hb2.mono hb.size)⟩
      · by_cases hxy : x < y
        · have hxy' := hxy
          by_cases h1 : x < 0
          · have d1 : decide (x < 0) = true := decide_eq_true h1
            have HI := Lib.hid (show inBox xs.length x y = false by unfold inBox; exact decide_eq_false (by omega))
            go_wp2_with fail
            go_meet
            case rel => exact ⟨by rw [H1.out, HI.out]; rfl, ob, hb⟩
          · have d1 : decide (x < 0) = false := decide_eq_false h1
            by_cases h2 : (xs.length : Int) < y
            · have d2 : decide ((xs.length : Int) < y) = true := decide_eq_true h2
              have HI := Lib.hid (show inBox xs.length x y = false by unfold inBox; exact decide_eq_false (by omega))
              go_wp2_with fail
              go_meet
              case rel => exact ⟨by rw [H1.out, HI.out]; rfl, ob, hb⟩
            · have d2 : decide ((xs.length : Int) < y) = false := decide_eq_false h2
              have HI := Lib.hid (show inBox xs.length x y = true by unfold inBox; exact decide_eq_true (by omega))
              go_wp2_with fail
              (with_reducible refine (isShaded_b A B c k xs rs x y w1 _ (h.next hb) H2.out rfl).mono ?_)
              rintro e w2 ⟨rfl, hb2⟩
              have ob := obj_below ob hb2 (obj_lt ob)
              go_wp2_with fail
              go_meet
              case rel => exact ⟨by rw [H1.out, HI.out]; simp, ob, hb.trans (hb2.mono hb.size)⟩
        · have hee : y = x := by omega
          subst hee
          by_cases h1 : y < 0
          · have d1 : decide (y < 0) = true := decide_eq_true h1
            have HI := Lib.hid (show inBox xs.length y y = false by unfold inBox; exact decide_eq_false (by omega))
            go_wp2_with fail
            go_meet
            case rel => exact ⟨by rw [H1.out, HI.out]; rfl, ob, hb⟩
          · have d1 : decide (y < 0) = false := decide_eq_false h1
            by_cases h2 : (xs.length : Int) < y
            · have d2 : decide ((xs.length : Int) < y) = true := decide_eq_true h2
              have HI := Lib.hid (show inBox xs.length y y = false by unfold inBox; exact decide_eq_false (by omega))
              go_wp2_with fail
              go_meet
              case rel => exact ⟨by rw [H1.out, HI.out]; rfl, ob, hb⟩
            · have d2 : decide ((xs.length : Int) < y) = false := decide_eq_false h2
              have HI := Lib.hid (show inBox xs.length y y = true by unfold inBox; exact decide_eq_true (by omega))
              go_wp2_with fail
              (with_reducible refine (isShaded_b A B c k xs rs y y w1 _ (h.next hb) H2.out rfl).mono ?_)
              rintro e w2 ⟨rfl, hb2⟩
              have ob := obj_below ob hb2 (obj_lt ob)
              go_wp2_with fail
              go_meet
              case rel => exact ⟨by rw [H1.out, HI.out]; simp, ob, hb.trans (hb2.mono hb.size)⟩
    · have hMf : meshB xs (rs.map Row.xs) = false := by simpa using hM
      have H1 := Lib.hid hMf
      (with_reducible refine (mesh_ib A B c k xs rs w0 false (h.next hb0) hMf).mono ?_)
      rintro e w1 ⟨rfl, hb1⟩
      have ob := obj_below ob hb1 (obj_lt ob)
      clear hM hMf f00 f01
      go_wp2_with fail
      go_meet
      case rel => exact ⟨by rw [H1.out]; rfl, ob, hb0.trans (hb1.mono hb0.size)⟩
  case rest =>
    obtain ⟨rfl, ob, hb⟩ := hcut
    by_cases hA : (meshB xs (rs.map Row.xs) && inBox xs.length x y && !shB (rs.map Row.xs) x y) = true
    · have HA := Lib.hid hA
      have hM : meshB xs (rs.map Row.xs) = true := by rw [Bool.and_eq_true, Bool.and_eq_true] at hA; exact hA.1.1
      have hx4 := (mesh_perm hM).2
      have HP1 := Lib.hid (mesh_perm hM).1
      have H2 := Lib.hid (rows_two hM)
      have hl25 := mesh_len hM
      rw [List.length_map] at hl25
      rw [hA]
      have HG := Lib.hid (show csB xs (rs.map Row.xs) x y = canTo xs (rs.map Row.xs) (rs.map Row.xs ++ [[x, y]]) 6 by unfold csB; rw [HA.out, Bool.true_and])
      clear hA hM
      go_upto_region 3 with fail
      have f10 : wc.cell? ⟨w.heap.size, 0, none⟩ = some (Value.slice A xs.length c) := (obj_cell ob).trans rfl
      have f11 : wc.cell? ⟨w.heap.size, 1, none⟩ = some (Value.slice B rs.length k) := (obj_cell ob).trans rfl
      have hbs := hb.size
      have hblt := obj_lt ob
      have hr0 : Rd Row.v wc wc.heap.size B rs := read_rows (h.next hb).2.read
      have hrn : rs.length ≤ 1048576 := by omega
      have KB : ∀ (v v' : World), (v.cell? ⟨w.heap.size, 0, none⟩ = some (Value.slice A xs.length c) ∧ v.cell? ⟨w.heap.size, 1, none⟩ = some (Value.slice B rs.length k) ∧ Below wc.heap.size wc v) → Below v.heap.size v v' → (v'.cell? ⟨w.heap.size, 0, none⟩ = some (Value.slice A xs.length c) ∧ v'.cell? ⟨w.heap.size, 1, none⟩ = some (Value.slice B rs.length k) ∧ Below wc.heap.size wc v') := fun v v' hv hvv => by
        have hs := hv.2.2.size
        exact ⟨(hvv.cell (p := ⟨w.heap.size, 0, none⟩) (by show w.heap.size < v.heap.size; omega)).trans hv.1, (hvv.cell (p := ⟨w.heap.size, 1, none⟩) (by show w.heap.size < v.heap.size; omega)).trans hv.2.1, hv.2.2.trans (hvv.mono hs)⟩
      have RB : ∀ (v : World), (v.cell? ⟨w.heap.size, 0, none⟩ = some (Value.slice A xs.length c) ∧ v.cell? ⟨w.heap.size, 1, none⟩ = some (Value.slice B rs.length k) ∧ Below wc.heap.size wc v) → Rd Row.v v v.heap.size B rs := fun v hv => (hr0.below hv.2.2).more hv.2.2.size
      have SB : ∀ (v : World), (v.cell? ⟨w.heap.size, 0, none⟩ = some (Value.slice A xs.length c) ∧ v.cell? ⟨w.heap.size, 1, none⟩ = some (Value.slice B rs.length k) ∧ Below wc.heap.size wc v) → wc.heap.size ≤ v.heap.size := fun v hv => hv.2.2.size
      have KG : ∀ (v v' : World) (row : Option Nat), (v.cell? ⟨w.heap.size, 0, none⟩ = some (Value.slice A xs.length c) ∧ v.cell? ⟨w.heap.size, 1, none⟩ = some (Value.slice B rs.length k) ∧ Below wc.heap.size wc v) → v.grownBy v' row → (∀ g, row = some g → wc.heap.size ≤ g) → (v'.cell? ⟨w.heap.size, 0, none⟩ = some (Value.slice A xs.length c) ∧ v'.cell? ⟨w.heap.size, 1, none⟩ = some (Value.slice B rs.length k) ∧ Below wc.heap.size wc v') := fun v v' row hv hg hr => by
        have hs := hv.2.2.size
        exact ⟨(World.cell?_of_block (a := ⟨w.heap.size, 0, none⟩) (hg.block _ (show w.heap.size < v.heap.size by omega) (fun e => by have : wc.heap.size ≤ w.heap.size := hr _ e.symm; omega))).trans hv.1, (World.cell?_of_block (a := ⟨w.heap.size, 1, none⟩) (hg.block _ (show w.heap.size < v.heap.size by omega) (fun e => by have : wc.heap.size ≤ w.heap.size := hr _ e.symm; omega))).trans hv.2.1, hv.2.2.grown hg hs hr⟩
      have KS : ∀ (v : World) (G : Nat) (a b : Value), (v.cell? ⟨w.heap.size, 0, none⟩ = some (Value.slice A xs.length c) ∧ v.cell? ⟨w.heap.size, 1, none⟩ = some (Value.slice B rs.length k) ∧ Below wc.heap.size wc v) → wc.heap.size ≤ G → (((v.setCell ⟨G, 0, none⟩ a).setCell ⟨G, 1, none⟩ b).cell? ⟨w.heap.size, 0, none⟩ = some (Value.slice A xs.length c) ∧ ((v.setCell ⟨G, 0, none⟩ a).setCell ⟨G, 1, none⟩ b).cell? ⟨w.heap.size, 1, none⟩ = some (Value.slice B rs.length k) ∧ Below wc.heap.size wc ((v.setCell ⟨G, 0, none⟩ a).setCell ⟨G, 1, none⟩ b)) := fun v G a b hv hG => by
        refine ⟨?_, ?_, (hv.2.2.setCell (p := ⟨G, 0, none⟩) hG a).setCell (p := ⟨G, 1, none⟩) hG b⟩
        · refine ((World.cell?_setCell_other _ _ _ _ (fun e => by injection e with e; omega)).trans (World.cell?_setCell_other _ _ _ _ (fun e => by injection e with e; omega))).trans hv.1
        · refine ((World.cell?_setCell_other _ _ _ _ (fun e => by injection e with e; omega)).trans (World.cell?_setCell_other _ _ _ _ (fun e => by injection e with e; omega))).trans hv.2.1
      have KSH := Lib.hid KS
      have KGH := Lib.hid KG
      have KBH := Lib.hid KB
      have RBH := Lib.hid RB
      have SBH := Lib.hid SB
      clear KB RB SB KG KS
      have hR0 := (h.next hb).2.read
      go_cut [7] (fun s7 wx => MoreAt w A B c k xs rs x y s7 wx)
      case first =>
        have hS0 : wc.drew.cell? ⟨w.heap.size, 0, none⟩ = some (Value.slice A xs.length c) ∧ wc.drew.cell? ⟨w.heap.size, 1, none⟩ = some (Value.slice B rs.length k) ∧ Below wc.heap.size wc wc.drew := ⟨f10, f11, below_dr (Below.refl _ _) (Dr.refl _).drew⟩
        go_region_held3 (fun v => v.cell? ⟨w.heap.size, 0, none⟩ = some (Value.slice A xs.length c) ∧ v.cell? ⟨w.heap.size, 1, none⟩ = some (Value.slice B rs.length k) ∧ Below wc.heap.size wc v)
          (first
            | exact hS0
            | exact hS4
            | exact KSH.out _ _ _ _ hS4 hG
            | exact KBH.out _ _ (by assumption) hbq
            | exact KBH.out _ _ (by assumption) ((Below.refl _ _).alloc (Nat.le_refl _) _))
          ((first
            | (go_at_call 117
               (with_reducible refine (cloneL_any B k rs _ hrn (RBH.out _ (by assumption))).mono ?_)
               rintro e wq ⟨A', c', rfl, ownq0, hbq⟩
               have ownq := own_mono ownq0 (SBH.out _ (by assumption))
               clear ownq0)
            | (refine step_append_liesX _ (by rfl) _ _ _ (by rfl) wc.heap.size 24 j0 (.slice none 0 0) 1 24 Try.underlying25 hj hy0 hy1 hy2 rfl (by decide) (Value.slice A' rs.length c') rs.length (rs.map Row.v) (by rfl) (by ((repeat (first | exact ownq | refine World.ownsRow.alloc ?_ _ | fail)); first | done | fail)) _ _ _ [_] (by rfl) (by rfl) (World.news_of_block (cs := #[_]) (t := 24) (fr := (0, 0)) (by ((repeat (first | exact obj_newH (by (simp; first | done | fail)) | refine obj_belowS ?_ hbq | refine obj_alloc ?_ _ | fail)); first | done | fail))) (by intro u hu; simp at hu; subst hu; rfl) (by omega) (by unfold maxLen; omega) (by omega) (by have := SBH.out _ (by assumption); omega) _ (by rfl) ?_
               intro g cap w4 hownV hown4 hgrow4 hat4 hlt4
               have hS4 := KGH.out _ _ _ (by assumption) hgrow4 (fun q hq => (hownV.lt q hq).1)
               have hrow4 := rowfact (cs := #[.int .i64 x, .int .i64 y]) (t := 3) hown4 hgrow4 hownV (by decide) (by ((repeat (first | exact obj_newH (by (simp; first | done | fail)) | refine obj_belowS ?_ hbq | refine obj_alloc ?_ _ | fail)); first | done | fail))
               try (first
                 | (have hz4 := obj_grownT (G := wc.heap.size) (cs := #[.slice none 0 0, .slice none 0 0]) (t := 27) (by ((repeat (first | exact obj_newH (by (simp; first | done | fail)) | refine obj_belowS ?_ hbq | refine obj_alloc ?_ _ | fail)); first | done | fail)) hownV (by decide) hgrow4; have hG : wc.heap.size ≤ wc.heap.size := by (first | omega | (have h1 := hbq.size; simp at h1 ⊢; omega)))
                 | (have hz4 := obj_grownT (G := wc.heap.size + 1) (cs := #[.slice none 0 0, .slice none 0 0]) (t := 27) (by ((repeat (first | exact obj_newH (by (simp; first | done | fail)) | refine obj_belowS ?_ hbq | refine obj_alloc ?_ _ | fail)); first | done | fail)) hownV (by decide) hgrow4; have hG : wc.heap.size ≤ wc.heap.size + 1 := by (first | omega | (have h1 := hbq.size; simp at h1 ⊢; omega)))
                 | (have hz4 := obj_grownT (G := wc.heap.size + 2) (cs := #[.slice none 0 0, .slice none 0 0]) (t := 27) (by ((repeat (first | exact obj_newH (by (simp; first | done | fail)) | refine obj_belowS ?_ hbq | refine obj_alloc ?_ _ | fail)); first | done | fail)) hownV (by decide) hgrow4; have hG : wc.heap.size ≤ wc.heap.size + 2 := by (first | omega | (have h1 := hbq.size; simp at h1 ⊢; omega)))
                 | (have hz4 := obj_grownT (G := wq.heap.size) (cs := #[.slice none 0 0, .slice none 0 0]) (t := 27) (by ((repeat (first | exact obj_newH (by (simp; first | done | fail)) | refine obj_belowS ?_ hbq | refine obj_alloc ?_ _ | fail)); first | done | fail)) hownV (by decide) hgrow4; have hG : wc.heap.size ≤ wq.heap.size := by (first | omega | (have h1 := hbq.size; simp at h1 ⊢; omega)))
                 | (have hz4 := obj_grownT (G := wq.heap.size + 1) (cs := #[.slice none 0 0, .slice none 0 0]) (t := 27) (by ((repeat (first | exact obj_newH (by (simp; first | done | fail)) | refine obj_belowS ?_ hbq | refine obj_alloc ?_ _ | fail)); first | done | fail)) hownV (by decide) hgrow4; have hG : wc.heap.size ≤ wq.heap.size + 1 := by (first | omega | (have h1 := hbq.size; simp at h1 ⊢; omega)))
                 | (have hz4 := obj_grownT (G := wq.heap.size + 2) (cs := #[.slice none 0 0, .slice none 0 0]) (t := 27) (by ((repeat (first | exact obj_newH (by (simp; first | done | fail)) | refine obj_belowS ?_ hbq | refine obj_alloc ?_ _ | fail)); first | done | fail)) hownV (by decide) hgrow4; have hG : wc.heap.size ≤ wq.heap.size + 2 := by (first | omega | (have h1 := hbq.size; simp at h1 ⊢; omega)))
                 | fail)
               try (have cz0 := obj_cell (i := 0) hz4; have cz1 := obj_cell (i := 1) hz4; have fz0 := obj_frozen (i := 0) hz4; have fz1 := obj_frozen (i := 1) hz4))
            | fail))
        all_goals
          go_wp2_with fail
          go_meet
          case rel => first | exact leaf_alloc hown4 hrow4 hR0 hS4.2.2 hb ob | exact leaf_set hz4 hG hown4 hrow4 hR0 hS4.2.2 hb ob
      case rest =>
        obtain ⟨g1, A', c', ms, rfl, ob1, hms, hml, hRm, ob, hb⟩ := hcut
        have HMS := Lib.hid hms
        have H2m := Lib.hid (show ∀ r ∈ ms, r.xs.length = 2 from fun r hr => by
          rcases List.mem_append.1 ((hms _).1 (List.mem_map.2 ⟨r, hr, rfl⟩)) with h1 | h1
          · obtain ⟨q, hq, he⟩ := List.mem_map.1 h1
            rw [← he]; exact H2.out q hq
          · rw [List.mem_singleton.1 h1]; rfl)
        have hM0 := h.next hb
        have hM1 : InM wc A c xs A' c' ms := ⟨hM0.1, ⟨by rw [sizeR_two H2m.out]; omega, hRm⟩⟩
        have HCN := Lib.hid (fun p => cntM_congr (X := ms.map Row.xs) hms p xs)
        clear hms hRm hml
        go_wp2_with fail
        go_loopw [46] (fun i wr => ∃ n : Nat, n ≤ 6 ∧ i = .int .i64 n ∧ Hid (canTo xs (rs.map Row.xs) (rs.map Row.xs ++ [[x, y]]) n = true) ∧ wr.heap[w.heap.size]? = some (Obj.cells #[Value.slice A xs.length c, Value.slice B rs.length k] 27) ∧ wr.heap[g1]? = some (Obj.cells #[Value.slice A xs.length c, Value.slice A' ms.length c'] 27) ∧ Below wc.heap.size wc wr) (fun i _ => 6 - (intOf i).toNat)
        case atStart => exact ⟨0, Nat.zero_le _, rfl, Lib.hid rfl, ob, ob1, Below.refl _ _⟩
        case round =>
          clear ob ob1
          obtain ⟨n, hn, rfl, HT, ob, ob1, hbr⟩ := hrel
          rcases Nat.lt_or_ge n 6 with hlt | hge
          · have hn6 : n ≤ 6 := hn
            have HCS := Lib.hid (canTo_succ xs (rs.map Row.xs) (rs.map Row.xs ++ [[x, y]]) n)
            go_wp2_with fail
            (with_reducible refine (perms_impl n wr hn6).mono ?_)
            rintro e w1 ⟨A1, c1, ps, rfl, hX, hO, hb1⟩
            have ob := obj_below ob hb1 (obj_lt ob)
            have ob1 := obj_below ob1 hb1 (obj_lt ob1)
            have hbw := hbr.trans (hb1.mono hbr.size)
            have hRp := hO.read
            have hpl : ps.length ≤ 46656 := by have h1 := permsL_le hn6; rw [← hX, List.length_map] at h1; exact h1
            have HX := Lib.hid hX
            clear hX hO hb1
            go_wp2_with fail
            go_loopw [52] (fun i wr => ∃ j : Nat, j ≤ ps.length ∧ i = .int .i64 j ∧ Hid ((ps.take j).all (fun r : Row => canAt xs (rs.map Row.xs) (rs.map Row.xs ++ [[x, y]]) r.xs) = true) ∧ wr.heap[w.heap.size]? = some (Obj.cells #[Value.slice A xs.length c, Value.slice B rs.length k] 27) ∧ wr.heap[g1]? = some (Obj.cells #[Value.slice A xs.length c, Value.slice A' ms.length c'] 27) ∧ Below w1.heap.size w1 wr) (fun i _ => ps.length - (intOf i).toNat)
            case atStart => exact ⟨0, Nat.zero_le _, rfl, Lib.hid rfl, ob, ob1, Below.refl _ _⟩
            case round =>
              clear ob ob1
              obtain ⟨j, hj, rfl, HJ, ob, ob1, hbj⟩ := hrel
              rcases Nat.lt_or_ge j ps.length with hjl | hjg
              · have hRp2 := hRp.below hbj
                obtain ⟨bp, op, rfl, _, hcp⟩ := hRp2.at (by omega)
                have cp := hcp j hjl
                have hpm := map_memX HX.out (List.getElem_mem hjl)
                have hp8 : ps[j].xs.length ≤ 8 := by have := (permsI_mem hpm).1; omega
                have hbd : Below wr.heap.size wr wr.drew := below_dr (Below.refl _ _) (Dr.refl _).drew
                have hbD := (hbw.trans (hbj.mono hbw.size))
                have hin := row_in ((hRp2.dr (w' := wr.drew) (Dr.refl _).drew)) (List.getElem_mem hjl) (by omega) hbj.size
                have hM0d := hM0.next (hbD.trans (hbd.mono hbD.size))
                have hM1d := hM1.next (hbD.trans (hbd.mono hbD.size))
                have HALL := Lib.hid (show ∀ b : Bool, canAt xs (rs.map Row.xs) (rs.map Row.xs ++ [[x, y]]) ps[j].xs = b → (ps.take (j + 1)).all (fun r : Row => canAt xs (rs.map Row.xs) (rs.map Row.xs ++ [[x, y]]) r.xs) = b from fun b hb => by rw [List.take_succ_eq_append_getElem hjl, List.all_append, HJ.out, ← hb]; simp)
                have HCA := Lib.hid (show canAt xs (rs.map Row.xs) (rs.map Row.xs ++ [[x, y]]) ps[j].xs = (decide (0 < cntM ps[j].xs xs (rs.map Row.xs)) == decide (0 < cntM ps[j].xs xs (ms.map Row.xs))) by unfold canAt; rw [HCN.out])
                clear hcp hpm
                go_upto_region 10 with fail
                go_cut [64] (fun s wq => s = .bool (!canAt xs (rs.map Row.xs) (rs.map Row.xs ++ [[x, y]]) ps[j].xs) ∧ wq.heap[w.heap.size]? = some (Obj.cells #[Value.slice A xs.length c, Value.slice B rs.length k] 27) ∧ wq.heap[g1]? = some (Obj.cells #[Value.slice A xs.length c, Value.slice A' ms.length c'] 27) ∧ Below wr.heap.size wr wq)
                case first =>
                  have ob0d : wr.drew.heap[w.heap.size]? = some (Obj.cells #[Value.slice A xs.length c, Value.slice B rs.length k] 27) := ob
                  have ob1d : wr.drew.heap[g1]? = some (Obj.cells #[Value.slice A xs.length c, Value.slice A' ms.length c'] 27) := ob1
                  have d00 : wr.drew.cell? ⟨w.heap.size, 0, none⟩ = some (Value.slice A xs.length c) := (obj_cell ob0d).trans rfl
                  have d01 : wr.drew.cell? ⟨w.heap.size, 1, none⟩ = some (Value.slice B rs.length k) := (obj_cell ob0d).trans rfl
                  have d10 : wr.drew.cell? ⟨g1, 0, none⟩ = some (Value.slice A xs.length c) := (obj_cell ob1d).trans rfl
                  have d11 : wr.drew.cell? ⟨g1, 1, none⟩ = some (Value.slice A' ms.length c') := (obj_cell ob1d).trans rfl
                  have hx8 : xs.length ≤ 8 := by omega
                  by_cases ha : 0 < cntM ps[j].xs xs (rs.map Row.xs)
                  · have ea : decide (0 < cntM ps[j].xs xs (rs.map Row.xs)) = true := decide_eq_true ha
                    have ea' : decide (((cntM ps[j].xs xs (rs.map Row.xs) : Nat) : Int) > 0) = true := decide_eq_true (by omega)
                    by_cases hb' : 0 < cntM ps[j].xs xs (ms.map Row.xs)
                    · have eb : decide (0 < cntM ps[j].xs xs (ms.map Row.xs)) = true := decide_eq_true hb'
                      have eb' : decide (((cntM ps[j].xs xs (ms.map Row.xs) : Nat) : Int) > 0) = true := decide_eq_true (by omega)
                      have HCB := Lib.hid (show canAt xs (rs.map Row.xs) ((rs.map Row.xs) ++ [[x, y]]) ps[j].xs = true by rw [HCA.out, ea, eb]; rfl)
                      clear ha hb'
                      go_region_held3 (fun v => v.cell? ⟨w.heap.size, 0, none⟩ = some (Value.slice A xs.length c) ∧ v.cell? ⟨w.heap.size, 1, none⟩ = some (Value.slice B rs.length k) ∧ v.cell? ⟨g1, 0, none⟩ = some (Value.slice A xs.length c) ∧ v.cell? ⟨g1, 1, none⟩ = some (Value.slice A' ms.length c')) (first | exact ⟨d00, d01, d10, d11⟩ | exact ⟨e00, e01, e10, e11⟩ | exact ⟨f00, f01, f10, f11⟩) ((first | (go_at_call 75; (with_reducible refine (count_impl A B c k xs rs ps[j].A ps[j].c ps[j].xs wr.drew hM0d H2.out hin hp8 hx8).mono ?_); rintro e w2 ⟨rfl, hb2⟩; have ob02 := obj_below ob0d hb2 (obj_lt ob0d); have ob12 := obj_below ob1d hb2 (obj_lt ob1d); have e00 : w2.cell? ⟨w.heap.size, 0, none⟩ = some (Value.slice A xs.length c) := (obj_cell ob02).trans rfl; have e01 : w2.cell? ⟨w.heap.size, 1, none⟩ = some (Value.slice B rs.length k) := (obj_cell ob02).trans rfl; have e10 : w2.cell? ⟨g1, 0, none⟩ = some (Value.slice A xs.length c) := (obj_cell ob12).trans rfl; have e11 : w2.cell? ⟨g1, 1, none⟩ = some (Value.slice A' ms.length c') := (obj_cell ob12).trans rfl) | (go_at_call 75; (with_reducible refine (count_impl A A' c c' xs ms ps[j].A ps[j].c ps[j].xs wr.drew hM1d H2m.out hin hp8 hx8).mono ?_); rintro e w2 ⟨rfl, hb2⟩; have ob02 := obj_below ob0d hb2 (obj_lt ob0d); have ob12 := obj_below ob1d hb2 (obj_lt ob1d); have e00 : w2.cell? ⟨w.heap.size, 0, none⟩ = some (Value.slice A xs.length c) := (obj_cell ob02).trans rfl; have e01 : w2.cell? ⟨w.heap.size, 1, none⟩ = some (Value.slice B rs.length k) := (obj_cell ob02).trans rfl; have e10 : w2.cell? ⟨g1, 0, none⟩ = some (Value.slice A xs.length c) := (obj_cell ob12).trans rfl; have e11 : w2.cell? ⟨g1, 1, none⟩ = some (Value.slice A' ms.length c') := (obj_cell ob12).trans rfl) | (go_at_call 75; (with_reducible refine (count_impl A B c k xs rs ps[j].A ps[j].c ps[j].xs w2 (hM0d.next hb2) H2.out (hin.next hb2) hp8 hx8).mono ?_); rintro e w3 ⟨rfl, hb3⟩; have ob03 := obj_below ob02 hb3 (obj_lt ob02); have ob13 := obj_below ob12 hb3 (obj_lt ob12); have f00 : w3.cell? ⟨w.heap.size, 0, none⟩ = some (Value.slice A xs.length c) := (obj_cell ob03).trans rfl; have f01 : w3.cell? ⟨w.heap.size, 1, none⟩ = some (Value.slice B rs.length k) := (obj_cell ob03).trans rfl; have f10 : w3.cell? ⟨g1, 0, none⟩ = some (Value.slice A xs.length c) := (obj_cell ob13).trans rfl; have f11 : w3.cell? ⟨g1, 1, none⟩ = some (Value.slice A' ms.length c') := (obj_cell ob13).trans rfl) | (go_at_call 75; (with_reducible refine (count_impl A A' c c' xs ms ps[j].A ps[j].c ps[j].xs w2 (hM1d.next hb2) H2m.out (hin.next hb2) hp8 hx8).mono ?_); rintro e w3 ⟨rfl, hb3⟩; have ob03 := obj_below ob02 hb3 (obj_lt ob02); have ob13 := obj_below ob12 hb3 (obj_lt ob12); have f00 : w3.cell? ⟨w.heap.size, 0, none⟩ = some (Value.slice A xs.length c) := (obj_cell ob03).trans rfl; have f01 : w3.cell? ⟨w.heap.size, 1, none⟩ = some (Value.slice B rs.length k) := (obj_cell ob03).trans rfl; have f10 : w3.cell? ⟨g1, 0, none⟩ = some (Value.slice A xs.length c) := (obj_cell ob13).trans rfl; have f11 : w3.cell? ⟨g1, 1, none⟩ = some (Value.slice A' ms.length c') := (obj_cell ob13).trans rfl) | fail))
                      all_goals
                        go_wp2_with fail
                        go_meet
                        case rel => exact ⟨by rw [HCB.out]; rfl, ob03, ob13, (hbd.trans (hb2.mono hbd.size)).trans (hb3.mono (hbd.trans (hb2.mono hbd.size)).size)⟩
                    · have eb : decide (0 < cntM ps[j].xs xs (ms.map Row.xs)) = false := decide_eq_false hb'
                      have eb' : decide (((cntM ps[j].xs xs (ms.map Row.xs) : Nat) : Int) > 0) = false := decide_eq_false (by omega)
                      have HCB := Lib.hid (show canAt xs (rs.map Row.xs) ((rs.map Row.xs) ++ [[x, y]]) ps[j].xs = false by rw [HCA.out, ea, eb]; rfl)
                      clear ha hb'
                      go_region_held3 (fun v => v.cell? ⟨w.heap.size, 0, none⟩ = some (Value.slice A xs.length c) ∧ v.cell? ⟨w.heap.size, 1, none⟩ = some (Value.slice B rs.length k) ∧ v.cell? ⟨g1, 0, none⟩ = some (Value.slice A xs.length c) ∧ v.cell? ⟨g1, 1, none⟩ = some (Value.slice A' ms.length c')) (first | exact ⟨d00, d01, d10, d11⟩ | exact ⟨e00, e01, e10, e11⟩ | exact ⟨f00, f01, f10, f11⟩) ((first | (go_at_call 75; (with_reducible refine (count_impl A B c k xs rs ps[j].A ps[j].c ps[j].xs wr.drew hM0d H2.out hin hp8 hx8).mono ?_); rintro e w2 ⟨rfl, hb2⟩; have ob02 := obj_below ob0d hb2 (obj_lt ob0d); have ob12 := obj_below ob1d hb2 (obj_lt ob1d); have e00 : w2.cell? ⟨w.heap.size, 0, none⟩ = some (Value.slice A xs.length c) := (obj_cell ob02).trans rfl; have e01 : w2.cell? ⟨w.heap.size, 1, none⟩ = some (Value.slice B rs.length k) := (obj_cell ob02).trans rfl; have e10 : w2.cell? ⟨g1, 0, none⟩ = some (Value.slice A xs.length c) := (obj_cell ob12).trans rfl; have e11 : w2.cell? ⟨g1, 1, none⟩ = some (Value.slice A' ms.length c') := (obj_cell ob12).trans rfl) | (go_at_call 75; (with_reducible refine (count_impl A A' c c' xs ms ps[j].A ps[j].c ps[j].xs wr.drew hM1d H2m.out hin hp8 hx8).mono ?_); rintro e w2 ⟨rfl, hb2⟩; have ob02 := obj_below ob0d hb2 (obj_lt ob0d); have ob12 := obj_below ob1d hb2 (obj_lt ob1d); have e00 : w2.cell? ⟨w.heap.size, 0, none⟩ = some (Value.slice A xs.length c) := (obj_cell ob02).trans rfl; have e01 : w2.cell? ⟨w.heap.size, 1, none⟩ = some (Value.slice B rs.length k) := (obj_cell ob02).trans rfl; have e10 : w2.cell? ⟨g1, 0, none⟩ = some (Value.slice A xs.length c) := (obj_cell ob12).trans rfl; have e11 : w2.cell? ⟨g1, 1, none⟩ = some (Value.slice A' ms.length c') := (obj_cell ob12).trans rfl) | (go_at_call 75; (with_reducible refine (count_impl A B c k xs rs ps[j].A ps[j].c ps[j].xs w2 (hM0d.next hb2) H2.out (hin.next hb2) hp8 hx8).mono ?_); rintro e w3 ⟨rfl, hb3⟩; have ob03 := obj_below ob02 hb3 (obj_lt ob02); have ob13 := obj_below ob12 hb3 (obj_lt ob12); have f00 : w3.cell? ⟨w.heap.size, 0, none⟩ = some (Value.slice A xs.length c) := (obj_cell ob03).trans rfl; have f01 : w3.cell? ⟨w.heap.size, 1, none⟩ = some (Value.slice B rs.length k) := (obj_cell ob03).trans rfl; have f10 : w3.cell? ⟨g1, 0, none⟩ = some (Value.slice A xs.length c) := (obj_cell ob13).trans rfl; have f11 : w3.cell? ⟨g1, 1, none⟩ = some (Value.slice A' ms.length c') := (obj_cell ob13).trans rfl) | (go_at_call 75; (with_reducible refine (count_impl A A' c c' xs ms ps[j].A ps[j].c ps[j].xs w2 (hM1d.next hb2) H2m.out (hin.next hb2) hp8 hx8).mono ?_); rintro e w3 ⟨rfl, hb3⟩; have ob03 := obj_below ob02 hb3 (obj_lt ob02); have ob13 := obj_below ob12 hb3 (obj_lt ob12); have f00 : w3.cell? ⟨w.heap.size, 0, none⟩ = some (Value.slice A xs.length c) := (obj_cell ob03).trans rfl; have f01 : w3.cell? ⟨w.heap.size, 1, none⟩ = some (Value.slice B rs.length k) := (obj_cell ob03).trans rfl; have f10 : w3.cell? ⟨g1, 0, none⟩ = some (Value.slice A xs.length c) := (obj_cell ob13).trans rfl; have f11 : w3.cell? ⟨g1, 1, none⟩ = some (Value.slice A' ms.length c') := (obj_cell ob13).trans rfl) | fail))
                      all_goals
                        go_wp2_with fail
                        go_meet
                        case rel => exact ⟨by rw [HCB.out]; rfl, ob03, ob13, (hbd.trans (hb2.mono hbd.size)).trans (hb3.mono (hbd.trans (hb2.mono hbd.size)).size)⟩
                  · have ea : decide (0 < cntM ps[j].xs xs (rs.map Row.xs)) = false := decide_eq_false ha
                    have ea' : decide (((cntM ps[j].xs xs (rs.map Row.xs) : Nat) : Int) > 0) = false := decide_eq_false (by omega)
                    by_cases hb' : 0 < cntM ps[j].xs xs (ms.map Row.xs)
                    · have eb : decide (0 < cntM ps[j].xs xs (ms.map Row.xs)) = true := decide_eq_true hb'
                      have eb' : decide (((cntM ps[j].xs xs (ms.map Row.xs) : Nat) : Int) > 0) = true := decide_eq_true (by omega)
                      have HCB := Lib.hid (show canAt xs (rs.map Row.xs) ((rs.map Row.xs) ++ [[x, y]]) ps[j].xs = false by rw [HCA.out, ea, eb]; rfl)
                      clear ha hb'
                      go_region_held3 (fun v => v.cell? ⟨w.heap.size, 0, none⟩ = some (Value.slice A xs.length c) ∧ v.cell? ⟨w.heap.size, 1, none⟩ = some (Value.slice B rs.length k) ∧ v.cell? ⟨g1, 0, none⟩ = some (Value.slice A xs.length c) ∧ v.cell? ⟨g1, 1, none⟩ = some (Value.slice A' ms.length c')) (first | exact ⟨d00, d01, d10, d11⟩ | exact ⟨e00, e01, e10, e11⟩ | exact ⟨f00, f01, f10, f11⟩) ((first | (go_at_call 75; (with_reducible refine (count_impl A B c k xs rs ps[j].A ps[j].c ps[j].xs wr.drew hM0d H2.out hin hp8 hx8).mono ?_); rintro e w2 ⟨rfl, hb2⟩; have ob02 := obj_below ob0d hb2 (obj_lt ob0d); have ob12 := obj_below ob1d hb2 (obj_lt ob1d); have e00 : w2.cell? ⟨w.heap.size, 0, none⟩ = some (Value.slice A xs.length c) := (obj_cell ob02).trans rfl; have e01 : w2.cell? ⟨w.heap.size, 1, none⟩ = some (Value.slice B rs.length k) := (obj_cell ob02).trans rfl; have e10 : w2.cell? ⟨g1, 0, none⟩ = some (Value.slice A xs.length c) := (obj_cell ob12).trans rfl; have e11 : w2.cell? ⟨g1, 1, none⟩ = some (Value.slice A' ms.length c') := (obj_cell ob12).trans rfl) | (go_at_call 75; (with_reducible refine (count_impl A A' c c' xs ms ps[j].A ps[j].c ps[j].xs wr.drew hM1d H2m.out hin hp8 hx8).mono ?_); rintro e w2 ⟨rfl, hb2⟩; have ob02 := obj_below ob0d hb2 (obj_lt ob0d); have ob12 := obj_below ob1d hb2 (obj_lt ob1d); have e00 : w2.cell? ⟨w.heap.size, 0, none⟩ = some (Value.slice A xs.length c) := (obj_cell ob02).trans rfl; have e01 : w2.cell? ⟨w.heap.size, 1, none⟩ = some (Value.slice B rs.length k) := (obj_cell ob02).trans rfl; have e10 : w2.cell? ⟨g1, 0, none⟩ = some (Value.slice A xs.length c) := (obj_cell ob12).trans rfl; have e11 : w2.cell? ⟨g1, 1, none⟩ = some (Value.slice A' ms.length c') := (obj_cell ob12).trans rfl) | (go_at_call 75; (with_reducible refine (count_impl A B c k xs rs ps[j].A ps[j].c ps[j].xs w2 (hM0d.next hb2) H2.out (hin.next hb2) hp8 hx8).mono ?_); rintro e w3 ⟨rfl, hb3⟩; have ob03 := obj_below ob02 hb3 (obj_lt ob02); have ob13 := obj_below ob12 hb3 (obj_lt ob12); have f00 : w3.cell? ⟨w.heap.size, 0, none⟩ = some (Value.slice A xs.length c) := (obj_cell ob03).trans rfl; have f01 : w3.cell? ⟨w.heap.size, 1, none⟩ = some (Value.slice B rs.length k) := (obj_cell ob03).trans rfl; have f10 : w3.cell? ⟨g1, 0, none⟩ = some (Value.slice A xs.length c) := (obj_cell ob13).trans rfl; have f11 : w3.cell? ⟨g1, 1, none⟩ = some (Value.slice A' ms.length c') := (obj_cell ob13).trans rfl) | (go_at_call 75; (with_reducible refine (count_impl A A' c c' xs ms ps[j].A ps[j].c ps[j].xs w2 (hM1d.next hb2) H2m.out (hin.next hb2) hp8 hx8).mono ?_); rintro e w3 ⟨rfl, hb3⟩; have ob03 := obj_below ob02 hb3 (obj_lt ob02); have ob13 := obj_below ob12 hb3 (obj_lt ob12); have f00 : w3.cell? ⟨w.heap.size, 0, none⟩ = some (Value.slice A xs.length c) := (obj_cell ob03).trans rfl; have f01 : w3.cell? ⟨w.heap.size, 1, none⟩ = some (Value.slice B rs.length k) := (obj_cell ob03).trans rfl; have f10 : w3.cell? ⟨g1, 0, none⟩ = some (Value.slice A xs.length c) := (obj_cell ob13).trans rfl; have f11 : w3.cell? ⟨g1, 1, none⟩ = some (Value.slice A' ms.length c') := (obj_cell ob13).trans rfl) | fail))
                      all_goals
                        go_wp2_with fail
                        go_meet
                        case rel => exact ⟨by rw [HCB.out]; rfl, ob03, ob13, (hbd.trans (hb2.mono hbd.size)).trans (hb3.mono (hbd.trans (hb2.mono hbd.size)).size)⟩
                    · have eb : decide (0 < cntM ps[j].xs xs (ms.map Row.xs)) = false := decide_eq_false hb'
                      have eb' : decide (((cntM ps[j].xs xs (ms.map Row.xs) : Nat) : Int) > 0) = false := decide_eq_false (by omega)
                      have HCB := Lib.hid (show canAt xs (rs.map Row.xs) ((rs.map Row.xs) ++ [[x, y]]) ps[j].xs = true by rw [HCA.out, ea, eb]; rfl)
                      clear ha hb'
                      go_region_held3 (fun v => v.cell? ⟨w.heap.size, 0, none⟩ = some (Value.slice A xs.length c) ∧ v.cell? ⟨w.heap.size, 1, none⟩ = some (Value.slice B rs.length k) ∧ v.cell? ⟨g1, 0, none⟩ = some (Value.slice A xs.length c) ∧ v.cell? ⟨g1, 1, none⟩ = some (Value.slice A' ms.length c')) (first | exact ⟨d00, d01, d10, d11⟩ | exact ⟨e00, e01, e10, e11⟩ | exact ⟨f00, f01, f10, f11⟩) ((first | (go_at_call 75; (with_reducible refine (count_impl A B c k xs rs ps[j].A ps[j].c ps[j].xs wr.drew hM0d H2.out hin hp8 hx8).mono ?_); rintro e w2 ⟨rfl, hb2⟩; have ob02 := obj_below ob0d hb2 (obj_lt ob0d); have ob12 := obj_below ob1d hb2 (obj_lt ob1d); have e00 : w2.cell? ⟨w.heap.size, 0, none⟩ = some (Value.slice A xs.length c) := (obj_cell ob02).trans rfl; have e01 : w2.cell? ⟨w.heap.size, 1, none⟩ = some (Value.slice B rs.length k) := (obj_cell ob02).trans rfl; have e10 : w2.cell? ⟨g1, 0, none⟩ = some (Value.slice A xs.length c) := (obj_cell ob12).trans rfl; have e11 : w2.cell? ⟨g1, 1, none⟩ = some (Value.slice A' ms.length c') := (obj_cell ob12).trans rfl) | (go_at_call 75; (with_reducible refine (count_impl A A' c c' xs ms ps[j].A ps[j].c ps[j].xs wr.drew hM1d H2m.out hin hp8 hx8).mono ?_); rintro e w2 ⟨rfl, hb2⟩; have ob02 := obj_below ob0d hb2 (obj_lt ob0d); have ob12 := obj_below ob1d hb2 (obj_lt ob1d); have e00 : w2.cell? ⟨w.heap.size, 0, none⟩ = some (Value.slice A xs.length c) := (obj_cell ob02).trans rfl; have e01 : w2.cell? ⟨w.heap.size, 1, none⟩ = some (Value.slice B rs.length k) := (obj_cell ob02).trans rfl; have e10 : w2.cell? ⟨g1, 0, none⟩ = some (Value.slice A xs.length c) := (obj_cell ob12).trans rfl; have e11 : w2.cell? ⟨g1, 1, none⟩ = some (Value.slice A' ms.length c') := (obj_cell ob12).trans rfl) | (go_at_call 75; (with_reducible refine (count_impl A B c k xs rs ps[j].A ps[j].c ps[j].xs w2 (hM0d.next hb2) H2.out (hin.next hb2) hp8 hx8).mono ?_); rintro e w3 ⟨rfl, hb3⟩; have ob03 := obj_below ob02 hb3 (obj_lt ob02); have ob13 := obj_below ob12 hb3 (obj_lt ob12); have f00 : w3.cell? ⟨w.heap.size, 0, none⟩ = some (Value.slice A xs.length c) := (obj_cell ob03).trans rfl; have f01 : w3.cell? ⟨w.heap.size, 1, none⟩ = some (Value.slice B rs.length k) := (obj_cell ob03).trans rfl; have f10 : w3.cell? ⟨g1, 0, none⟩ = some (Value.slice A xs.length c) := (obj_cell ob13).trans rfl; have f11 : w3.cell? ⟨g1, 1, none⟩ = some (Value.slice A' ms.length c') := (obj_cell ob13).trans rfl) | (go_at_call 75; (with_reducible refine (count_impl A A' c c' xs ms ps[j].A ps[j].c ps[j].xs w2 (hM1d.next hb2) H2m.out (hin.next hb2) hp8 hx8).mono ?_); rintro e w3 ⟨rfl, hb3⟩; have ob03 := obj_below ob02 hb3 (obj_lt ob02); have ob13 := obj_below ob12 hb3 (obj_lt ob12); have f00 : w3.cell? ⟨w.heap.size, 0, none⟩ = some (Value.slice A xs.length c) := (obj_cell ob03).trans rfl; have f01 : w3.cell? ⟨w.heap.size, 1, none⟩ = some (Value.slice B rs.length k) := (obj_cell ob03).trans rfl; have f10 : w3.cell? ⟨g1, 0, none⟩ = some (Value.slice A xs.length c) := (obj_cell ob13).trans rfl; have f11 : w3.cell? ⟨g1, 1, none⟩ = some (Value.slice A' ms.length c') := (obj_cell ob13).trans rfl) | fail))
                      all_goals
                        go_wp2_with fail
                        go_meet
                        case rel => exact ⟨by rw [HCB.out]; rfl, ob03, ob13, (hbd.trans (hb2.mono hbd.size)).trans (hb3.mono (hbd.trans (hb2.mono hbd.size)).size)⟩
                case rest =>
                  obtain ⟨rfl, ob, ob1, hbq⟩ := hcut
                  have hbj2 := hbj.trans (hbq.mono hbj.size)
                  by_cases hca : canAt xs (rs.map Row.xs) (rs.map Row.xs ++ [[x, y]]) ps[j].xs = true
                  · have HJ2 := Lib.hid (HALL.out true hca)
                    rw [hca]
                    clear hca
                    go_wp2_with fail
                    go_roundw
                    case rel => exact ⟨j + 1, by omega, by go_num, HJ2, ob, ob1, hbj2⟩
                    case measure => simp [intOf]; omega
                  · have hcaf : canAt xs (rs.map Row.xs) (rs.map Row.xs ++ [[x, y]]) ps[j].xs = false := by simpa using hca
                    have HF := Lib.hid (show canTo xs (rs.map Row.xs) (rs.map Row.xs ++ [[x, y]]) 6 = false from canTo_false hlt (by
                      unfold canN
                      rw [← HX.out, List.all_map, List.all_eq_false]
                      exact ⟨ps[j], List.getElem_mem hjl, by simp [hcaf]⟩))
                    rw [hcaf]
                    clear hca hcaf
                    go_wp2_with fail
                    go_ret
                    exact ⟨ret_bool (by rw [HG.out, HF.out]), (hb.trans (hbw.mono hb.size)).trans (hbj2.mono (by have h1 := hb.size; have h2 := hbw.size; omega))⟩
              · obtain rfl : j = ps.length := by omega
                have HN := Lib.hid (show canTo xs (rs.map Row.xs) (rs.map Row.xs ++ [[x, y]]) (n + 1) = true by
                  rw [HCS.out, HT.out, Bool.true_and]
                  unfold canN
                  have h1 := HJ.out
                  rw [List.take_length] at h1
                  rw [← HX.out, List.all_map]; exact h1)
                have hb2 := hbw.trans (hbj.mono hbw.size)
                go_wp2_with fail
                go_roundw
                case rel => exact ⟨n + 1, by omega, by go_num, HN, ob, ob1, hb2⟩
                case measure => simp [intOf]; omega
          · obtain rfl : n = 6 := by omega
            go_wp2_with fail
            go_ret
            exact ⟨ret_bool (by rw [HG.out, HT.out]), hb.trans (hbr.mono hb.size)⟩
    · have hAf : (meshB xs (rs.map Row.xs) && inBox xs.length x y && !shB (rs.map Row.xs) x y) = false := by simpa using hA
      have HG := Lib.hid (show csB xs (rs.map Row.xs) x y = false by unfold csB; rw [hAf, Bool.false_and])
      rw [hAf]
      clear hA hAf
      go_wp2_with fail
      go_ret
      exact ⟨ret_bool HG.out.symm, hb⟩
end Go.Proofs.Ythipikllgpnlhaa

/- Plain maths of FnShades: a box put among at most one other. -/
namespace Go.Proofs.Ythipikllgpnlhaa
set_option maxRecDepth 100000
open Go Go.RowKit

/-- The box lies behind the place (x, y). -/
def gtB (s : List Int) (x y : Int) : Bool := decide (s[0]?.getD 0 > x) || (decide (s[0]?.getD 0 = x) && decide (s[1]?.getD 0 > y))
/-- What the law's loop has made of the first k boxes; has the new one been put? -/
def insTo (X : List (List Int)) (x y : Int) : Nat → List (List Int) × Bool
  | 0 => ([], false)
  | k + 1 => if ((!(insTo X x y k).2) && gtB (X[k]?.getD []) x y) = true then ((insTo X x y k).1 ++ [[x, y], X[k]?.getD []], true) else ((insTo X x y k).1 ++ [X[k]?.getD []], (insTo X x y k).2)
def moreL (X : List (List Int)) (x y : Int) : List (List Int) := if (insTo X x y X.length).2 = true then (insTo X x y X.length).1 else (insTo X x y X.length).1 ++ [[x, y]]
theorem moreL_nil (x y : Int) : moreL [] x y = [[x, y]] := by simp [moreL, insTo]
theorem moreL_one (s : List Int) (x y : Int) : moreL [s] x y = if gtB s x y = true then [[x, y], s] else [s, [x, y]] := by
  by_cases h : gtB s x y = true <;> simp [moreL, insTo, h]
theorem moreL_mem {X : List (List Int)} (h1 : X.length ≤ 1) (x y : Int) (s : List Int) : s ∈ X ++ [[x, y]] ↔ s ∈ moreL X x y := by
  match X, h1 with
  | [], _ => rw [moreL_nil]; simp
  | [t], _ =>
    rw [moreL_one]
    split
    · simp [or_comm]
    · simp
theorem moreL_len {X : List (List Int)} (h1 : X.length ≤ 1) (x y : Int) : (moreL X x y).length ≤ 2 := by
  match X, h1 with
  | [], _ => rw [moreL_nil]; simp
  | [t], _ =>
    rw [moreL_one]
    split <;> simp
theorem insTo_len (X : List (List Int)) (x y : Int) (k : Nat) : (insTo X x y k).1.length ≤ 2 * k := by
  induction k with
  | zero => simp [insTo]
  | succ k ih =>
    unfold insTo
    split
    · simp; omega
    · simp; omega
theorem insTo_two {X : List (List Int)} (h : ∀ s ∈ X, s.length = 2) (x y : Int) (k : Nat) (hk : k ≤ X.length) : ∀ s ∈ (insTo X x y k).1, s.length = 2 := by
  induction k with
  | zero => simp [insTo]
  | succ k ih =>
    have hx : (X[k]?.getD []).length = 2 := by rw [List.getElem?_eq_getElem (by omega)]; exact h _ (List.getElem_mem _)
    intro s hs
    unfold insTo at hs
    split at hs
    · rcases List.mem_append.1 hs with hs | hs
      · exact ih (by omega) s hs
      · simp at hs
        rcases hs with rfl | rfl
        · rfl
        · exact hx
    · rcases List.mem_append.1 hs with hs | hs
      · exact ih (by omega) s hs
      · simp at hs
        subst hs
        exact hx
theorem boxOk_of {n : Nat} {x y : Int} (h : inBox n x y = true) : boxOk n [x, y] = true := by
  unfold inBox at h
  have := of_decide_eq_true h
  simp only [boxOk, decide_eq_true_eq]
  omega
theorem more_ok {xs : List Int} {X : List (List Int)} {x y : Int} (h1 : X.length ≤ 1) (h : csB xs X x y = true) :
    meshB xs X = true ∧ meshB xs (moreL X x y) = true ∧ ∀ p ∈ permsL 4, (0 < cmG p xs X ↔ 0 < cmG p xs (moreL X x y)) := by
  unfold csB at h
  simp only [Bool.and_eq_true, Bool.not_eq_true'] at h
  obtain ⟨⟨⟨hM, hI⟩, hS⟩, hC⟩ := h
  have hP := mesh_perm hM
  have hN : meshB xs (moreL X x y) = true := by
    have hb := boxOk_of hI
    unfold meshB
    simp only [Bool.and_eq_true, decide_eq_true_eq]
    refine ⟨hP, ?_⟩
    match X, h1 with
    | [], _ => rw [moreL_nil]; simp [meshTo, meshAt, hb]
    | [s], _ =>
      have hs := (mesh_at hM 0 (by simp)).1
      have h2 := mesh_two hM s (by simp)
      match s, h2 with
      | [a, b], _ =>
        have hne : ¬ (a = x ∧ b = y) := by
          rintro ⟨rfl, rfl⟩
          simp [shB] at hS
        have hs : boxOk xs.length [a, b] = true := hs
        rw [moreL_one]
        by_cases hg : gtB [a, b] x y = true
        · rw [if_pos hg]
          have hlt : cmpL [x, y] [a, b] < 0 := by
            simp only [gtB, List.getElem?_cons_zero, List.getElem?_cons_succ, Option.getD_some, Bool.or_eq_true, Bool.and_eq_true, decide_eq_true_eq] at hg
            simp only [cmpL]
            repeat' split
            all_goals omega
          simp [meshTo, meshAt, hb, hs, hlt, List.range_succ]
        · rw [if_neg hg]
          have hlt : cmpL [a, b] [x, y] < 0 := by
            simp only [gtB, List.getElem?_cons_zero, List.getElem?_cons_succ, Option.getD_some, Bool.or_eq_true, Bool.and_eq_true, decide_eq_true_eq] at hg
            simp only [cmpL]
            repeat' split
            all_goals omega
          simp [meshTo, meshAt, hb, hs, hlt, List.range_succ]
  refine ⟨hM, hN, fun p hp => ?_⟩
  obtain ⟨hpp, _⟩ := permsL_perm (by omega) hp
  have h4 := List.all_eq_true.1 (List.all_eq_true.1 (show (List.range 6).all _ = true from hC) 4 (by simp)) p hp
  unfold canAt at h4
  rw [cntM_congr (moreL_mem h1 x y) p xs] at h4
  have e1 : cmG p xs X = (cntM p xs X : Int) := by rw [cmG, if_pos ⟨hpp, hM⟩]
  have e2 : cmG p xs (moreL X x y) = (cntM p xs (moreL X x y) : Int) := by rw [cmG, if_pos ⟨hpp, hN⟩]
  rw [e1, e2]
  have h5 : (0 < cntM p xs X ↔ 0 < cntM p xs (moreL X x y)) := by
    have := (beq_iff_eq).1 h4
    exact decide_eq_decide.1 this
  constructor
  · intro h; have := h5.1 (by omega); omega
  · intro h; have := h5.2 (by omega); omega
end Go.Proofs.Ythipikllgpnlhaa
