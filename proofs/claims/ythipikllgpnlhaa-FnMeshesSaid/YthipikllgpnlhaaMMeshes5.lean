/- Several texts in one, each with its own head: CM, Q2, R5, C3. No program of ours. -/
import Derived.Deep.RegionHeld3
import Derived.StillTailTactics
import Derived.Test.YthipikllgpnlhaaMMeshes4
/- Meshes: plain facts (as in B1 and CS, for seats without CountMesh and CanShade). -/
namespace Go.Proofs.Ythipikllgpnlhaa
set_option maxRecDepth 100000
open Go Go.RowKit

theorem mesh_perm {xs : List Int} {X : List (List Int)} (h : meshB xs X = true) : permB xs = true ∧ xs.length ≤ 4 := by
  unfold meshB at h
  simp only [Bool.and_eq_true, decide_eq_true_eq] at h
  exact h.1
theorem mesh_two {xs : List Int} {X : List (List Int)} (h : meshB xs X = true) : ∀ s ∈ X, s.length = 2 := fun s hs => by
  unfold meshB at h
  rw [Bool.and_eq_true] at h
  obtain ⟨i, hi, rfl⟩ := List.mem_iff_getElem.1 hs
  have := List.all_eq_true.1 h.2 i (List.mem_range.2 hi)
  unfold meshAt at this
  rw [List.getElem?_eq_getElem hi, Bool.and_eq_true] at this
  exact boxOk_two this.1

theorem mesh_ib (A B : Option Addr) (c k : Nat) (xs : List Int) (rs : List Row) (w : World) (b : Bool) (h : InM w A c xs B k rs) (hb : meshB xs (rs.map Row.xs) = b) : Calls Try.prog 17 #[.agg #[.slice A xs.length c, .slice B rs.length k]] w (Rb w (.bool b)) := by
  subst hb; exact mesh_impl A B c k xs rs w h
theorem mesh_sb (A B : Option Addr) (c k : Nat) (xs : List Int) (rs : List Row) (w : World) (b : Bool) (h : InM w A c xs B k rs) (hb : meshB xs (rs.map Row.xs) = b) : Calls Try.prog 18 #[.agg #[.slice A xs.length c, .slice B rs.length k]] w (Rb w (.bool b)) := by
  subst hb; exact mesh_spec A B c k xs rs w h
theorem rows_two {rs : List Row} {xs : List Int} (h : meshB xs (rs.map Row.xs) = true) : ∀ r ∈ rs, r.xs.length = 2 := fun r hr => mesh_two h _ (List.mem_map.2 ⟨r, hr, rfl⟩)

theorem mesh_at {xs : List Int} {X : List (List Int)} (h : meshB xs X = true) (i : Nat) (hi : i < X.length) : boxOk xs.length X[i] = true ∧ (i = 0 ∨ cmpL (X[i - 1]?.getD []) X[i] < 0) := by
  unfold meshB at h
  rw [Bool.and_eq_true] at h
  have := List.all_eq_true.1 h.2 i (List.mem_range.2 hi)
  unfold meshAt at this
  rw [List.getElem?_eq_getElem hi, Bool.and_eq_true, Bool.or_eq_true, decide_eq_true_eq, decide_eq_true_eq] at this
  exact this
theorem pairwise_step {X : List (List Int)} (h : ∀ i (hi : i + 1 < X.length), before (X[i]'(by omega)) X[i + 1] = true) : Srt X := by
  unfold Srt
  rw [List.pairwise_iff_getElem]
  intro i j hi hj hij
  induction j with
  | zero => omega
  | succ j ih =>
    by_cases e : i = j
    · subst e; exact h i hj
    · exact before_trans (ih (by omega) (by omega)) (h j hj)
theorem mesh_srt {xs : List Int} {X : List (List Int)} (h : meshB xs X = true) : Srt X := by
  apply pairwise_step
  intro i hi
  have h2 := mesh_two h
  have e1 : X[i].length = X[i + 1].length := by rw [h2 _ (List.getElem_mem _), h2 _ (List.getElem_mem _)]
  unfold before
  rw [if_pos e1]
  have := (mesh_at h (i + 1) hi).2
  rw [Nat.add_sub_cancel, List.getElem?_eq_getElem (by omega)] at this
  rcases this with h0 | h0
  · omega
  · exact decide_eq_true h0
/-- The number of a box. -/
def boxN (s : List Int) : Int := 5 * (s[0]?.getD 0) + s[1]?.getD 0
theorem mesh_len {xs : List Int} {X : List (List Int)} (h : meshB xs X = true) : X.length ≤ 25 := by
  have h4 := (mesh_perm h).2
  have hb : ∀ i (hi : i < X.length), ∃ a b, X[i] = [a, b] ∧ 0 ≤ a ∧ a ≤ 4 ∧ 0 ≤ b ∧ b ≤ 4 := by
    intro i hi
    have h1 := (mesh_at h i hi).1
    have h2 := mesh_two h X[i] (List.getElem_mem hi)
    match hx : X[i], h2 with
    | [a, b], _ =>
      rw [hx] at h1
      simp only [boxOk, decide_eq_true_eq] at h1
      exact ⟨a, b, rfl, by omega, by omega, by omega, by omega⟩
  have hge : ∀ i (hi : i < X.length), (i : Int) ≤ boxN X[i] := by
    intro i
    induction i with
    | zero =>
      intro hi
      obtain ⟨a, b, e, _⟩ := hb 0 hi
      rw [e]; simp [boxN]; omega
    | succ i ih =>
      intro hi
      have h1 := ih (by omega)
      obtain ⟨a, b, e, ha⟩ := hb i (by omega)
      obtain ⟨a', b', e', ha'⟩ := hb (i + 1) hi
      have hs := List.pairwise_iff_getElem.1 (mesh_srt h) i (i + 1) (by omega) hi (by omega)
      rw [e] at h1 hs
      rw [e'] at hs ⊢
      simp only [boxN, List.getElem?_cons_zero, List.getElem?_cons_succ, Option.getD_some] at h1 ⊢
      have hs' : cmpL [a, b] [a', b'] < 0 := of_decide_eq_true (by simpa [before] using hs)
      simp only [cmpL] at hs'
      split at hs'
      · omega
      · split at hs'
        · omega
        · split at hs'
          · omega
          · split at hs' <;> omega
  rcases Nat.eq_zero_or_pos X.length with h0 | h0
  · omega
  · have h1 := hge (X.length - 1) (by omega)
    obtain ⟨a, b, e, ha⟩ := hb (X.length - 1) (by omega)
    rw [e] at h1
    simp only [boxN, List.getElem?_cons_zero, List.getElem?_cons_succ, Option.getD_some] at h1
    omega

end Go.Proofs.Ythipikllgpnlhaa

/- Contracts of OverlapsOf, IsLoose, CountRuns. -/
namespace Go.Proofs.Ythipikllgpnlhaa
set_option maxRecDepth 100000
open Go Go.RowKit

theorem In.own {w : World} {base e c : Nat} {A : Option Addr} {xs : List Int} (h : w.ownsRow base e 1 (.slice A xs.length c) xs.length (xs.map (Value.int .i64))) (hl : xs.length ≤ 1048576) : In w A c xs :=
  ⟨hl, (own_caps h).1, Rd.of_own h⟩
theorem sizeI (w : World) : (sizeOf (Try.prog.elem 24)).run Try.prog w = .ok 1 w := by kernel_rfl

def ovH (xs : List Int) (k : Nat) : Bool := decide (patL (xs.take k) = patL (xs.drop (xs.length - k)))
def ovTo (xs : List Int) (k : Nat) : List Int := ((List.range k).filter fun i => decide (1 ≤ i) && ovH xs i).map fun i : Nat => (i : Int)
theorem ovTo_succ (xs : List Int) (k : Nat) (h : 1 ≤ k) : ovTo xs (k + 1) = if ovH xs k = true then ovTo xs k ++ [(k : Int)] else ovTo xs k := by
  unfold ovTo
  rw [List.range_succ, List.filter_append]
  have : decide (1 ≤ k) = true := by simpa using h
  by_cases hk : ovH xs k = true <;> simp [hk, h]
theorem ovTo_length (xs : List Int) (k : Nat) : (ovTo xs k).length ≤ k := by
  unfold ovTo
  rw [List.length_map]
  exact Nat.le_trans (List.length_filter_le _ _) (by simp)
def ovG (xs : List Int) : List Int := if permB xs = true then ovTo xs xs.length else []
theorem ovG_length (xs : List Int) : (ovG xs).length ≤ 8 := by
  unfold ovG
  split
  · rename_i h
    have := ovTo_length xs xs.length
    have := (permB_true h).1
    omega
  · simp

set_option maxHeartbeats 1600000 in
theorem overlaps_impl (A : Option Addr) (c : Nat) (xs : List Int) (w : World) (h : In w A c xs) :
    Calls Try.prog 51 #[.slice A xs.length c] w (Ret (Value.int .i64) 3 w (ovG xs)) := by
  obtain ⟨i0, hi, hz0, hz1, hz2⟩ := info_parts infoI
  by_cases hp : permB xs = true
  · have HG := Lib.hid (show ovG xs = ovTo xs xs.length by rw [ovG, if_pos hp])
    have HP := Lib.hid hp
    have h8 := (permB_true hp).1
    have hcap := h.cap
    clear hp
    go_enter Try.func51, Try.ntmps51
    go_wp2_with fail
    refine (isPerm_impl _ _ _ _ h).mono ?_
    rintro e w1 ⟨rfl, hb1⟩
    rw [HP.out]
    have hsz1 := hb1.size
    go_wp2_with fail
    have hown0 : (w1.alloc (.cells #[] 3)).ownsRow w.heap.size 3 1 (.slice (some ⟨w1.heap.size, 0, none⟩) 0 0) (ovTo xs 1).length ((ovTo xs 1).map (Value.int .i64)) := World.ownsRow_lit w1 #[] 0 hsz1 (by unfold maxLen; omega) rfl
    have hb2 := hb1.alloc hsz1 (.cells #[] 3)
    go_loopw [3, 4] (fun v i wr => ∃ (k : Nat) (A' : Option Addr) (c' : Nat), 1 ≤ k ∧ (k ≤ xs.length ∨ k = 1) ∧ i = .int .i64 k ∧ v = .slice A' (ovTo xs k).length c' ∧ wr.ownsRow w.heap.size 3 1 (.slice A' (ovTo xs k).length c') (ovTo xs k).length ((ovTo xs k).map (Value.int .i64)) ∧ Below w.heap.size w wr) (fun _ i _ => xs.length - (intOf i).toNat)
    case atStart => exact ⟨1, _, _, Nat.le_refl _, .inr rfl, rfl, rfl, hown0, hb2⟩
    case round =>
      clear hown0 hb2
      obtain ⟨k, A', c', hk1, hk, rfl, rfl, hown, hb⟩ := hrel
      have HK := Lib.hid hk
      have hpl := ovTo_length xs k
      have hIn := h.next hb
      clear hk
      by_cases hlt : k < xs.length
      · have hd1 : decide ((k : Int) < (xs.length : Int)) = true := by simp; omega
        obtain ⟨wp, rfl⟩ : ∃ wp : World, wp = wr := ⟨_, rfl⟩
        have hxr := hIn.rd
        have HS0 := Lib.hid (ovTo_succ xs k hk1)
        have hsl1 := fun w => run_slice_h (P := Try.prog) w 24 A xs.length c Try.underlying24 .i64 k (by omega) (by omega)
        have hsl2 := fun w => run_cut (P := Try.prog) (t := 24) Try.underlying24 sizeI A xs.length c (xs.length - k) ((xs.length : Int) - (k : Int)) (by omega) (by omega) w
        have e1 : IntKind.i64.wrap ((xs.length : Int) - (k : Int)) = (xs.length : Int) - (k : Int) := IntWalk.i64_in _ (by omega)
        have hr1 : Rd (Value.int .i64) wp.drew wp.drew.heap.size A (xs.take k) := hxr.take k
        have hk20 : k ≤ 1048576 := by omega
        have hr2 : Rd (Value.int .i64) wp.drew wp.drew.heap.size (cutA A c (xs.length - k)) (xs.drop (xs.length - k)) := hxr.cut (by omega) hcap
        have HL2 := Lib.hid (List.length_drop (i := xs.length - k) (l := xs))
        have hk21 : xs.length - (xs.length - k) ≤ 1048576 := by omega
        have HLp : (patL (xs.take k)).length ≤ 4611686018427387904 := by rw [patL_length, List.length_take]; omega
        have HL1 := Lib.hid (show (xs.take k).length = k by simp; omega)
        have e3 : 0 ≤ (xs.length : Int) - (k : Int) := by omega
        have e4 : (xs.length : Int) - (k : Int) ≤ (xs.length : Int) := by omega
        by_cases hH : patL (xs.take k) = patL (xs.drop (xs.length - k))
        · have HQ := Lib.hid (show decide (patL (xs.take k) = patL (xs.drop (xs.length - k))) = true by simpa using hH)
          have HS := Lib.hid (show ovTo xs (k + 1) = ovTo xs k ++ [(k : Int)] by rw [HS0.out, if_pos (show ovH xs k = true from HQ.out)])
          clear hH
          go_wp2_with fail
          go_region_held3 (fun _ => True) (trivial) ((first | (go_at_call 106; (with_reducible refine (pattern_impl A c k (xs.take k) _ HL1.out hk20 hr1).mono ?_); rintro e wq ⟨T1, t1, rfl, _, _, o1, b1⟩) | (go_at_call 106; (with_reducible refine (pattern_impl _ _ _ (xs.drop (xs.length - k)) _ HL2.out hk21 (hr2.next b1)).mono ?_); rintro e wq2 ⟨T2, t2, rfl, _, _, o2, b2⟩) | (go_at_call 105; (with_reducible refine (equal_b _ _ _ _ _ _ (patL (xs.take k)) (patL (xs.drop (xs.length - k))) _ true rfl rfl HLp ((Rd.of_own o1).next b2) (Rd.of_own o2) HQ.out).mono ?_); rintro e wr ⟨rfl, d3⟩)))
          have hb0 : Below w.heap.size w wp.drew := below_dr hb (Dr.of _ 1)
          have hszp : w.heap.size ≤ wp.drew.heap.size := hb0.size
          have hb := below_dr ((hb0.trans (b1.mono hszp)).trans (b2.mono (Nat.le_trans hszp b1.size))) d3
          have hown := d3.own (own_below (own_below (show wp.drew.ownsRow w.heap.size 3 1 (.slice A' (ovTo xs k).length c') (ovTo xs k).length ((ovTo xs k).map (Value.int .i64)) from hown) b1) b2)
          have hsz : w.heap.size ≤ wr.heap.size := hb.size
          clear b1 b2 d3 o1 o2 hb0 hszp hr1 hr2 hsl1 hsl2 hxr
          go_wp2_with (at_builtin; refine wpList_append_own _ rfl _ _ 24 rfl (w.heap.size) 3 i0 (.int .i64 0) 1 8 Try.underlying24 hi hz0 hz1 hz2 rfl (by decide) _ _ _ rfl (World.ownsRow.alloc hown _) ⟨wr.heap.size, 0, none⟩ 1 1 [.int .i64 ((k : Int))] rfl rfl (cell_one_new _ _ _) (by intro u hu; simp at hu; subst hu; rfl) (by unfold maxLen; omega) (by omega) (by simp; omega) ?_; intro v1 w1 hown1 hgrow1 _)
          have hb1 := (hb.alloc hsz (Obj.cells #[Value.int .i64 (k : Int)] 3)).grown hgrow1 (by simp; omega) (by intro g hg; exact ((hown.lt g hg).1))
          have hS2 : w1.ownsRow w.heap.size 3 1 v1 (ovTo xs (k + 1)).length ((ovTo xs (k + 1)).map (Value.int .i64)) := by rw [HS.out]; simpa using hown1
          obtain ⟨A1, cc, rfl, _, _⟩ := own_shape hS2
          have hH1 := Lib.hid hS2
          have hH2 := Lib.hid hb1
          clear hS2 hown1 hgrow1 hb1 hown hb
          go_wp2
          go_roundw
          case rel => exact ⟨k + 1, A1, cc, by omega, by omega, by go_num, rfl, hH1.out, hH2.out⟩
          case measure => simp [intOf]; omega
        · have HQ := Lib.hid (show decide (patL (xs.take k) = patL (xs.drop (xs.length - k))) = false by simpa using hH)
          have HS := Lib.hid (show ovTo xs (k + 1) = ovTo xs k by rw [HS0.out, if_neg (by rw [show ovH xs k = false from HQ.out]; simp)])
          clear hH
          go_wp2_with fail
          go_region_held3 (fun _ => True) (trivial) ((first | (go_at_call 106; (with_reducible refine (pattern_impl A c k (xs.take k) _ HL1.out hk20 hr1).mono ?_); rintro e wq ⟨T1, t1, rfl, _, _, o1, b1⟩) | (go_at_call 106; (with_reducible refine (pattern_impl _ _ _ (xs.drop (xs.length - k)) _ HL2.out hk21 (hr2.next b1)).mono ?_); rintro e wq2 ⟨T2, t2, rfl, _, _, o2, b2⟩) | (go_at_call 105; (with_reducible refine (equal_b _ _ _ _ _ _ (patL (xs.take k)) (patL (xs.drop (xs.length - k))) _ false rfl rfl HLp ((Rd.of_own o1).next b2) (Rd.of_own o2) HQ.out).mono ?_); rintro e wr ⟨rfl, d3⟩)))
          have hb0 : Below w.heap.size w wp.drew := below_dr hb (Dr.of _ 1)
          have hszp : w.heap.size ≤ wp.drew.heap.size := hb0.size
          have hb := below_dr ((hb0.trans (b1.mono hszp)).trans (b2.mono (Nat.le_trans hszp b1.size))) d3
          have hown := d3.own (own_below (own_below (show wp.drew.ownsRow w.heap.size 3 1 (.slice A' (ovTo xs k).length c') (ovTo xs k).length ((ovTo xs k).map (Value.int .i64)) from hown) b1) b2)
          have hsz : w.heap.size ≤ wr.heap.size := hb.size
          clear b1 b2 d3 o1 o2 hb0 hszp hr1 hr2 hsl1 hsl2 hxr
          go_wp2
          go_roundw
          case rel => exact ⟨k + 1, A', c', by omega, by omega, by go_num, by rw [HS.out], by rw [HS.out]; exact hown, hb⟩
          case measure => simp [intOf]; omega
      · have hd1 : decide ((k : Int) < (xs.length : Int)) = false := by rw [decide_eq_false_iff_not]; omega
        have HE := Lib.hid (show ovTo xs xs.length = ovTo xs k by
          rcases HK.out with h | h
          · rw [show xs.length = k by omega]
          · subst h
            rcases Nat.eq_zero_or_pos xs.length with h | h
            · rw [h]; rfl
            · rw [show xs.length = 1 by omega])
        go_wp2_with fail
        go_ret
        rw [HG.out, HE.out]
        exact ⟨A', c', rfl, (own_caps hown).1, (own_caps hown).2, hown, hb⟩
  · have hpf : permB xs = false := by simpa using hp
    have HG := Lib.hid (show ovG xs = [] by rw [ovG, if_neg hp])
    go_enter Try.func51, Try.ntmps51
    go_wp2_with fail
    refine (isPerm_impl _ _ _ _ h).mono ?_
    rintro e w1 ⟨rfl, hb1⟩
    rw [hpf]
    clear hp hpf
    go_wp2_with fail
    go_ret
    rw [HG.out]
    exact ⟨none, 0, rfl, Nat.le_refl _, Nat.zero_le _, World.ownsRow_nil _ _ _ _, hb1⟩

set_option maxHeartbeats 1600000 in
theorem overlaps_spec (A : Option Addr) (c : Nat) (xs : List Int) (w : World) (h : In w A c xs) :
    Calls Try.prog 59 #[.slice A xs.length c] w (Ret (Value.int .i64) 3 w (ovG xs)) := by
  obtain ⟨i0, hi, hz0, hz1, hz2⟩ := info_parts infoI
  by_cases hp : permB xs = true
  · have HG := Lib.hid (show ovG xs = ovTo xs xs.length by rw [ovG, if_pos hp])
    have HP := Lib.hid hp
    have h8 := (permB_true hp).1
    have hcap := h.cap
    clear hp
    go_enter Try.func59, Try.ntmps59
    go_wp2_with fail
    have hown0 : (w.alloc (.cells #[] 3)).ownsRow w.heap.size 3 1 (.slice (some ⟨w.heap.size, 0, none⟩) 0 0) (ovTo xs 1).length ((ovTo xs 1).map (Value.int .i64)) := World.ownsRow_lit w #[] 0 (Nat.le_refl _) (by unfold maxLen; omega) rfl
    have hb2 := (Below.refl w.heap.size w).alloc (Nat.le_refl _) (.cells #[] 3)
    go_loopw [3, 4] (fun v i wr => ∃ (k : Nat) (A' : Option Addr) (c' : Nat), 1 ≤ k ∧ (k ≤ xs.length ∨ k = 1) ∧ i = .int .i64 k ∧ v = .slice A' (ovTo xs k).length c' ∧ wr.ownsRow w.heap.size 3 1 (.slice A' (ovTo xs k).length c') (ovTo xs k).length ((ovTo xs k).map (Value.int .i64)) ∧ Below w.heap.size w wr) (fun _ i _ => xs.length - (intOf i).toNat)
    case atStart => exact ⟨1, _, _, Nat.le_refl _, .inr rfl, rfl, rfl, hown0, hb2⟩
    case round =>
      clear hown0 hb2
      obtain ⟨k, A', c', hk1, hk, rfl, rfl, hown, hb⟩ := hrel
      have HK := Lib.hid hk
      have hpl := ovTo_length xs k
      have hIn := h.next hb
      clear hk
      by_cases hlt : k < xs.length
      · have hd1 : decide ((k : Int) < (xs.length : Int)) = true := by simp; omega
        go_wp2_with fail
        refine (isPerm_spec _ _ _ _ hIn).mono ?_
        rintro e wp ⟨rfl, hd⟩
        rw [HP.out]
        have hown := hd.own hown
        have hb := below_dr hb hd
        have hIn := hIn.dr hd
        have hxr := hIn.rd
        have HS0 := Lib.hid (ovTo_succ xs k hk1)
        have hsl1 := fun w => run_slice_h (P := Try.prog) w 24 A xs.length c Try.underlying24 .i64 k (by omega) (by omega)
        have hsl2 := fun w => run_cut (P := Try.prog) (t := 24) Try.underlying24 sizeI A xs.length c (xs.length - k) ((xs.length : Int) - (k : Int)) (by omega) (by omega) w
        have e1 : IntKind.i64.wrap ((xs.length : Int) - (k : Int)) = (xs.length : Int) - (k : Int) := IntWalk.i64_in _ (by omega)
        have hr1 : Rd (Value.int .i64) wp.drew wp.drew.heap.size A (xs.take k) := hxr.take k
        have hk20 : k ≤ 1048576 := by omega
        have hr2 : Rd (Value.int .i64) wp.drew wp.drew.heap.size (cutA A c (xs.length - k)) (xs.drop (xs.length - k)) := hxr.cut (by omega) hcap
        have HL2 := Lib.hid (List.length_drop (i := xs.length - k) (l := xs))
        have hk21 : xs.length - (xs.length - k) ≤ 1048576 := by omega
        have HLp : (patL (xs.take k)).length ≤ 4611686018427387904 := by rw [patL_length, List.length_take]; omega
        have HL1 := Lib.hid (show (xs.take k).length = k by simp; omega)
        have e3 : 0 ≤ (xs.length : Int) - (k : Int) := by omega
        have e4 : (xs.length : Int) - (k : Int) ≤ (xs.length : Int) := by omega
        by_cases hH : patL (xs.take k) = patL (xs.drop (xs.length - k))
        · have HQ := Lib.hid (show decide (patL (xs.take k) = patL (xs.drop (xs.length - k))) = true by simpa using hH)
          have HS := Lib.hid (show ovTo xs (k + 1) = ovTo xs k ++ [(k : Int)] by rw [HS0.out, if_pos (show ovH xs k = true from HQ.out)])
          clear hH
          go_wp2_with fail
          go_region_held3 (fun _ => True) (trivial) ((first | (go_at_call 111; (with_reducible refine (pattern_spec A c k (xs.take k) _ HL1.out hk20 hr1).mono ?_); rintro e wq ⟨T1, t1, rfl, _, _, o1, b1⟩) | (go_at_call 111; (with_reducible refine (pattern_spec _ _ _ (xs.drop (xs.length - k)) _ HL2.out hk21 (hr2.next b1)).mono ?_); rintro e wq2 ⟨T2, t2, rfl, _, _, o2, b2⟩) | (go_at_call 110; (with_reducible refine (l2Same_b _ _ _ _ _ _ (patL (xs.take k)) (patL (xs.drop (xs.length - k))) _ true rfl rfl HLp ((Rd.of_own o1).next b2) (Rd.of_own o2) HQ.out).mono ?_); rintro e wr ⟨rfl, d3⟩)))
          have hb0 : Below w.heap.size w wp.drew := below_dr hb (Dr.of _ 1)
          have hszp : w.heap.size ≤ wp.drew.heap.size := hb0.size
          have hb := below_dr ((hb0.trans (b1.mono hszp)).trans (b2.mono (Nat.le_trans hszp b1.size))) d3
          have hown := d3.own (own_below (own_below (show wp.drew.ownsRow w.heap.size 3 1 (.slice A' (ovTo xs k).length c') (ovTo xs k).length ((ovTo xs k).map (Value.int .i64)) from hown) b1) b2)
          have hsz : w.heap.size ≤ wr.heap.size := hb.size
          clear b1 b2 d3 o1 o2 hb0 hszp hr1 hr2 hsl1 hsl2 hxr
          go_wp2_with (at_builtin; refine wpList_append_own _ rfl _ _ 24 rfl (w.heap.size) 3 i0 (.int .i64 0) 1 8 Try.underlying24 hi hz0 hz1 hz2 rfl (by decide) _ _ _ rfl (World.ownsRow.alloc hown _) ⟨wr.heap.size, 0, none⟩ 1 1 [.int .i64 ((k : Int))] rfl rfl (cell_one_new _ _ _) (by intro u hu; simp at hu; subst hu; rfl) (by unfold maxLen; omega) (by omega) (by simp; omega) ?_; intro v1 w1 hown1 hgrow1 _)
          have hb1 := (hb.alloc hsz (Obj.cells #[Value.int .i64 (k : Int)] 3)).grown hgrow1 (by simp; omega) (by intro g hg; exact ((hown.lt g hg).1))
          have hS2 : w1.ownsRow w.heap.size 3 1 v1 (ovTo xs (k + 1)).length ((ovTo xs (k + 1)).map (Value.int .i64)) := by rw [HS.out]; simpa using hown1
          obtain ⟨A1, cc, rfl, _, _⟩ := own_shape hS2
          have hH1 := Lib.hid hS2
          have hH2 := Lib.hid hb1
          clear hS2 hown1 hgrow1 hb1 hown hb
          go_wp2
          go_roundw
          case rel => exact ⟨k + 1, A1, cc, by omega, by omega, by go_num, rfl, hH1.out, hH2.out⟩
          case measure => simp [intOf]; omega
        · have HQ := Lib.hid (show decide (patL (xs.take k) = patL (xs.drop (xs.length - k))) = false by simpa using hH)
          have HS := Lib.hid (show ovTo xs (k + 1) = ovTo xs k by rw [HS0.out, if_neg (by rw [show ovH xs k = false from HQ.out]; simp)])
          clear hH
          go_wp2_with fail
          go_region_held3 (fun _ => True) (trivial) ((first | (go_at_call 111; (with_reducible refine (pattern_spec A c k (xs.take k) _ HL1.out hk20 hr1).mono ?_); rintro e wq ⟨T1, t1, rfl, _, _, o1, b1⟩) | (go_at_call 111; (with_reducible refine (pattern_spec _ _ _ (xs.drop (xs.length - k)) _ HL2.out hk21 (hr2.next b1)).mono ?_); rintro e wq2 ⟨T2, t2, rfl, _, _, o2, b2⟩) | (go_at_call 110; (with_reducible refine (l2Same_b _ _ _ _ _ _ (patL (xs.take k)) (patL (xs.drop (xs.length - k))) _ false rfl rfl HLp ((Rd.of_own o1).next b2) (Rd.of_own o2) HQ.out).mono ?_); rintro e wr ⟨rfl, d3⟩)))
          have hb0 : Below w.heap.size w wp.drew := below_dr hb (Dr.of _ 1)
          have hszp : w.heap.size ≤ wp.drew.heap.size := hb0.size
          have hb := below_dr ((hb0.trans (b1.mono hszp)).trans (b2.mono (Nat.le_trans hszp b1.size))) d3
          have hown := d3.own (own_below (own_below (show wp.drew.ownsRow w.heap.size 3 1 (.slice A' (ovTo xs k).length c') (ovTo xs k).length ((ovTo xs k).map (Value.int .i64)) from hown) b1) b2)
          have hsz : w.heap.size ≤ wr.heap.size := hb.size
          clear b1 b2 d3 o1 o2 hb0 hszp hr1 hr2 hsl1 hsl2 hxr
          go_wp2
          go_roundw
          case rel => exact ⟨k + 1, A', c', by omega, by omega, by go_num, by rw [HS.out], by rw [HS.out]; exact hown, hb⟩
          case measure => simp [intOf]; omega
      · have hd1 : decide ((k : Int) < (xs.length : Int)) = false := by rw [decide_eq_false_iff_not]; omega
        have HE := Lib.hid (show ovTo xs xs.length = ovTo xs k by
          rcases HK.out with h | h
          · rw [show xs.length = k by omega]
          · subst h
            rcases Nat.eq_zero_or_pos xs.length with h | h
            · rw [h]; rfl
            · rw [show xs.length = 1 by omega])
        go_wp2_with fail
        go_ret
        rw [HG.out, HE.out]
        exact ⟨A', c', rfl, (own_caps hown).1, (own_caps hown).2, hown, hb⟩
  · have hpf : permB xs = false := by simpa using hp
    have HG := Lib.hid (show ovG xs = [] by rw [ovG, if_neg hp])
    go_enter Try.func59, Try.ntmps59
    go_wp2_with fail
    have hb1 := (Below.refl w.heap.size w).alloc (Nat.le_refl _) (.cells #[] 3)
    have h1 := h.next hb1
    refine wp_loop_rounds 1 ?_
    rw [rounds_succ]
    by_cases hlt : 1 < xs.length
    · have hd1 : decide ((1 : Int) < (xs.length : Int)) = true := by simp; omega
      go_wp2_with fail
      refine (isPerm_spec _ _ _ _ h1).mono ?_
      rintro e w1 ⟨rfl, hd⟩
      rw [hpf]
      clear hp hpf
      go_wp2_with fail
      go_ret
      rw [HG.out]
      exact ⟨_, _, rfl, Nat.le_refl _, Nat.zero_le _, hd.own (World.ownsRow_lit w #[] 0 (Nat.le_refl _) (Nat.zero_le _) rfl), below_dr hb1 hd⟩
    · have hd1 : decide ((1 : Int) < (xs.length : Int)) = false := by rw [decide_eq_false_iff_not]; omega
      go_wp2_with fail
      go_ret
      rw [HG.out]
      exact ⟨_, _, rfl, Nat.le_refl _, Nat.zero_le _, World.ownsRow_lit w #[] 0 (Nat.le_refl _) (Nat.zero_le _) rfl, hb1⟩


theorem loose_impl (A : Option Addr) (c : Nat) (xs : List Int) (w : World) (h : In w A c xs) :
    Calls Try.prog 66 #[.slice A xs.length c] w (Rb w (.bool (decide ((ovG xs).length = 1)))) := by
  have hL := ovG_length xs
  go_enter Try.func66, Try.ntmps66
  go_wp2_with fail
  refine (overlaps_impl _ _ _ _ h).mono ?_
  rintro e w1 ⟨T, t, rfl, _, _, _, hb⟩
  have HB : (((ovG xs).length : Int) == 1) = decide ((ovG xs).length = 1) := by rw [Bool.eq_iff_iff]; simp; omega
  have HB2 := Lib.hid HB
  clear HB
  go_wp2_with fail
  go_ret
  exact ⟨ret_bool HB2.out, hb⟩


def runH (p q : List Int) (i : Nat) : Bool := decide (patL ((p.drop i).take q.length) = q)
def runsTo (p q : List Int) (k : Nat) : Nat := ((List.range k).filter (runH p q)).length
theorem runsTo_succ (p q : List Int) (k : Nat) : runsTo p q (k + 1) = runsTo p q k + (if runH p q k = true then 1 else 0) := by
  unfold runsTo
  rw [List.range_succ, List.filter_append, List.length_append]
  congr 1
  by_cases h : runH p q k = true <;> simp [h]
theorem runsTo_le (p q : List Int) (k : Nat) : runsTo p q k ≤ k := Nat.le_trans (List.length_filter_le _ _) (by simp)
def runsN (p q : List Int) : Nat := runsTo p q (p.length + 1 - q.length)
def runsG (p q : List Int) : Int := if permB p = true ∧ permB q = true ∧ q.length ≠ 0 then (runsN p q : Int) else -1

set_option maxRecDepth 100000 in
set_option maxHeartbeats 1000000 in
theorem countRuns_impl (A B : Option Addr) (c d : Nat) (p q : List Int) (w1 : World) (hp1 : In w1 A c p) (hq1 : In w1 B d q) (h8 : p.length ≤ 8) (hq8 : q.length ≤ 8) (hq0 : 0 < q.length) :
    Calls Try.prog 109 #[.slice A p.length c, .slice B q.length d] w1 (Rb w1 (.int .i64 (runsN p q : Int))) := by
  have hcap := hp1.cap
  · go_enter Try.func109, Try.ntmps109
    go_wp2_with fail
    go_loopw [5, 6] (fun s i wr => ∃ k : Nat, k ≤ p.length + 1 - q.length ∧ i = .int .i64 k ∧ s = .int .i64 (runsTo p q k : Int) ∧ Below w1.heap.size w1 wr) (fun _ i _ => p.length + 1 - q.length - (intOf i).toNat)
    case atStart => exact ⟨0, Nat.zero_le _, rfl, rfl, Below.refl _ _⟩
    case round =>
      obtain ⟨k, hk, rfl, rfl, hb⟩ := hrel
      have hle := runsTo_le p q k
      rcases Nat.lt_or_ge k (p.length + 1 - q.length) with hlt | hge
      · have hpr := (hp1.next hb).rd
        have hqr := (hq1.next hb).rd
        have hsl := fun w => run_cut2 (P := Try.prog) (t := 24) Try.underlying24 sizeI A p.length c k (k + q.length) (k : Int) ((k : Int) + (q.length : Int)) rfl (by omega) (by omega) (by omega) w
        have hr1 : Rd (Value.int .i64) wr wr.heap.size (cutA A c k) ((p.drop k).take q.length) := (hpr.cut (by omega) hcap).take _
        have HL1 := Lib.hid (show ((p.drop k).take q.length).length = q.length by simp; omega)
        have hk20 : q.length ≤ 1048576 := by omega
        have HLp : (patL ((p.drop k).take q.length)).length ≤ 4611686018427387904 := by rw [patL_length, List.length_take]; omega
        have HS0 := Lib.hid (runsTo_succ p q k)
        by_cases hH : runH p q k = true
        · have HQ := Lib.hid (show decide (patL ((p.drop k).take q.length) = q) = true from hH)
          have HS := Lib.hid (show runsTo p q (k + 1) = runsTo p q k + 1 by rw [HS0.out, if_pos hH])
          clear hH
          go_wp2_with fail
          (with_reducible refine (pattern_impl _ _ _ ((p.drop k).take q.length) _ HL1.out hk20 hr1).mono ?_)
          rintro e wq ⟨T1, t1, rfl, _, _, o1, b1⟩
          go_wp2_with fail
          (with_reducible refine (equal_b _ _ _ _ _ _ (patL ((p.drop k).take q.length)) q _ true rfl rfl HLp (Rd.of_own o1) (hqr.next b1) HQ.out).mono ?_)
          rintro e wr2 ⟨rfl, d3⟩
          have hb2 := Lib.hid (below_dr (hb.trans (b1.mono hb.size)) d3)
          clear b1 d3 o1 hr1 hsl hpr hqr hb
          go_wp2_with fail
          go_roundw
          case rel => exact ⟨k + 1, by omega, by go_num, by rw [HS.out]; go_num, hb2.out⟩
          case measure => simp [intOf]; omega
        · have HQ := Lib.hid (show decide (patL ((p.drop k).take q.length) = q) = false from Bool.eq_false_iff.2 hH)
          have HS := Lib.hid (show runsTo p q (k + 1) = runsTo p q k by rw [HS0.out, if_neg hH]; rfl)
          clear hH
          go_wp2_with fail
          (with_reducible refine (pattern_impl _ _ _ ((p.drop k).take q.length) _ HL1.out hk20 hr1).mono ?_)
          rintro e wq ⟨T1, t1, rfl, _, _, o1, b1⟩
          go_wp2_with fail
          (with_reducible refine (equal_b _ _ _ _ _ _ (patL ((p.drop k).take q.length)) q _ false rfl rfl HLp (Rd.of_own o1) (hqr.next b1) HQ.out).mono ?_)
          rintro e wr2 ⟨rfl, d3⟩
          have hb2 := Lib.hid (below_dr (hb.trans (b1.mono hb.size)) d3)
          clear b1 d3 o1 hr1 hsl hpr hqr hb
          go_wp2_with fail
          go_roundw
          case rel => exact ⟨k + 1, by omega, by go_num, by rw [HS.out], hb2.out⟩
          case measure => simp [intOf]; omega
      · obtain rfl : k = p.length + 1 - q.length := by omega
        go_wp2_with fail
        go_ret
        exact ⟨rfl, hb⟩

set_option maxHeartbeats 400000 in
theorem runs_impl (A : Option Addr) (c : Nat) (p : List Int) (B : Option Addr) (d : Nat) (q : List Int) (w : World) (hp1 : In w A c p) (hq1 : In w B d q) :
    Calls Try.prog 55 #[.slice A p.length c, .slice B q.length d] w (Rb w (.int .i64 (runsG p q))) := by
  by_cases hp : permB p = true
  · have h8 := (permB_true hp).1
    by_cases hq : permB q = true
    · have hq8 := (permB_true hq).1
      by_cases h0 : q.length = 0
      · have HG := Lib.hid (show runsG p q = -1 by rw [runsG, if_neg (fun h => h.2.2 h0)])
        have hz : (((q.length : Nat) : Int) == 0) = true := by simp [h0]
        clear h0
        go_enter Try.func55, Try.ntmps55
        go_wp2_with fail
        refine (isPerm_impl _ _ _ _ hp1).mono ?_
        rintro e w1 ⟨rfl, hb1⟩
        rw [hp]
        clear hp
        go_wp2_with fail
        refine (isPerm_impl _ _ _ _ (hq1.next hb1)).mono ?_
        rintro e w2 ⟨rfl, hb2⟩
        rw [hq]
        clear hq
        go_wp2_with fail
        go_ret
        exact ⟨ret_int HG.out.symm, hb1.trans (hb2.mono hb1.size)⟩
      · have HG := Lib.hid (show runsG p q = (runsN p q : Int) by rw [runsG, if_pos ⟨hp, hq, h0⟩])
        have hz : (((q.length : Nat) : Int) == 0) = false := by simp; exact fun h => h0 (by rw [h]; rfl)
        have h0' : 0 < q.length := by omega
        clear h0
        go_enter Try.func55, Try.ntmps55
        go_wp2_with fail
        refine (isPerm_impl _ _ _ _ hp1).mono ?_
        rintro e w1 ⟨rfl, hb1⟩
        rw [hp]
        clear hp
        go_wp2_with fail
        refine (isPerm_impl _ _ _ _ (hq1.next hb1)).mono ?_
        rintro e w2 ⟨rfl, hb2⟩
        rw [hq]
        clear hq
        go_wp2_with fail
        refine (countRuns_impl _ _ _ _ _ _ _ ((hp1.next hb1).next hb2) ((hq1.next hb1).next hb2) h8 hq8 h0').mono ?_
        rintro e w3 ⟨rfl, hb3⟩
        go_wp2_with fail
        go_ret
        exact ⟨ret_int HG.out.symm, (hb1.trans (hb2.mono hb1.size)).trans (hb3.mono (Nat.le_trans hb1.size hb2.size))⟩
    · have hqf : permB q = false := by simpa using hq
      have HG := Lib.hid (show runsG p q = -1 by rw [runsG, if_neg (fun h => hq h.2.1)])
      clear hq
      go_enter Try.func55, Try.ntmps55
      go_wp2_with fail
      refine (isPerm_impl _ _ _ _ hp1).mono ?_
      rintro e w1 ⟨rfl, hb1⟩
      rw [hp]
      clear hp
      go_wp2_with fail
      refine (isPerm_impl _ _ _ _ (hq1.next hb1)).mono ?_
      rintro e w2 ⟨rfl, hb2⟩
      rw [hqf]
      clear hqf
      go_wp2_with fail
      go_ret
      exact ⟨ret_int HG.out.symm, hb1.trans (hb2.mono hb1.size)⟩
  · have hpf : permB p = false := by simpa using hp
    have HG := Lib.hid (show runsG p q = -1 by rw [runsG, if_neg (fun h => hp h.1)])
    clear hp
    go_enter Try.func55, Try.ntmps55
    go_wp2_with fail
    refine (isPerm_impl _ _ _ _ hp1).mono ?_
    rintro e w1 ⟨rfl, hb1⟩
    rw [hpf]
    clear hpf
    go_wp2_with fail
    go_ret
    exact ⟨ret_int HG.out.symm, hb1⟩

set_option maxRecDepth 100000 in
set_option maxHeartbeats 1000000 in
theorem runs_spec (A : Option Addr) (c : Nat) (p : List Int) (B : Option Addr) (d : Nat) (q : List Int) (w : World) (hp1 : In w A c p) (hq1 : In w B d q) :
    Calls Try.prog 56 #[.slice A p.length c, .slice B q.length d] w (Rb w (.int .i64 (runsG p q))) := by
  have hcap := hp1.cap
  by_cases hp : permB p = true
  · by_cases hq : permB q = true
    · have h8 := (permB_true hp).1
      have hq8 := (permB_true hq).1
      by_cases h0 : q.length = 0
      · have HG := Lib.hid (show runsG p q = -1 by rw [runsG, if_neg (fun h => h.2.2 h0)])
        have hz : (((q.length : Nat) : Int) == 0) = true := by simp [h0]
        clear h0
        go_enter Try.func56, Try.ntmps56
        go_wp2_with fail
        refine (isPerm_spec _ _ _ _ hp1).mono ?_
        rintro e wa ⟨rfl, da⟩
        rw [hp]
        clear hp
        go_wp2_with fail
        refine (isPerm_spec _ _ _ _ (hq1.dr da)).mono ?_
        rintro e w1 ⟨rfl, db⟩
        rw [hq]
        clear hq
        go_wp2_with fail
        go_ret
        exact ⟨ret_int HG.out.symm, below_dr (Below.refl _ _) (da.trans db)⟩
      · have HG := Lib.hid (show runsG p q = (runsN p q : Int) by rw [runsG, if_pos ⟨hp, hq, h0⟩])
        have hz : (((q.length : Nat) : Int) == 0) = false := by simp; exact fun h => h0 (by rw [h]; rfl)
        have hq0 : 0 < q.length := by omega
        clear h0
        go_enter Try.func56, Try.ntmps56
        go_wp2_with fail
        refine (isPerm_spec _ _ _ _ hp1).mono ?_
        rintro e wa ⟨rfl, da⟩
        rw [hp]
        clear hp
        go_wp2_with fail
        refine (isPerm_spec _ _ _ _ (hq1.dr da)).mono ?_
        rintro e w1 ⟨rfl, db⟩
        rw [hq]
        clear hq
        have hp1 := (hp1.dr da).dr db
        have hq1 := (hq1.dr da).dr db
        have HD := Lib.hid (below_dr (Below.refl w.heap.size w) (da.trans db))
        clear da db
        go_wp2_with fail
        go_loopw [5, 6] (fun s i wr => ∃ k : Nat, k ≤ p.length + 1 - q.length ∧ i = .int .i64 k ∧ s = .int .i64 (runsTo p q k : Int) ∧ Below w1.heap.size w1 wr) (fun _ i _ => p.length + 1 - q.length - (intOf i).toNat)
        case atStart => exact ⟨0, Nat.zero_le _, rfl, rfl, Below.refl _ _⟩
        case round =>
          obtain ⟨k, hk, rfl, rfl, hb⟩ := hrel
          have hle := runsTo_le p q k
          rcases Nat.lt_or_ge k (p.length + 1 - q.length) with hlt | hge
          · have hpr := (hp1.next hb).rd
            have hqr := (hq1.next hb).rd
            have hsl := fun w => run_cut2 (P := Try.prog) (t := 24) Try.underlying24 sizeI A p.length c k (k + q.length) (k : Int) ((k : Int) + (q.length : Int)) rfl (by omega) (by omega) (by omega) w
            have hr1 : Rd (Value.int .i64) wr wr.heap.size (cutA A c k) ((p.drop k).take q.length) := (hpr.cut (by omega) hcap).take _
            have HL1 := Lib.hid (show ((p.drop k).take q.length).length = q.length by simp; omega)
            have hk20 : q.length ≤ 1048576 := by omega
            have HLp : (patL ((p.drop k).take q.length)).length ≤ 4611686018427387904 := by rw [patL_length, List.length_take]; omega
            have HS0 := Lib.hid (runsTo_succ p q k)
            by_cases hH : runH p q k = true
            · have HQ := Lib.hid (show decide (patL ((p.drop k).take q.length) = q) = true from hH)
              have HS := Lib.hid (show runsTo p q (k + 1) = runsTo p q k + 1 by rw [HS0.out, if_pos hH])
              clear hH
              go_wp2_with fail
              (with_reducible refine (pattern_spec _ _ _ ((p.drop k).take q.length) _ HL1.out hk20 hr1).mono ?_)
              rintro e wq ⟨T1, t1, rfl, _, _, o1, b1⟩
              go_wp2_with fail
              (with_reducible refine (l2Same_b _ _ _ _ _ _ (patL ((p.drop k).take q.length)) q _ true rfl rfl HLp (Rd.of_own o1) (hqr.next b1) HQ.out).mono ?_)
              rintro e wr2 ⟨rfl, d3⟩
              have hb2 := Lib.hid (below_dr (hb.trans (b1.mono hb.size)) d3)
              clear b1 d3 o1 hr1 hsl hpr hqr hb
              go_wp2_with (go_at_call 91; refine (l1Bit_q _ _).mono ?_; rintro e w' ⟨rfl, rfl⟩)
              go_roundw
              case rel => exact ⟨k + 1, by omega, by go_num, by rw [HS.out]; go_num, hb2.out⟩
              case measure => simp [intOf]; omega
            · have HQ := Lib.hid (show decide (patL ((p.drop k).take q.length) = q) = false from Bool.eq_false_iff.2 hH)
              have HS := Lib.hid (show runsTo p q (k + 1) = runsTo p q k by rw [HS0.out, if_neg hH]; rfl)
              clear hH
              go_wp2_with fail
              (with_reducible refine (pattern_spec _ _ _ ((p.drop k).take q.length) _ HL1.out hk20 hr1).mono ?_)
              rintro e wq ⟨T1, t1, rfl, _, _, o1, b1⟩
              go_wp2_with fail
              (with_reducible refine (l2Same_b _ _ _ _ _ _ (patL ((p.drop k).take q.length)) q _ false rfl rfl HLp (Rd.of_own o1) (hqr.next b1) HQ.out).mono ?_)
              rintro e wr2 ⟨rfl, d3⟩
              have hb2 := Lib.hid (below_dr (hb.trans (b1.mono hb.size)) d3)
              clear b1 d3 o1 hr1 hsl hpr hqr hb
              go_wp2_with (go_at_call 91; refine (l1Bit_q _ _).mono ?_; rintro e w' ⟨rfl, rfl⟩)
              go_roundw
              case rel => exact ⟨k + 1, by omega, by go_num, by rw [HS.out], hb2.out⟩
              case measure => simp [intOf]; omega
          · obtain rfl : k = p.length + 1 - q.length := by omega
            go_wp2_with fail
            go_ret
            exact ⟨ret_int HG.out.symm, HD.out.trans (hb.mono HD.out.size)⟩
    · have hqf : permB q = false := by simpa using hq
      have HG := Lib.hid (show runsG p q = -1 by rw [runsG, if_neg (fun h => hq h.2.1)])
      clear hq
      go_enter Try.func56, Try.ntmps56
      go_wp2_with fail
      refine (isPerm_spec _ _ _ _ hp1).mono ?_
      rintro e wa ⟨rfl, da⟩
      rw [hp]
      clear hp
      go_wp2_with fail
      refine (isPerm_spec _ _ _ _ (hq1.dr da)).mono ?_
      rintro e w1 ⟨rfl, db⟩
      rw [hqf]
      clear hqf
      go_wp2_with fail
      go_ret
      exact ⟨ret_int HG.out.symm, below_dr (Below.refl _ _) (da.trans db)⟩
  · have hpf : permB p = false := by simpa using hp
    have HG := Lib.hid (show runsG p q = -1 by rw [runsG, if_neg (fun h => hp h.1)])
    clear hp
    go_enter Try.func56, Try.ntmps56
    go_wp2_with fail
    refine (isPerm_spec _ _ _ _ hp1).mono ?_
    rintro e wa ⟨rfl, da⟩
    rw [hpf]
    clear hpf
    go_wp2_with fail
    go_ret
    exact ⟨ret_int HG.out.symm, below_dr (Below.refl _ _) da⟩
end Go.Proofs.Ythipikllgpnlhaa

/- Counting permutations for which something holds; AvoidRuns. -/
namespace Go.Proofs.Ythipikllgpnlhaa
set_option maxRecDepth 100000
open Go Go.RowKit

theorem isPerm_ib (A : Option Addr) (c : Nat) (xs : List Int) (w : World) (b : Bool) (h : In w A c xs) (hb : permB xs = b) : Calls Try.prog 74 #[.slice A xs.length c] w (Rb w (.bool b)) := by
  subst hb; exact isPerm_impl A c xs w h
theorem isPerm_sb (A : Option Addr) (c : Nat) (xs : List Int) (w : World) (b : Bool) (h : In w A c xs) (hb : permB xs = b) : Calls Try.prog 19 #[.slice A xs.length c] w (Rq w (.bool b)) := by
  subst hb; exact isPerm_spec A c xs w h
theorem l1Bit_b (b : Bool) (n : Int) (w : World) (hb : (if b = true then 1 else 0) = n) : Calls Try.prog 91 #[.bool b] w fun e w' => e = .returned (.int .i64 n) ∧ w = w' := by
  subst hb; exact l1Bit_q b w
/-- How many of the first k have it. -/
def cntTo {α : Type} (H : α → Bool) (l : List α) (k : Nat) : Nat := ((l.take k).filter H).length
theorem cntTo_succ {α : Type} (H : α → Bool) (l : List α) (k : Nat) (h : k < l.length) : cntTo H l (k + 1) = cntTo H l k + (if H l[k] = true then 1 else 0) := by
  unfold cntTo
  rw [List.take_succ_eq_append_getElem h, List.filter_append, List.length_append]
  by_cases hh : H l[k] = true <;> simp [hh]
theorem cntTo_le {α : Type} (H : α → Bool) (l : List α) (k : Nat) : cntTo H l k ≤ k := by
  unfold cntTo
  have h1 := List.length_filter_le H (l.take k)
  have h2 := List.length_take_le k l
  omega
theorem cntTo_all {α : Type} (H : α → Bool) (l : List α) : cntTo H l l.length = (l.filter H).length := by unfold cntTo; rw [List.take_length]
theorem permsL_le {n : Nat} (hn : n ≤ 6) : (permsL n).length ≤ 46656 := Nat.le_trans (permsI_le n n) (pow_six hn hn)
theorem row_in {w : World} {B : Nat} {rs : List Row} {os : List Outer} (h : Read w B rs os) {r : Row} (hr : r ∈ rs) (hl : r.xs.length ≤ 1048576) (hB : B ≤ w.heap.size) : In w r.A r.c r.xs := ⟨hl, h.cap r hr, (h.rd r hr).more hB⟩
theorem map_getX {rs : List Row} {L : List (List Int)} (h : rs.map Row.xs = L) {j : Nat} (hj : j < rs.length) : rs[j].xs = L[j]'(by rw [← h, List.length_map]; exact hj) := by
  subst h; simp
theorem map_memX {rs : List Row} {L : List (List Int)} (h : rs.map Row.xs = L) {r : Row} (hr : r ∈ rs) : r.xs ∈ L := by
  subst h; exact List.mem_map.2 ⟨r, hr, rfl⟩

def sixB (n : Int) : Bool := decide (0 ≤ n ∧ n ≤ 6)
theorem isSix_any (n : Int) (w : World) (b : Bool) (hb : sixB n = b) : Calls Try.prog 112 #[.int .i64 n] w fun e w' => e = .returned (.bool b) ∧ w = w' := by
  subst hb
  by_cases h0 : 0 ≤ n
  · by_cases h6 : n ≤ 6
    · have HS := Lib.hid (show sixB n = true by simp [sixB, h0, h6])
      go_enter Try.func112, Try.ntmps112
      go_wp2
      go_ret
      exact ⟨ret_bool (by rw [HS.out]), rfl⟩
    · have HS := Lib.hid (show sixB n = false by simp [sixB, h6])
      go_enter Try.func112, Try.ntmps112
      go_wp2
      go_ret
      exact ⟨ret_bool (by rw [HS.out]), rfl⟩
  · have HS := Lib.hid (show sixB n = false by simp [sixB, h0])
    go_enter Try.func112, Try.ntmps112
    go_wp2
    go_ret
    exact ⟨ret_bool (by rw [HS.out]), rfl⟩

set_option maxHeartbeats 2000000 in
theorem counted_impl (n : Nat) (F g : Nat) (H : List Int → Bool) (w : World) (hn : n ≤ 6)
    (hF : ∀ args w', (callFunc F args).run Try.prog w' = .ok (.enter F args) w')
    (hcl : ∀ (w' : World) (A : Option Addr) (c : Nat) (p : List Int), Below w.heap.size w w' → In w' A c p → p ∈ permsL n → Calls Try.prog F #[.slice A p.length c, .pointer (some ⟨g, 0, none⟩)] w' (Rb w' (.bool (H p)))) :
    Calls Try.prog 113 #[.int .i64 n, .func (.func F) #[] #[.pointer (some ⟨g, 0, none⟩)]] w (Rb w (.int .i64 (((permsL n).filter H).length : Int))) := by
  go_enter Try.func113, Try.ntmps113
  go_wp2_with fail
  (with_reducible refine (perms_impl n w hn).mono ?_)
  rintro e w1 ⟨A1, c1, rs, rfl, hX, hO, hb1⟩
  have hRd := hO.read
  have HX := Lib.hid hX
  have hlen : rs.length ≤ 46656 := by have h1 := permsL_le hn; rw [← HX.out, List.length_map] at h1; exact h1
  clear hX hO
  go_wp2_with fail
  go_loopw [5, 11] (fun s i wr => ∃ k : Nat, k ≤ rs.length ∧ i = .int .i64 k ∧ s = .int .i64 (cntTo (fun r : Row => H r.xs) rs k : Nat) ∧ Below w1.heap.size w1 wr) (fun _ i _ => rs.length - (intOf i).toNat)
  case atStart => exact ⟨0, Nat.zero_le _, rfl, rfl, Below.refl _ _⟩
  case round =>
    obtain ⟨k, hk, rfl, rfl, hb⟩ := hrel
    have hle := cntTo_le (fun r : Row => H r.xs) rs k
    rcases Nat.lt_or_ge k rs.length with hlt | hge
    · have hRd2 := hRd.below hb
      obtain ⟨b, off, rfl, _, hc⟩ := hRd2.at (by omega)
      have c1' := hc k hlt
      have hmem := map_memX HX.out (List.getElem_mem hlt)
      have hl6 : rs[k].xs.length ≤ 1048576 := by have := (permsI_mem hmem).1; omega
      have hin := row_in hRd2 (List.getElem_mem hlt) hl6 hb.size
      have hbw := hb1.trans (hb.mono hb1.size)
      have HS := Lib.hid (cntTo_succ (fun r : Row => H r.xs) rs k hlt)
      have HM := Lib.hid hmem
      clear hc hmem hRd2
      go_wp2_with fail
      (with_reducible refine (hcl wr rs[k].A rs[k].c rs[k].xs hbw hin HM.out).mono ?_)
      rintro e w2 ⟨rfl, hb2⟩
      have hb3 := hb.trans (hb2.mono hb.size)
      by_cases hH : H rs[k].xs = true
      · have HT := Lib.hid (show cntTo (fun r : Row => H r.xs) rs (k + 1) = cntTo (fun r : Row => H r.xs) rs k + 1 by rw [HS.out, if_pos hH])
        rw [hH]
        clear hH HS
        go_wp2_with fail
        go_roundw
        case rel => exact ⟨k + 1, by omega, by go_num, by rw [HT.out]; all_goals go_num, hb3⟩
        case measure => simp [intOf]; omega
      · have hHf : H rs[k].xs = false := by simpa using hH
        have HT := Lib.hid (show cntTo (fun r : Row => H r.xs) rs (k + 1) = cntTo (fun r : Row => H r.xs) rs k by rw [HS.out, if_neg hH, Nat.add_zero])
        rw [hHf]
        clear hH hHf HS
        go_wp2_with fail
        go_roundw
        case rel => exact ⟨k + 1, by omega, by go_num, by rw [HT.out], hb3⟩
        case measure => simp [intOf]; omega
    · obtain rfl : k = rs.length := by omega
      have HE := Lib.hid (show cntTo (fun r : Row => H r.xs) rs rs.length = ((permsL n).filter H).length by
        rw [cntTo_all, ← HX.out, List.filter_map, List.length_map]; rfl)
      go_wp2_with fail
      go_ret
      exact ⟨ret_int (by rw [HE.out]), hb1.trans (hb.mono hb1.size)⟩

def avrH (q p : List Int) : Bool := decide (runsN p q = 0)
def avrG (n : Int) (q : List Int) : Int := if sixB n = true ∧ permB q = true ∧ q.length ≠ 0 then (((permsL n.toNat).filter (avrH q)).length : Int) else -1
set_option maxHeartbeats 1000000 in
theorem avr_cl (A B : Option Addr) (c d g : Nat) (p q : List Int) (w : World) (hp : In w A c p) (hq : In w B d q) (hg : w.cell? ⟨g, 0, none⟩ = some (.slice B q.length d)) (h8 : p.length ≤ 8) (hq8 : q.length ≤ 8) (hq0 : 0 < q.length) :
    Calls Try.prog 114 #[.slice A p.length c, .pointer (some ⟨g, 0, none⟩)] w (Rb w (.bool (avrH q p))) := by
  have HD := Lib.hid (show ((runsN p q : Int) == 0) = avrH q p by unfold avrH; rw [Bool.eq_iff_iff]; simp)
  go_enter Try.func114, Try.ntmps114
  go_wp2_with fail
  (with_reducible refine (countRuns_impl A B c d p q w hp hq h8 hq8 hq0).mono ?_)
  rintro e w1 ⟨rfl, hb1⟩
  go_wp2_with fail
  go_ret
  exact ⟨ret_bool HD.out, hb1⟩
theorem call_avr (args : Array Value) (w : World) : (callFunc 114 args).run Try.prog w = .ok (.enter 114 args) w := by kernel_rfl
set_option maxHeartbeats 2000000 in
theorem avoidRuns_impl (n : Int) (_ : -9223372036854775808 ≤ n ∧ n ≤ 9223372036854775807) (B : Option Addr) (d : Nat) (q : List Int) (w : World) (hq : In w B d q) :
    Calls Try.prog 57 #[.int .i64 n, .slice B q.length d] w (Rb w (.int .i64 (avrG n q))) := by
  have hmf : ∀ (fn : Fn) (first cap : Array Value) (w : World), (Instr.makeFunc fn first cap).run Try.prog w = .ok (.func fn first cap) w := fun _ _ _ _ => rfl
  have hb0 := (Below.refl w.heap.size w).alloc (Nat.le_refl _) (.cells #[.slice B q.length d] 24)
  have h0 := hq.next hb0
  have hc0 := alloc_cell w (.slice B q.length d) 24
  have hz0 : (w.alloc (.cells #[.slice B q.length d] 24)).heap.size = w.heap.size + 1 := by simp
  go_enter Try.func57, Try.ntmps57
  go_wp2_with fail
  generalize (w.alloc (.cells #[.slice B q.length d] 24)) = w0 at hb0 h0 hc0 hz0 ⊢
  by_cases h6 : sixB n = true
  · (with_reducible refine (isSix_any n w0 true h6).mono ?_)
    rintro e w' ⟨rfl, rfl⟩
    have h6' : 0 ≤ n ∧ n ≤ 6 := by simpa [sixB] using h6
    obtain ⟨m, rfl⟩ := Int.eq_ofNat_of_zero_le h6'.1
    have hm : m ≤ 6 := by omega
    have H6 := Lib.hid h6
    clear h6 h6'
    go_wp2_with fail
    by_cases hp : permB q = true
    · have HP := Lib.hid hp
      have h8 := (permB_true hp).1
      clear hp
      (with_reducible refine (isPerm_ib B d q w0 true h0 HP.out).mono ?_)
      rintro e w1 ⟨rfl, hb1⟩
      have hc1 : w1.cell? ⟨w.heap.size, 0, none⟩ = some (.slice B q.length d) := (hb1.cell (p := ⟨w.heap.size, 0, none⟩) (by rw [hz0]; exact Nat.lt_succ_self _)).trans hc0
      have h1 := h0.next hb1
      have hsz1 := hb1.size
      by_cases hl : q.length = 0
      · have HG := Lib.hid (show avrG m q = -1 by unfold avrG; rw [if_neg]; exact fun h => h.2.2 hl)
        have hd : ((q.length : Int) == 0) = true := by simp; exact List.eq_nil_of_length_eq_zero hl
        clear hl
        go_wp2_with fail
        go_ret
        exact ⟨ret_int (by rw [HG.out]), hb0.trans (hb1.mono hb0.size)⟩
      · have hq0 : 0 < q.length := by omega
        have HG := Lib.hid (show avrG m q = (((permsL m).filter (avrH q)).length : Int) by unfold avrG; rw [if_pos ⟨H6.out, HP.out, hl⟩]; rfl)
        have hd : ((q.length : Int) == 0) = false := by simp; intro h; rw [h] at hq0; simp at hq0
        clear hl
        go_wp2_with fail
        refine (counted_impl m 114 w.heap.size (avrH q) w1 hm (fun args w' => call_avr args w') (fun w' A c p hb hin hmem => ?_)).mono ?_
        · have hlp : p.length = m := (permsI_mem hmem).1
          exact avr_cl A B c d _ p q w' hin (h1.next hb) ((hb.cell (p := ⟨w.heap.size, 0, none⟩) (by show w.heap.size < w1.heap.size; omega)).trans hc1) (by omega) h8 hq0
        · rintro e w2 ⟨rfl, hb2⟩
          go_wp2_with fail
          go_ret
          exact ⟨ret_int (by rw [HG.out]), (hb0.trans (hb1.mono hb0.size)).trans (hb2.mono (Nat.le_trans hb0.size hb1.size))⟩
    · have hpf : permB q = false := by simpa using hp
      have HG := Lib.hid (show avrG m q = -1 by unfold avrG; rw [if_neg]; exact fun h => hp h.2.1)
      clear hp
      (with_reducible refine (isPerm_ib B d q w0 false h0 hpf).mono ?_)
      rintro e w1 ⟨rfl, hb1⟩
      clear hpf
      go_wp2_with fail
      go_ret
      exact ⟨ret_int (by rw [HG.out]), hb0.trans (hb1.mono hb0.size)⟩
  · have h6f : sixB n = false := by simpa using h6
    have HG := Lib.hid (show avrG n q = -1 by unfold avrG; rw [if_neg]; exact fun h => h6 h.1)
    clear h6
    (with_reducible refine (isSix_any n w0 false h6f).mono ?_)
    rintro e w' ⟨rfl, rfl⟩
    clear h6f
    go_wp2_with fail
    go_ret
    exact ⟨ret_int (by rw [HG.out]), hb0⟩

set_option maxHeartbeats 2000000 in
theorem avoidRuns_spec (n : Int) (_ : -9223372036854775808 ≤ n ∧ n ≤ 9223372036854775807) (B : Option Addr) (d : Nat) (q : List Int) (w : World) (hq : In w B d q) :
    Calls Try.prog 58 #[.int .i64 n, .slice B q.length d] w (Rb w (.int .i64 (avrG n q))) := by
  go_enter Try.func58, Try.ntmps58
  go_wp2_with fail
  by_cases h6 : sixB n = true
  · have h6' : 0 ≤ n ∧ n ≤ 6 := by simpa [sixB] using h6
    (with_reducible refine (l1In_b n 0 6 w true (decide_eq_true h6')).mono ?_)
    rintro e w' ⟨rfl, rfl⟩
    obtain ⟨m, rfl⟩ := Int.eq_ofNat_of_zero_le h6'.1
    have hm : m ≤ 6 := by omega
    have HPG := Lib.hid (show permsG (m : Int) = permsL m by unfold permsG; rw [if_pos h6']; rfl)
    have H6 := Lib.hid h6
    clear h6 h6'
    go_wp2_with fail
    by_cases hp : permB q = true
    · have HP := Lib.hid hp
      have h8 := (permB_true hp).1
      clear hp
      (with_reducible refine (isPerm_sb B d q w true hq HP.out).mono ?_)
      rintro e w0 ⟨rfl, hd0⟩
      have h0 := hq.dr hd0
      have hb0 := below_dr (Below.refl w.heap.size w) hd0
      by_cases hl : q.length = 0
      · have HG := Lib.hid (show avrG m q = -1 by unfold avrG; rw [if_neg]; exact fun h => h.2.2 hl)
        have hd : ((q.length : Int) == 0) = true := by simp; exact List.eq_nil_of_length_eq_zero hl
        clear hl
        go_wp2_with fail
        go_ret
        exact ⟨ret_int (by rw [HG.out]), hb0⟩
      · have hq0 : 0 < q.length := by omega
        have HG := Lib.hid (show avrG m q = (((permsL m).filter (avrH q)).length : Int) by unfold avrG; rw [if_pos ⟨H6.out, HP.out, hl⟩]; rfl)
        have hd : ((q.length : Int) == 0) = false := by simp; intro h; rw [h] at hq0; simp at hq0
        clear hl
        go_wp2_with fail
        (with_reducible refine (permsOf_spec (m : Int) w0).mono ?_)
        rintro e w1 ⟨A1, c1, rs, rfl, hX, hO, hb1⟩
        rw [HPG.out] at hX
        have hRd := hO.read
        have HX := Lib.hid hX
        have hlen : rs.length ≤ 46656 := by have h1 := permsL_le hm; rw [← HX.out, List.length_map] at h1; exact h1
        have h1 := h0.next hb1
        have hbw1 := hb0.trans (hb1.mono hb0.size)
        clear hX hO
        go_wp2_with fail
        go_loopw [5, 7] (fun s i wr => ∃ k : Nat, k ≤ rs.length ∧ i = .int .i64 k ∧ s = .int .i64 (cntTo (fun r : Row => avrH q r.xs) rs k : Nat) ∧ Below w1.heap.size w1 wr) (fun _ i _ => rs.length - (intOf i).toNat)
        case atStart => exact ⟨0, Nat.zero_le _, rfl, rfl, Below.refl _ _⟩
        case round =>
          obtain ⟨k, hk, rfl, rfl, hb⟩ := hrel
          have hle := cntTo_le (fun r : Row => avrH q r.xs) rs k
          rcases Nat.lt_or_ge k rs.length with hlt | hge
          · have hRd2 := hRd.below hb
            obtain ⟨b, off, rfl, _, hc⟩ := hRd2.at (by omega)
            have c1' := hc k hlt
            have hmem := map_memX HX.out (List.getElem_mem hlt)
            have hlm := (permsI_mem hmem).1
            have hl6 : rs[k].xs.length ≤ 1048576 := by omega
            have hin := row_in hRd2 (List.getElem_mem hlt) hl6 hb.size
            have HR := Lib.hid (show runsG rs[k].xs q = (runsN rs[k].xs q : Int) by unfold runsG; rw [if_pos ⟨(permsL_perm (by omega) hmem).1, HP.out, by omega⟩])
            have HS := Lib.hid (cntTo_succ (fun r : Row => avrH q r.xs) rs k hlt)
            clear hc hmem hlm hRd2
            go_wp2_with fail
            (with_reducible refine (runs_spec rs[k].A rs[k].c rs[k].xs B d q wr hin (h1.next hb)).mono ?_)
            rintro e w2 ⟨rfl, hb2⟩
            rw [HR.out]
            have hb3 := hb.trans (hb2.mono hb.size)
            by_cases hH : avrH q rs[k].xs = true
            · have HT := Lib.hid (show cntTo (fun r : Row => avrH q r.xs) rs (k + 1) = cntTo (fun r : Row => avrH q r.xs) rs k + 1 by rw [HS.out, if_pos hH])
              have hz : ((runsN rs[k].xs q : Int) == 0) = true := by have := hH; unfold avrH at this; simpa using this
              clear hH HS
              go_wp2_with fail
              (with_reducible refine (l1Bit_b true 1 _ rfl).mono ?_)
              rintro e w' ⟨rfl, rfl⟩
              clear hz
              go_wp2_with fail
              go_roundw
              case rel => exact ⟨k + 1, by omega, by go_num, by rw [HT.out]; all_goals go_num, hb3⟩
              case measure => simp [intOf]; omega
            · have HT := Lib.hid (show cntTo (fun r : Row => avrH q r.xs) rs (k + 1) = cntTo (fun r : Row => avrH q r.xs) rs k by rw [HS.out, if_neg hH, Nat.add_zero])
              have hz : ((runsN rs[k].xs q : Int) == 0) = false := by have := hH; unfold avrH at this; simpa using this
              clear hH HS
              go_wp2_with fail
              (with_reducible refine (l1Bit_b false 0 _ rfl).mono ?_)
              rintro e w' ⟨rfl, rfl⟩
              clear hz
              go_wp2_with fail
              go_roundw
              case rel => exact ⟨k + 1, by omega, by go_num, by rw [HT.out]; all_goals go_num, hb3⟩
              case measure => simp [intOf]; omega
          · obtain rfl : k = rs.length := by omega
            have HE := Lib.hid (show cntTo (fun r : Row => avrH q r.xs) rs rs.length = ((permsL m).filter (avrH q)).length by
              rw [cntTo_all, ← HX.out, List.filter_map, List.length_map]; rfl)
            go_wp2_with fail
            go_ret
            exact ⟨ret_int (by rw [HG.out, HE.out]), hbw1.trans (hb.mono hbw1.size)⟩
    · have hpf : permB q = false := by simpa using hp
      have HG := Lib.hid (show avrG m q = -1 by unfold avrG; rw [if_neg]; exact fun h => hp h.2.1)
      clear hp
      (with_reducible refine (isPerm_sb B d q w false hq hpf).mono ?_)
      rintro e w0 ⟨rfl, hd0⟩
      have hb0 := below_dr (Below.refl w.heap.size w) hd0
      clear hpf
      go_wp2_with fail
      go_ret
      exact ⟨ret_int (by rw [HG.out]), hb0⟩
  · have h6f : sixB n = false := by simpa using h6
    have HG := Lib.hid (show avrG n q = -1 by unfold avrG; rw [if_neg]; exact fun h => h6 h.1)
    have h6' : decide (0 ≤ n ∧ n ≤ 6) = false := h6f
    clear h6 h6f
    (with_reducible refine (l1In_b n 0 6 w false h6').mono ?_)
    rintro e w' ⟨rfl, rfl⟩
    clear h6'
    go_wp2_with fail
    go_ret
    exact ⟨ret_int (by rw [HG.out]), Below.refl _ _⟩
end Go.Proofs.Ythipikllgpnlhaa

/- Contracts of MahonRow and EulerRow, program and reference. -/
namespace Go.Proofs.Ythipikllgpnlhaa
set_option maxRecDepth 100000
open Go Go.RowKit

theorem own_put {α : Type} {f : α → Value} {w : World} {base e g n cap : Nat} {xs : List α} (h : w.ownsRow base e 1 (.slice (some ⟨g, 0, none⟩) n cap) n (xs.map f)) (j : Nat) (hj : j < xs.length) (x : α) :
    w.cell? ⟨g, j, none⟩ = some (f xs[j]) ∧ w.frozen? ⟨g, j, none⟩ = false ∧ (w.setCell ⟨g, j, none⟩ (f x)).ownsRow base e 1 (.slice (some ⟨g, 0, none⟩) n cap) n ((xs.set j x).map f) := by
  have hl := own_len h
  simp only [List.length_map] at hl
  refine ⟨?_, h.frozenAt j, ?_⟩
  · rw [h.cellAt j (by omega)]; simp [hj]
  · rw [List.map_set]; exact (h.stored j (f x)).1

theorem made_zeros {w : World} {base e n : Nat} {v : Value} (h : w.ownsRow base e 1 v n (madeCells (Value.int .i64 0).cells (n * 1)).toList) : w.ownsRow base e 1 v n ((List.replicate n (0 : Int)).map (Value.int .i64)) := by
  rw [show (Value.int .i64 0).cells = #[.int .i64 0] from rfl, toList_madeCells_one, Nat.mul_one] at h
  simpa using h

def addAt (nx : List Int) (p : Nat) (x : Int) : List Int := nx.set p (wrap64 (nx[p]?.getD 0 + x))
def mahL (nx : List Int) (k : Nat) (x : Int) : Nat → List Int
  | 0 => nx
  | l + 1 => addAt (mahL nx k x l) (k + l) x
def mahK (row : List Int) (i : Nat) : Nat → List Int
  | 0 => List.replicate (row.length + i - 1) 0
  | k + 1 => mahL (mahK row i k) k (row[k]?.getD 0) i
def mahRow : Nat → List Int
  | 0 => [1]
  | 1 => [1]
  | j + 2 => mahK (mahRow (j + 1)) (j + 2) (mahRow (j + 1)).length
def mahG (n : Int) : List Int := if 1 ≤ n ∧ n ≤ 10 then mahRow n.toNat else []
theorem addAt_length (nx : List Int) (p : Nat) (x : Int) : (addAt nx p x).length = nx.length := by simp [addAt]
theorem mahL_length (nx : List Int) (k : Nat) (x : Int) (l : Nat) : (mahL nx k x l).length = nx.length := by
  induction l with
  | zero => rfl
  | succ l ih => rw [mahL, addAt_length, ih]
theorem mahK_length (row : List Int) (i k : Nat) : (mahK row i k).length = row.length + i - 1 := by
  induction k with
  | zero => simp [mahK]
  | succ k ih => rw [mahK, mahL_length, ih]
theorem mahRow_succ (q : Nat) (h : 1 ≤ q) : mahRow (q + 1) = mahK (mahRow q) (q + 1) (mahRow q).length := by
  obtain ⟨j, rfl⟩ : ∃ j, q = j + 1 := ⟨q - 1, by omega⟩
  rfl
theorem mahRow_length_le (q : Nat) (h : q ≤ 11) : 1 ≤ (mahRow q).length ∧ (mahRow q).length ≤ 1 + 11 * q := by
  induction q with
  | zero => simp [mahRow]
  | succ q ih =>
    rcases Nat.eq_zero_or_pos q with rfl | h1
    · simp [mahRow]
    · rw [mahRow_succ q h1, mahK_length]
      have := ih (by omega)
      omega

set_option maxHeartbeats 800000 in
theorem mahon_impl (n : Int) (_ : -9223372036854775808 ≤ n ∧ n ≤ 9223372036854775807) (w : World) : Calls Try.prog 27 #[.int .i64 n] w (Ret (Value.int .i64) 3 w (mahG n)) := by
  obtain ⟨i0, hi, hz0, hz1, hz2⟩ := info_parts infoI
  by_cases h : 1 ≤ n ∧ n ≤ 10
  · obtain ⟨a1, a2⟩ := h
    obtain ⟨m, rfl⟩ := Int.eq_ofNat_of_zero_le (show 0 ≤ n by omega)
    have hG : mahG m = mahRow m := by rw [mahG, if_pos ⟨a1, a2⟩]; rfl
    have HG := Lib.hid hG
    clear hG
    go_enter Try.func27, Try.ntmps27
    go_wp2
    have hown0 : (w.alloc (.cells #[.int .i64 1] 3)).ownsRow w.heap.size 3 1 (.slice (some ⟨w.heap.size, 0, none⟩) 1 1) 1 ((mahRow 1).map (Value.int .i64)) := World.ownsRow_lit w _ 1 (Nat.le_refl _) (by unfold maxLen; omega) rfl
    have hb0 := (Below.refl w.heap.size w).alloc (Nat.le_refl _) (.cells #[.int .i64 1] 3)
    go_loopw [3, 4] (fun v i wr => ∃ (q : Nat) (A : Option Addr) (c : Nat), 1 ≤ q ∧ q ≤ m ∧ i = .int .i64 ((q : Int) + 1) ∧ v = .slice A (mahRow q).length c ∧ wr.ownsRow w.heap.size 3 1 (.slice A (mahRow q).length c) (mahRow q).length ((mahRow q).map (Value.int .i64)) ∧ Below w.heap.size w wr) (fun _ i _ => m + 1 - (intOf i).toNat)
    case atStart => exact ⟨1, _, _, Nat.le_refl _, by omega, rfl, rfl, hown0, hb0⟩
    case round =>
      clear hown0 hb0
      obtain ⟨q, A, c, hq1, hq, rfl, rfl, hown, hb⟩ := hrel
      have hsz := hb.size
      rcases Nat.lt_or_ge q m with hlt | hge
      · have hL := mahRow_length_le q (by omega)
        obtain ⟨hL1, hL2⟩ := hL
        have hrd := Rd.of_own hown
        obtain ⟨wo, rfl⟩ : ∃ wo : World, wo = wr := ⟨_, rfl⟩
        obtain ⟨L, hLe⟩ : ∃ L, L = (mahRow q).length + (q + 1) - 1 := ⟨_, rfl⟩
        have HL := Lib.hid hLe
        have hLb : L ≤ 1000 := by omega
        have hLq : (mahRow q).length + q ≤ L := by omega
        have hLr : L ≤ (mahRow q).length + q := by omega
        clear hLe
        go_wp2_with (at_make; refine wpList_make_full _ rfl _ _ 24 rfl (w.heap.size) 3 i0 (.int .i64 0) 1 Try.underlying24 hi hz0 hz1 .i64 .i64 _ _ (L) rfl rfl (by omega) (by omega) (by rw [hz2]; omega) (by unfold maxLen; omega) (by omega) ?_; intro w1 hown1 hgrow1)
        have hownZ := made_zeros hown1
        have hbo := below_none hgrow1
        clear hown1 hgrow1
        go_wp2
        go_loopw [29] (fun i wi => ∃ k : Nat, k ≤ (mahRow q).length ∧ i = .int .i64 k ∧ wi.ownsRow w.heap.size 3 1 (.slice (some ⟨wo.heap.size, 0, none⟩) L L) L ((mahK (mahRow q) (q + 1) k).map (Value.int .i64)) ∧ Below wo.heap.size wo wi) (fun i _ => (mahRow q).length - (intOf i).toNat)
        case atStart => exact ⟨0, Nat.zero_le _, rfl, by rw [mahK, ← HL.out]; exact hownZ, hbo⟩
        case round =>
          clear hownZ hbo
          obtain ⟨k, hk, rfl, hownK, hbK⟩ := hrel
          obtain ⟨wk, rfl⟩ : ∃ wk : World, wk = wr := ⟨_, rfl⟩
          rcases Nat.lt_or_ge k (mahRow q).length with hk2 | hk2
          · have hrk := hrd.below hbK
            obtain ⟨b, off, rfl, hbb, hc⟩ := hrk (by omega)
            have hck := hc k hk2
            clear hc hrk
            go_wp2
            go_loopw [35] (fun i wi => ∃ l : Nat, l ≤ q + 1 ∧ i = .int .i64 l ∧ wi.ownsRow w.heap.size 3 1 (.slice (some ⟨wo.heap.size, 0, none⟩) L L) L ((mahL (mahK (mahRow q) (q + 1) k) k ((mahRow q)[k]) l).map (Value.int .i64)) ∧ Below wo.heap.size wo wi) (fun i _ => q + 1 - (intOf i).toNat)
            case atStart => exact ⟨0, Nat.zero_le _, rfl, hownK, hbK⟩
            case round =>
              clear hownK hbK hck
              obtain ⟨l, hl, rfl, hownL, hbL⟩ := hrel
              rcases Nat.lt_or_ge l (q + 1) with hl2 | hl2
              · have hlen : (mahL (mahK (mahRow q) (q + 1) k) k ((mahRow q)[k]) l).length = L := by rw [mahL_length, mahK_length, ← HL.out]
                obtain ⟨T, hT⟩ : ∃ T, T = mahL (mahK (mahRow q) (q + 1) k) k ((mahRow q)[k]) l := ⟨_, rfl⟩
                rw [← hT] at hownL hlen
                have hkl : k + l < T.length := by omega
                obtain ⟨p1, p2, p3⟩ := own_put hownL (k + l) hkl (wrap64 (T[k + l] + (mahRow q)[k]))
                have hS := Lib.hid (show mahL (mahK (mahRow q) (q + 1) k) k ((mahRow q)[k]) (l + 1) = T.set (k + l) (wrap64 (T[k + l] + (mahRow q)[k])) by rw [mahL, ← hT, addAt, List.getElem?_eq_getElem hkl]; rfl)
                have hb2 := Lib.hid (hbL.setCell (p := ⟨wo.heap.size, k + l, none⟩) (Nat.le_refl _) (.int .i64 (wrap64 (T[k + l] + (mahRow q)[k]))))
                have P3 := Lib.hid p3
                have hT2 := Lib.hid hT
                have hkL : k + l < L := by omega
                clear p3 hT hlen hownL hbL
                go_wp2
                go_roundw
                case rel => exact ⟨l + 1, by omega, by go_num, by rw [hS.out]; exact P3.out, hb2.out⟩
                case measure => simp [intOf]; omega
              · obtain rfl : l = q + 1 := by omega
                have hS := Lib.hid (show mahK (mahRow q) (q + 1) (k + 1) = mahL (mahK (mahRow q) (q + 1) k) k ((mahRow q)[k]) (q + 1) by rw [mahK, List.getElem?_eq_getElem hk2]; rfl)
                go_wp2
                go_roundw
                case rel => exact ⟨k + 1, by omega, by go_num, by rw [hS.out]; exact hownL, hbL⟩
                case measure => simp [intOf]; omega
          · obtain rfl : k = (mahRow q).length := by omega
            have hS := Lib.hid (mahRow_succ q hq1)
            have hLs := Lib.hid (show (mahRow (q + 1)).length = L by rw [mahRow_succ q hq1, mahK_length, ← HL.out])
            have hbw := Lib.hid (hb.trans (hbK.mono hsz))
            go_wp2
            go_roundw
            case rel => exact ⟨q + 1, _, _, by omega, by omega, by go_num, by rw [hLs.out], by rw [hLs.out, hS.out]; exact hownK, hbw.out⟩
            case measure => simp [intOf]; omega
      · obtain rfl : q = m := by omega
        have hL := mahRow_length_le q (by omega)
        go_wp2
        go_ret
        rw [HG.out]
        have := (own_shape hown)
        obtain ⟨_, _, he, h1, h2⟩ := this
        injection he with _ _ hcc
        subst hcc
        exact ⟨_, _, rfl, h1, h2, hown, hb⟩
  · have HV := Lib.hid (show mahG n = [] by rw [mahG, if_neg h])
    by_cases h1 : n < 1
    · clear h
      go_enter Try.func27, Try.ntmps27
      go_wp2
      go_ret
      rw [HV.out]
      exact ⟨none, 0, rfl, Nat.le_refl _, Nat.zero_le _, World.ownsRow_nil _ _ _ _, Below.refl _ _⟩
    · have h2 : 10 < n := by omega
      clear h
      go_enter Try.func27, Try.ntmps27
      go_wp2
      go_ret
      rw [HV.out]
      exact ⟨none, 0, rfl, Nat.le_refl _, Nat.zero_le _, World.ownsRow_nil _ _ _ _, Below.refl _ _⟩

set_option maxHeartbeats 800000 in
theorem mahon_spec (n : Int) (_ : -9223372036854775808 ≤ n ∧ n ≤ 9223372036854775807) (w : World) : Calls Try.prog 46 #[.int .i64 n] w (Ret (Value.int .i64) 3 w (mahG n)) := by
  obtain ⟨i0, hi, hz0, hz1, hz2⟩ := info_parts infoI
  by_cases h : 1 ≤ n ∧ n ≤ 10
  · obtain ⟨a1, a2⟩ := h
    obtain ⟨m, rfl⟩ := Int.eq_ofNat_of_zero_le (show 0 ≤ n by omega)
    have hG : mahG m = mahRow m := by rw [mahG, if_pos ⟨a1, a2⟩]; rfl
    have HG := Lib.hid hG
    have hd1 : decide (1 ≤ (m : Int) ∧ (m : Int) ≤ 10) = true := by simp [a1, a2]
    clear hG
    go_enter Try.func46, Try.ntmps46
    go_wp2_with (go_at_call 87; refine (l1In_any _ _ _ _).mono ?_; rintro e w' ⟨rfl, rfl⟩)
    clear hd1
    have hown0 : (w.alloc (.cells #[.int .i64 1] 3)).ownsRow w.heap.size 3 1 (.slice (some ⟨w.heap.size, 0, none⟩) 1 1) 1 ((mahRow 1).map (Value.int .i64)) := World.ownsRow_lit w _ 1 (Nat.le_refl _) (by unfold maxLen; omega) rfl
    have hb0 := (Below.refl w.heap.size w).alloc (Nat.le_refl _) (.cells #[.int .i64 1] 3)
    go_loopw [3, 4] (fun v i wr => ∃ (q : Nat) (A : Option Addr) (c : Nat), 1 ≤ q ∧ q ≤ m ∧ i = .int .i64 ((q : Int) + 1) ∧ v = .slice A (mahRow q).length c ∧ wr.ownsRow w.heap.size 3 1 (.slice A (mahRow q).length c) (mahRow q).length ((mahRow q).map (Value.int .i64)) ∧ Below w.heap.size w wr) (fun _ i _ => m + 1 - (intOf i).toNat)
    case atStart => exact ⟨1, _, _, Nat.le_refl _, by omega, rfl, rfl, hown0, hb0⟩
    case round =>
      clear hown0 hb0
      obtain ⟨q, A, c, hq1, hq, rfl, rfl, hown, hb⟩ := hrel
      have hsz := hb.size
      rcases Nat.lt_or_ge q m with hlt | hge
      · have hL := mahRow_length_le q (by omega)
        obtain ⟨hL1, hL2⟩ := hL
        have hrd := Rd.of_own hown
        obtain ⟨wo, rfl⟩ : ∃ wo : World, wo = wr := ⟨_, rfl⟩
        obtain ⟨L, hLe⟩ : ∃ L, L = (mahRow q).length + (q + 1) - 1 := ⟨_, rfl⟩
        have HL := Lib.hid hLe
        have hLb : L ≤ 1000 := by omega
        have hLq : (mahRow q).length + q ≤ L := by omega
        have hLr : L ≤ (mahRow q).length + q := by omega
        clear hLe
        go_wp2_with (at_make; refine wpList_make_full _ rfl _ _ 24 rfl (w.heap.size) 3 i0 (.int .i64 0) 1 Try.underlying24 hi hz0 hz1 .i64 .i64 _ _ (L) rfl rfl (by omega) (by omega) (by rw [hz2]; omega) (by unfold maxLen; omega) (by omega) ?_; intro w1 hown1 hgrow1)
        have hownZ := made_zeros hown1
        have hbo := below_none hgrow1
        clear hown1 hgrow1
        go_wp2
        go_loopw [6] (fun i wi => ∃ k : Nat, k ≤ (mahRow q).length ∧ i = .int .i64 k ∧ wi.ownsRow w.heap.size 3 1 (.slice (some ⟨wo.heap.size, 0, none⟩) L L) L ((mahK (mahRow q) (q + 1) k).map (Value.int .i64)) ∧ Below wo.heap.size wo wi) (fun i _ => (mahRow q).length - (intOf i).toNat)
        case atStart => exact ⟨0, Nat.zero_le _, rfl, by rw [mahK, ← HL.out]; exact hownZ, hbo⟩
        case round =>
          clear hownZ hbo
          obtain ⟨k, hk, rfl, hownK, hbK⟩ := hrel
          obtain ⟨wk, rfl⟩ : ∃ wk : World, wk = wr := ⟨_, rfl⟩
          rcases Nat.lt_or_ge k (mahRow q).length with hk2 | hk2
          · have hrk := hrd.below hbK
            obtain ⟨b, off, rfl, hbb, _⟩ := hrk (by omega)
            clear hrk
            go_wp2
            go_loopw [7] (fun i wi => ∃ l : Nat, l ≤ q + 1 ∧ i = .int .i64 l ∧ wi.ownsRow w.heap.size 3 1 (.slice (some ⟨wo.heap.size, 0, none⟩) L L) L ((mahL (mahK (mahRow q) (q + 1) k) k ((mahRow q)[k]) l).map (Value.int .i64)) ∧ Below wo.heap.size wo wi) (fun i _ => q + 1 - (intOf i).toNat)
            case atStart => exact ⟨0, Nat.zero_le _, rfl, hownK, hbK⟩
            case round =>
              clear hownK hbK
              obtain ⟨l, hl, rfl, hownL, hbL⟩ := hrel
              rcases Nat.lt_or_ge l (q + 1) with hl2 | hl2
              · have hlen : (mahL (mahK (mahRow q) (q + 1) k) k ((mahRow q)[k]) l).length = L := by rw [mahL_length, mahK_length, ← HL.out]
                obtain ⟨T, hT⟩ : ∃ T, T = mahL (mahK (mahRow q) (q + 1) k) k ((mahRow q)[k]) l := ⟨_, rfl⟩
                rw [← hT] at hownL hlen
                have hkl : k + l < T.length := by omega
                obtain ⟨p1, p2, p3⟩ := own_put hownL (k + l) hkl (wrap64 (T[k + l] + (mahRow q)[k]))
                have hS := Lib.hid (show mahL (mahK (mahRow q) (q + 1) k) k ((mahRow q)[k]) (l + 1) = T.set (k + l) (wrap64 (T[k + l] + (mahRow q)[k])) by rw [mahL, ← hT, addAt, List.getElem?_eq_getElem hkl]; rfl)
                have hb2 := Lib.hid (hbL.setCell (p := ⟨wo.heap.size, k + l, none⟩) (Nat.le_refl _) (.int .i64 (wrap64 (T[k + l] + (mahRow q)[k]))))
                have P3 := Lib.hid p3
                have hT2 := Lib.hid hT
                have hkL : k + l < L := by omega
                have hrk := hrd.below hbL
                obtain ⟨b', off', hAA, _, hc⟩ := hrk (by omega)
                simp only [Option.some.injEq, Addr.mk.injEq, and_true] at hAA
                obtain ⟨rfl, rfl⟩ := hAA
                have hck := hc k hk2
                have e1 : IntKind.i64.wrap ((k : Int) + (l : Int)) = (k : Int) + (l : Int) := IntWalk.i64_in _ (by omega)
                have e2 : 0 ≤ (k : Int) + (l : Int) := by omega
                have e3 : ((k : Int) + (l : Int)).toNat = k + l := by omega
                have e4 : (k : Int) + (l : Int) < (L : Int) := by omega
                clear p3 hT hlen hownL hbL hc hrk
                go_wp2
                go_still_tail 16, (by kernel_rfl)
                go_wp2
                go_roundw
                case rel => exact ⟨l + 1, by omega, by go_num, by rw [hS.out]; exact P3.out, below_dr hb2.out (Dr.of _ 1)⟩
                case measure => simp [intOf]; omega
              · obtain rfl : l = q + 1 := by omega
                have hS := Lib.hid (show mahK (mahRow q) (q + 1) (k + 1) = mahL (mahK (mahRow q) (q + 1) k) k ((mahRow q)[k]) (q + 1) by rw [mahK, List.getElem?_eq_getElem hk2]; rfl)
                go_wp2
                go_roundw
                case rel => exact ⟨k + 1, by omega, by go_num, by rw [hS.out]; exact hownL, hbL⟩
                case measure => simp [intOf]; omega
          · obtain rfl : k = (mahRow q).length := by omega
            have hS := Lib.hid (mahRow_succ q hq1)
            have hLs := Lib.hid (show (mahRow (q + 1)).length = L by rw [mahRow_succ q hq1, mahK_length, ← HL.out])
            have hbw := Lib.hid (hb.trans (hbK.mono hsz))
            go_wp2
            go_roundw
            case rel => exact ⟨q + 1, _, _, by omega, by omega, by go_num, by rw [hLs.out], by rw [hLs.out, hS.out]; exact hownK, hbw.out⟩
            case measure => simp [intOf]; omega
      · obtain rfl : q = m := by omega
        have hL := mahRow_length_le q (by omega)
        go_wp2
        go_ret
        rw [HG.out]
        have := (own_shape hown)
        obtain ⟨_, _, he, h1, h2⟩ := this
        injection he with _ _ hcc
        subst hcc
        exact ⟨_, _, rfl, h1, h2, hown, hb⟩
  · have HV := Lib.hid (show mahG n = [] by rw [mahG, if_neg h])
    have hd1 : decide (1 ≤ n ∧ n ≤ 10) = false := by rw [decide_eq_false_iff_not]; exact h
    clear h
    go_enter Try.func46, Try.ntmps46
    go_wp2_with (go_at_call 87; refine (l1In_any _ _ _ _).mono ?_; rintro e w' ⟨rfl, rfl⟩)
    go_ret
    rw [HV.out]
    exact ⟨_, _, rfl, Nat.le_refl _, Nat.zero_le _, World.ownsRow_lit w #[] 0 (Nat.le_refl _) (Nat.zero_le _) rfl, (Below.refl _ _).alloc (Nat.le_refl _) _⟩
theorem mahG_length (n : Int) : (mahG n).length ≤ 1000 := by
  unfold mahG
  split
  · have := mahRow_length_le n.toNat (by omega)
    omega
  · simp


end Go.Proofs.Ythipikllgpnlhaa
