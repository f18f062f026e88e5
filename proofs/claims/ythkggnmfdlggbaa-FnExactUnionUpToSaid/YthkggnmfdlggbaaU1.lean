/- The lower permutations: lowers, LowersOf, l7Without. -/
import Derived.Test.YthkggnmfdlggbaaQ3
import Derived.Test.YthkggnmfdlggbaaY3
import Derived.Test.YthkggnmfdlggbaaZ2
namespace Go.Proofs.Ythkggnmfdlggbaa
set_option maxRecDepth 100000
open Go Go.RowKit

def lowM (p : List Int) (k : Nat) : List (List Int) := (List.range k).map fun i => patL (cutAt p i)
theorem lowM_succ (p : List Int) (k : Nat) : lowM p (k + 1) = lowM p k ++ [patL (cutAt p k)] := by simp [lowM, List.range_succ]
theorem lowM_length (p : List Int) (k : Nat) : (lowM p k).length = k := by simp [lowM]
/-- The different patterns without a place, in order. -/
def lowL (p : List Int) : List (List Int) := ordL (lowM p p.length)
theorem lowM_len {p : List Int} {k : Nat} (hk : k ≤ p.length) : ∀ q ∈ lowM p k, q.length = p.length - 1 := fun q hq => by
  unfold lowM at hq
  obtain ⟨i, hi, rfl⟩ := List.mem_map.1 hq
  rw [patL_length, cutAt_length p i (by have := List.mem_range.1 hi; omega)]
theorem lowL_len {p : List Int} : ∀ q ∈ lowL p, q.length = p.length - 1 := fun q hq => lowM_len (Nat.le_refl _) q ((ordL_mem _ q).1 hq)
theorem lowL_length (p : List Int) : (lowL p).length ≤ p.length := by
  have h := ordL_len (lowM p p.length)
  rw [lowM_length] at h
  exact h
theorem sizeX_of {X : List (List Int)} {m : Nat} (h : ∀ s ∈ X, s.length ≤ m) : sizeX X ≤ X.length * m := by
  induction X with
  | nil => simp [sizeX]
  | cons a t ih =>
    have h1 := h a (by simp)
    have h2 := ih (fun s hs => h s (by simp [hs]))
    simp only [sizeX, List.map_cons, List.sum_cons, List.length_cons, Nat.add_mul, Nat.one_mul] at h2 ⊢
    omega
set_option maxHeartbeats 2000000 in
theorem lowers_impl (A : Option Addr) (c : Nat) (p : List Int) (w : World) (h : In w A c p) (h8 : p.length ≤ 8) :
    Calls Try.prog 102 #[.slice A p.length c] w (RetL w (lowL p)) := by
  obtain ⟨j0, hj, hy0, hy1, hy2⟩ := info_parts infoL
  have hlit := Own.lit (lo := w.heap.size) w (Nat.le_refl _)
  have hb0 := (Below.refl w.heap.size w).alloc (Nat.le_refl _) (.cells #[] 22)
  go_enter Try.func102, Try.ntmps102
  go_wp2_with fail
  go_loopw [3, 8] (fun v i wr => ∃ (k : Nat) (A1 : Option Addr) (c1 : Nat) (ds : List Row), k ≤ p.length ∧ i = .int .i64 k ∧ v = .slice A1 ds.length c1 ∧ Hid (ds.map Row.xs = lowM p k) ∧ Own wr w.heap.size wr.heap.size ds [⟨A1, c1, ds.map Row.v⟩] ∧ Below w.heap.size w wr) (fun _ i _ => p.length - (intOf i).toNat)
  case atStart => exact ⟨0, _, _, [], Nat.zero_le _, rfl, rfl, Lib.hid rfl, hlit, hb0⟩
  case round =>
    clear hlit hb0
    obtain ⟨k, A1, c1, ds, hk, rfl, rfl, HX, hO, hb⟩ := hrel
    have hdl : ds.length = k := by have := congrArg List.length HX.out; rw [List.length_map, lowM_length] at this; exact this
    have hsz := hb.size
    rcases Nat.lt_or_ge k p.length with hlt | hge
    · have HC := Lib.hid (without_impl A c k p wr (h.next hb) hlt)
      have HD := Lib.hid hdl
      have hkd : ds.length ≤ 8 := by omega
      clear hdl
      go_wp2_with fail
      (with_reducible refine HC.out.mono ?_)
      rintro e w1 ⟨A3, c3, rfl, _, _, own3, hbB⟩
      have hszB := hbB.size
      have hO2 := (hO.below hbB).add (r := ⟨A3, c3, patL (cutAt p k)⟩) own3 hszB hsz
      have ho2 := hO2.outN (n := ds.length) (by simp)
      clear own3 hO
      go_wp2_with (at_builtin; refine wpList_append_own _ rfl _ _ 33 rfl (w.heap.size) 22 j0 (.slice none 0 0) 1 24 Try.underlying33 hj hy0 hy1 hy2 rfl (by decide) _ _ _ rfl (World.ownsRow.alloc ho2 _) ⟨w1.heap.size, 0, none⟩ 1 1 [Value.slice A3 (patL (cutAt p k)).length c3] rfl rfl (cell_one_at _ _ (by simp)) (by intro u hu; simp at hu; subst hu; rfl) (by unfold maxLen; omega) (by omega) (by simp; omega) ?_; intro v9 w9 hown9 hgrow9 _)
      obtain ⟨A5, c5, rfl, hO3, hg3⟩ := hO2.grow (Nat.le_refl _) (by simp) hown9 hgrow9
      have hbw := (hb.trans (hbB.mono hsz)).grown hg3 (by omega) (fun g hg => (hO2.olim (by simp) g hg).1)
      have K := Lib.hid (And.intro hO3 hbw)
      clear hO3 hbw hown9 hgrow9 hg3 hO2 ho2 hbB hb
      go_wp2_with fail
      go_roundw
      case rel => exact ⟨k + 1, A5, c5, ds ++ [⟨A3, c3, patL (cutAt p k)⟩], by omega, by go_num, by rw [List.length_append]; rfl, Lib.hid (by rw [lowM_succ, List.map_append, HX.out]; rfl), by simpa [Row.v] using K.out.1, K.out.2⟩
      case measure => simp [intOf]; omega
    · obtain rfl : k = p.length := by omega
      have hin : InL wr A1 c1 ds := hO.read.toL (by
        have h1 := sizeX_of (X := ds.map Row.xs) (m := 8) (fun s hs => by rw [HX.out] at hs; have := lowM_len (Nat.le_refl _) s hs; omega)
        rw [sizeR_eq]
        rw [List.length_map] at h1
        omega) (Nat.le_refl _)
      have HC := Lib.hid (ordered_impl A1 c1 ds wr hin)
      clear hdl
      go_wp2_with fail
      (with_reducible refine HC.out.mono ?_)
      rintro e w1 ⟨A4, c4, qs, rfl, hX4, hO4, hb4⟩
      go_wp2_with fail
      go_ret
      exact ⟨A4, c4, qs, rfl, by rw [hX4, HX.out]; rfl, hO4.wider hsz (Nat.le_refl _), hb.trans (hb4.mono hsz)⟩
set_option maxHeartbeats 2000000 in
theorem l7Without_any (A : Option Addr) (c i : Nat) (p : List Int) (w : World) (h : In w A c p) (hi' : i < p.length) :
    Calls Try.prog 99 #[.slice A p.length c, .int .i64 i] w (Ret (Value.int .i64) 3 w (patL (cutAt p i))) := by
  obtain ⟨i0, hi, hz0, hz1, hz2⟩ := info_parts infoI
  have hpl := h.len
  have hcap := h.cap
  have hsl1 := fun w => run_slice_h (P := Try.prog) w 22 A p.length c Try.underlying22 .i64 i (by omega) (by omega)
  have hsl2 := fun w => run_cut (P := Try.prog) (t := 22) Try.underlying22 sizeI A p.length c (i + 1) ((i : Int) + 1) (by omega) (by omega) w
  have e1 : IntKind.i64.wrap ((i : Int) + 1) = (i : Int) + 1 := IntWalk.i64_in _ (by omega)
  have q0 : (0 : Int) ≤ (i : Int) + 1 := by omega
  have q1 : (i : Int) + 1 ≤ (p.length : Int) := by omega
  have q2 : (i : Int) ≤ (p.length : Int) := by omega
  have own0 : (w.drew.alloc (.cells #[] 3)).ownsRow w.heap.size 3 1 (.slice (some ⟨w.heap.size, 0, none⟩) 0 0) 0 [] := World.ownsRow_lit w.drew #[] 0 (Nat.le_refl _) (by unfold maxLen; omega) rfl
  have hb0 : Below w.heap.size w (w.drew.alloc (.cells #[] 3)) := (below_dr (Below.refl _ _) (Dr.refl _).drew).alloc (Nat.le_refl _) _
  have ht1 : (p.take i).length = i := by simp; omega
  have hd1 : (p.drop (i + 1)).length = p.length - (i + 1) := List.length_drop
  have hcl := cutAt_length p i hi'
  have HR := Lib.hid (h.next hb0).rd
  have HT1 := Lib.hid ht1
  have HD1 := Lib.hid hd1
  have HI := Lib.hid h.rd
  clear ht1 hd1
  go_enter Try.func99, Try.ntmps99
  go_wp2_with fail
  go_region_held3 (fun _ => True) (trivial) ((first
    | (refine step_append_rd _ (by rfl) _ _ _ (by rfl) w.heap.size 3 i0 (.int .i64 0) 8 Try.underlying22 hi hz0 hz1 hz2 (by rfl) (Value.slice (some ⟨w.heap.size, 0, none⟩) 0 0) 0 _ (by rfl) own0 _ A c i (p.take i) (by rfl) HT1.out (HR.out.take i) (fun _ => rfl) (by unfold maxLen; omega) (by omega) (by simp) ?_
       intro v1 w1 hown1 hgrow1
       simp only [Nat.zero_add, List.nil_append] at hown1
       obtain ⟨A1, c1, rfl, _, _⟩ := own_shape hown1
       have hb1 : Below w.heap.size w w1 := hb0.grown hgrow1 (by simp) (fun g hg => (own0.lt g hg).1)
       have hsz1 : w.heap.size ≤ w1.heap.size := hb1.size
       have HR2 := Lib.hid ((HI.out.next hb1).cut (k := i + 1) (c := c) (by omega) hcap))
    | (refine step_append_rd _ (by rfl) _ _ _ (by rfl) w.heap.size 3 i0 (.int .i64 0) 8 Try.underlying22 hi hz0 hz1 hz2 (by rfl) (Value.slice A1 i c1) i _ (by rfl) hown1 _ (cutA A c (i + 1)) (c - (i + 1)) (p.length - (i + 1)) (p.drop (i + 1)) (by rfl) HD1.out HR2.out (fun _ => rfl) (by unfold maxLen; omega) (by omega) (by first | omega | (simp; omega)) ?_
       intro v2 w2 hown2 hgrow2
       obtain ⟨A2, c2, rfl, _, _⟩ := own_shape hown2
       have hb2 : Below w.heap.size w w2 := hb1.grown hgrow2 (by first | omega | (simp; omega)) (fun g hg => (hown1.lt g hg).1)
       have hrd2 : Rd (Value.int .i64) w2 w2.heap.size A2 (cutAt p i) := Rd.of_own (e := 3) (base := w.heap.size) (c := c2) (by
         have h1 : (cutAt p i).map (Value.int .i64) = (p.take i).map (Value.int .i64) ++ (p.drop (i + 1)).map (Value.int .i64) := by unfold cutAt; rw [List.map_append]
         rw [h1, hcl, show p.length - 1 = i + (p.length - (i + 1)) by omega]
         exact hown2))
    | (go_at_call 129
       refine Calls.mono (pattern_spec A2 c2 _ (cutAt p i) _ (by rw [hcl]; omega) (by omega) hrd2) ?_
       rintro e w3 ⟨T3, t3, rfl, k1, k2, o3, b3⟩)
    | fail))
  all_goals
    go_wp2_with fail
    go_ret
    exact ⟨T3, t3, rfl, k1, k2, own_mono o3 hb2.size, hb2.trans (b3.mono hb2.size)⟩
set_option maxHeartbeats 2000000 in
theorem lowersOf_spec (A : Option Addr) (c : Nat) (p : List Int) (w : World) (h : In w A c p) (hP : permB p = true) :
    Calls Try.prog 73 #[.slice A p.length c] w (RetL w (lowL p)) := by
  have h8 := (permB_true hP).1
  have HP := Lib.hid hP
  have hlit := Own.lit (lo := w.heap.size) w (Nat.le_refl _)
  have hb0 := (Below.refl w.heap.size w).alloc (Nat.le_refl _) (.cells #[] 22)
  clear hP
  go_enter Try.func73, Try.ntmps73
  go_wp2_with fail
  go_loopw [3, 4] (fun v i wr => ∃ (k : Nat) (A1 : Option Addr) (c1 : Nat) (ds : List Row), k ≤ p.length ∧ i = .int .i64 k ∧ v = .slice A1 ds.length c1 ∧ Hid (ds.map Row.xs = ordL (lowM p k)) ∧ Own wr w.heap.size wr.heap.size ds [⟨A1, c1, ds.map Row.v⟩] ∧ Below w.heap.size w wr) (fun _ i _ => p.length - (intOf i).toNat)
  case atStart => exact ⟨0, _, _, [], Nat.zero_le _, rfl, rfl, Lib.hid rfl, hlit, hb0⟩
  case round =>
    clear hlit hb0
    obtain ⟨k, A1, c1, ds, hk, rfl, rfl, HX, hO, hb⟩ := hrel
    have hsz := hb.size
    have hdl : ds.length ≤ 8 := by
      have h1 := congrArg List.length HX.out
      have h2 := ordL_len (lowM p k)
      rw [lowM_length] at h2
      rw [List.length_map] at h1
      omega
    have HD8 := Lib.hid (show ∀ r ∈ ds, r.xs.length ≤ 1048576 from fun r hr => by
      have h1 := map_memX HX.out hr
      rw [ordL_mem] at h1
      have := lowM_len hk _ h1
      omega)
    rcases Nat.lt_or_ge k p.length with hlt | hge
    · have HT := Lib.hid (show ordL (lowM p (k + 1)) = putL (ds.map Row.xs) (patL (cutAt p k)) by rw [HX.out, lowM_succ]; unfold ordL; rw [List.foldl_append]; rfl)
      have hin := h.next hb
      have hlt' : (k : Int) < (p.length : Int) := by omega
      have HO := Lib.hid hO
      clear hO
      go_wp2_with fail
      (with_reducible refine (isPerm_sb A c p wr true hin HP.out).mono ?_)
      rintro e w1 ⟨rfl, hd1⟩
      have hb1 := below_dr hb hd1
      have HC := Lib.hid (l7Without_any A c k p w1 (h.next hb1) hlt)
      have hO1 := HO.out.dr hd1
      go_wp2_with fail
      (with_reducible refine HC.out.mono ?_)
      rintro e w2 ⟨A3, c3, rfl, q1, q2, own3, hbB⟩
      have hszB := hbB.size
      have hs1 := hb1.size
      have hb2 := hb1.trans (hbB.mono hs1)
      have hO2 := ((hO1.below (show Below w1.heap.size w1 w2 from hbB)).wider (Nat.le_refl _) (show wr.heap.size ≤ w2.heap.size from by rw [hd1.heap] at hszB; exact hszB))
      have hin3 : In w2 A3 c3 (patL (cutAt p k)) := In.own own3 (by rw [patL_length, cutAt_length p k hlt]; omega)
      have ct := Lib.hid (l3Put_any A1 A3 c1 c3 w.heap.size ds (patL (cutAt p k)) w2 hO2 hb2.size hin3 (by omega) HD8.out)
      have hol := hO2.olim (n := ds.length) (by simp)
      have hs2 := hb2.size
      clear own3 hO1 hin hbB
      go_wp2_with fail
      (with_reducible refine ct.out.mono ?_)
      rintro e w3 ⟨A4, c4, ps, rfl, hX4, hO4, hg4⟩
      have hb4 := hb2.grown hg4 hs2 (fun g hg => (hol g (by rw [← hg]; exact ownBlock_len _ _ _ _ _)).1)
      have K := Lib.hid (And.intro hX4 (And.intro hO4 hb4))
      clear hX4 hO4 hb4 hg4 hol
      go_wp2_with fail
      go_roundw
      case rel => exact ⟨k + 1, A4, c4, ps, by omega, by go_num, rfl, Lib.hid (by rw [HT.out, K.out.1]), K.out.2.1, K.out.2.2⟩
      case measure => simp [intOf]; omega
    · obtain rfl : k = p.length := by omega
      go_wp2_with fail
      go_ret
      exact ⟨A1, c1, ds, rfl, HX.out, hO, hb⟩
end Go.Proofs.Ythkggnmfdlggbaa
