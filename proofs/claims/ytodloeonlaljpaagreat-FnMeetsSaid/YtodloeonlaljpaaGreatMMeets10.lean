/- Several texts in one, each with its own head: X4, D11, D12, U3, U4. No program of ours. -/
import Derived.Test.YtodloeonlaljpaaGreatShelfG
import Derived.Shelf.Spec.SlicesGrow
import Derived.Maps.OwnOps
import Derived.Maps.OwnSet
import Derived.Maps.Views
import Derived.Deep.RegionLaw
import Derived.Test.YtodloeonlaljpaaGreatMMeets9
/- MeetClasses, program and reference; slices.Concat of two lists of rows. -/
namespace Go.Proofs.YtodloeonlaljpaaGreat
set_option maxRecDepth 100000
open Go Go.RowKit

def meB (X Y : List (List Int)) : Bool := basisB X && basisB Y && mkB (X ++ Y)
def meG (X Y : List (List Int)) : List (List Int) := if basisB X && basisB Y then mkG (X ++ Y) else []
theorem meG_le (X Y : List (List Int)) : (meG X Y).length + sizeX (meG X Y) ≤ 1048576 := by
  unfold meG
  split
  · exact mkG_le _
  · simp [sizeX]
theorem inL_of {w : World} {base c : Nat} {A : Option Addr} {rs : List Row} (hl : rs.length + sizeR rs ≤ 1048576) (hr : ∀ r ∈ rs, In w r.A r.c r.xs) (ho : w.ownsRow base 36 1 (.slice A rs.length c) rs.length (rs.map Row.v)) : InL w A c rs :=
  ⟨hl, ⟨fun r h => (hr r h).cap, fun r h => (hr r h).rd, fun o h => by obtain rfl := List.mem_singleton.1 h; simpa using (own_caps ho).1, fun o h => by
    obtain rfl := List.mem_singleton.1 h
    have h1 : w.ownsRow base 36 1 (.slice A (rs.map Row.v).length c) (rs.map Row.v).length ((rs.map Row.v).map id) := by simpa using ho
    exact Rd.of_own h1⟩⟩
theorem sizeR_app (rs qs : List Row) : sizeR (rs ++ qs) = sizeR rs + sizeR qs := by simp [sizeR]
theorem basis_sizeR {rs : List Row} (h : basisB (rs.map Row.xs) = true) : rs.length + sizeR rs ≤ 72 := by
  have h1 := basis_len h
  rw [List.length_map] at h1
  have h2 : sizeR rs ≤ rs.length * 8 := by
    have hp := basis_perm h
    clear h h1
    induction rs with
    | nil => simp [sizeR]
    | cons a t ih =>
      have h1 := (permB_true (hp a.xs (by simp))).1
      have h2 := ih (fun q hq => hp q (by simp only [List.map_cons, List.mem_cons]; exact .inr hq))
      simp only [sizeR, List.map_cons, List.sum_cons, List.length_cons, Nat.add_mul, Nat.one_mul] at h2 ⊢
      omega
  omega
theorem info_z : ∃ i0 : TypeInfo, Tryz.prog.info? 36 = some i0 ∧ i0.zero = some (.slice none 0 0) ∧ i0.size = 1 ∧ i0.bytes = 24 := info_parts infoL
/-- slices.Grow of the nil list. -/
theorem growL_any (n : Nat) (w : World) (hn : n ≤ 1048576) :
    Calls Tryz.prog 75 #[.slice none 0 0, .int .i64 n] w fun e w' => ∃ A c, e = .returned (.slice A 0 c) ∧ w'.ownsRow w.heap.size 36 1 (.slice A 0 c) 0 [] ∧ Below w.heap.size w w' := by
  rcases Nat.eq_zero_or_pos n with h0 | h0
  · subst h0
    refine (Any8.slices_Grow_room Tryz.growL none 0 0 0 w (Nat.le_refl _) (by omega) (by omega) (Nat.le_refl _)).mono ?_
    rintro e w' ⟨rfl, rfl⟩
    exact ⟨none, 0, rfl, World.ownsRow_nil _ _ _ _, Below.refl _ _⟩
  · obtain ⟨j0, hj, hy0, hy1, hy2⟩ := info_z
    refine (Any8.slices_Grow_grow Tryz.growL j0 (.slice none 0 0) hj hy0 (by omega) none 0 0 n [] w (Nat.le_refl _) (by omega) (by rw [hy2]; omega) (by omega) (by simp) (fun _ => rfl) (fun a ha => by cases ha)).mono ?_
    rintro e w' ⟨rfl, rfl⟩
    refine ⟨_, _, rfl, ?_, (below_dr (Below.refl _ _) (Dr.refl _).drew).alloc (Nat.le_refl _) _⟩
    have hcap := grownCap_ge w (0 + n) 0 36
    refine ⟨rfl, .inr ⟨w.heap.size, _, _, rfl, Nat.le_refl _, obj_new w.drew _, Nat.zero_le _, grownCap_le_maxLen w (0 + n) 0 36 (by unfold maxLen; omega), ?_, by simp⟩⟩
    have e1 : (Value.slice none 0 0).cells.size = 1 := rfl
    have hcap' : 0 + n ≤ grownCap w (0 + n) 0 36 := hcap
    show (Array.size ((([] : List Value).toArray ++ Builtin.zeroCells (Value.slice none 0 0).cells (0 + n - 0)) ++ Builtin.zeroCells (Value.slice none 0 0).cells (grownCap w (0 + n) 0 36 - (0 + n)))) = grownCap w (0 + n) 0 36 * 1
    rw [Array.size_append, Array.size_append, size_zeroCells, size_zeroCells, e1]
    simp only [List.size_toArray, List.length_nil]
    omega
def cc1 (n m k : Nat) : Nat := if k = 0 then 0 else if k = 1 then n else n + m
def ccL (ps bs : List Row) (k : Nat) : List Row := if k = 0 then [] else if k = 1 then ps else ps ++ bs
set_option maxHeartbeats 2000000 in
theorem concat_any (g : Nat) (A B : Option Addr) (c d : Nat) (ps bs : List Row) (w : World) (hg : w.heap[g]? = some (.cells #[.slice A ps.length c, .slice B bs.length d] 24 (0, 0)))
    (ha : InL w A c ps) (hb : InL w B d bs) (hsa : ps.length ≤ 1000) (hsb : bs.length ≤ 1000) :
    Calls Tryz.prog 36 #[.slice (some ⟨g, 0, none⟩) 2 2] w fun e w' => ∃ A' c', e = .returned (.slice A' (ps ++ bs).length c') ∧ w'.ownsRow w.heap.size 36 1 (.slice A' (ps ++ bs).length c') (ps ++ bs).length ((ps ++ bs).map Row.v) ∧ Below w.heap.size w w' := by
  obtain ⟨j0, hj, hy0, hy1, hy2⟩ := info_parts infoL
  have f0 : w.cell? ⟨g, 0, none⟩ = some (.slice A ps.length c) := (obj_cell hg).trans rfl
  have f1 : w.cell? ⟨g, 0 + 1, none⟩ = some (.slice B bs.length d) := (obj_cell hg).trans rfl
  go_enter Tryz.func36, Tryz.ntmps36
  go_wp2_with fail
  go_loop [3, 11] (fun v i => ∃ k : Nat, k ≤ 2 ∧ i = .int .i64 k ∧ v = .int .i64 (cc1 ps.length bs.length k)) (fun _ i => 2 - (intOf i).toNat)
  case atStart => exact ⟨0, by omega, rfl, rfl⟩
  case round =>
    obtain ⟨k, hk, rfl, rfl⟩ := hrel
    rcases (show k = 0 ∨ k = 1 ∨ k = 2 by omega) with rfl | rfl | rfl
    · have e1 : IntKind.i64.wrap (((cc1 ps.length bs.length 0 : Nat) : Int) + (ps.length : Int)) = ((cc1 ps.length bs.length 1 : Nat) : Int) := by rw [IntWalk.i64_in _ (by simp [cc1]; omega)]; simp [cc1]
      have d1 : decide (((cc1 ps.length bs.length 1 : Nat) : Int) < 0) = false := decide_eq_false (by omega)
      go_wp2_with fail
      go_round
      case rel => exact ⟨1, by omega, by go_num, rfl⟩
      case measure => simp [intOf]
    · have e1 : IntKind.i64.wrap (((cc1 ps.length bs.length 1 : Nat) : Int) + (bs.length : Int)) = ((cc1 ps.length bs.length 2 : Nat) : Int) := by rw [IntWalk.i64_in _ (by simp [cc1]; omega)]; simp [cc1]
      have d1 : decide (((cc1 ps.length bs.length 2 : Nat) : Int) < 0) = false := decide_eq_false (by omega)
      go_wp2_with fail
      go_round
      case rel => exact ⟨2, by omega, by go_num, rfl⟩
      case measure => simp [intOf]
    · have HG := Lib.hid (growL_any (cc1 ps.length bs.length 2) w (by simp [cc1]; omega))
      go_wp2_with fail
      (with_reducible refine HG.out.mono ?_)
      rintro e w1 ⟨A1, c1, rfl, own1, hb1⟩
      have g1 := obj_below hg hb1 (obj_lt hg)
      go_wp2_with fail
      go_loopw [6, 27] (fun v i wr => ∃ (k : Nat) (A1 : Option Addr) (c1 n : Nat), k ≤ 2 ∧ i = .int .i64 k ∧ v = .slice A1 n c1 ∧ Hid (n = (ccL ps bs k).length) ∧ wr.ownsRow w.heap.size 36 1 (.slice A1 n c1) n ((ccL ps bs k).map Row.v) ∧ Below w.heap.size w wr) (fun _ i _ => 2 - (intOf i).toNat)
      case atStart => exact ⟨0, A1, c1, 0, by omega, rfl, rfl, Lib.hid rfl, own1, hb1⟩
      case round =>
        clear own1 hb1 g1
        obtain ⟨k, A1, c1, n, hk, rfl, rfl, HN, own1, hb1⟩ := hrel
        have g1 := obj_below hg hb1 (obj_lt hg)
        have k0 : wr.cell? ⟨g, 0, none⟩ = some (.slice A ps.length c) := (obj_cell g1).trans rfl
        have k1 : wr.cell? ⟨g, 0 + 1, none⟩ = some (.slice B bs.length d) := (obj_cell g1).trans rfl
        have ha1 := read_rows (ha.next hb1).read
        have hs1 := hb1.size
        have hb1' := read_rows (hb.next hb1).read
        rcases (show k = 0 ∨ k = 1 ∨ k = 2 by omega) with rfl | rfl | rfl
        · have hl0 : n = 0 := HN.out
          go_wp2_with (at_builtin; refine wpList_append_rd _ rfl _ _ 24 rfl (w.heap.size) 36 j0 (.slice none 0 0) 24 Tryz.underlying24 hj hy0 hy1 hy2 rfl _ _ _ rfl own1 _ _ _ _ (ps) rfl rfl ha1 (fun _ => rfl) (by unfold maxLen; omega) (by omega) (by first | omega | (simp; done) | (simp; omega)) ?_; intro v1 w1 hown1 hgrow1)
          obtain ⟨A5, c5, rfl, _, _⟩ := own_shape hown1
          have hb2 := hb1.grown hgrow1 hb1.size (fun q hq => (own1.lt q hq).1)
          have K := Lib.hid (And.intro hown1 hb2)
          clear hown1 hb2 hgrow1 own1 hb1 k0 k1
          go_wp2_with fail
          go_roundw
          case rel => exact ⟨1, A5, c5, n + ps.length, by omega, by go_num, rfl, Lib.hid (by rw [HN.out]; simp [ccL]), by simpa [ccL] using K.out.1, K.out.2⟩
          case measure => simp [intOf]
        · have hl1 : n = ps.length := HN.out
          go_wp2_with (at_builtin; refine wpList_append_rd _ rfl _ _ 24 rfl (w.heap.size) 36 j0 (.slice none 0 0) 24 Tryz.underlying24 hj hy0 hy1 hy2 rfl _ _ _ rfl own1 _ _ _ _ (bs) rfl rfl hb1' (fun _ => rfl) (by unfold maxLen; omega) (by omega) (by first | omega | (simp; done) | (simp; omega)) ?_; intro v1 w1 hown1 hgrow1)
          obtain ⟨A5, c5, rfl, _, _⟩ := own_shape hown1
          have hb2 := hb1.grown hgrow1 hb1.size (fun q hq => (own1.lt q hq).1)
          have K := Lib.hid (And.intro hown1 hb2)
          clear hown1 hb2 hgrow1 own1 hb1 k0 k1
          go_wp2_with fail
          go_roundw
          case rel => exact ⟨2, A5, c5, n + bs.length, by omega, by go_num, rfl, Lib.hid (by rw [HN.out]; simp [ccL]), by simpa [ccL] using K.out.1, K.out.2⟩
          case measure => simp [intOf]
        · have hn2 : n = (ps ++ bs).length := HN.out
          subst hn2
          have K := Lib.hid (And.intro own1 hb1)
          clear own1 hb1
          go_wp2_with fail
          go_ret
          exact ⟨A1, c1, by simp, K.out.1, K.out.2⟩
set_option maxHeartbeats 2000000 in
theorem meet_impl (A : Option Addr) (c : Nat) (rs : List Row) (B : Option Addr) (d : Nat) (qs : List Row) (w : World) (h : InL w A c rs) (hq : InL w B d qs) :
    Calls Tryz.prog 6 #[.slice A rs.length c, .slice B qs.length d] w (RetLb w (meG (rs.map Row.xs) (qs.map Row.xs)) (meB (rs.map Row.xs) (qs.map Row.xs))) := by
  by_cases hB : basisB (rs.map Row.xs) = true
  · by_cases hP : basisB (qs.map Row.xs) = true
    · have HG := Lib.hid (show meG (rs.map Row.xs) (qs.map Row.xs) = mkG (rs.map Row.xs ++ qs.map Row.xs) by unfold meG; rw [hB, hP]; rfl)
      have HF := Lib.hid (show meB (rs.map Row.xs) (qs.map Row.xs) = mkB (rs.map Row.xs ++ qs.map Row.xs) by unfold meB; rw [hB, hP]; rfl)
      have hr8 := basis_sizeR hB
      have hq8 := basis_sizeR hP
      have H1 := Lib.hid hB
      have H2 := Lib.hid hP
      clear hB hP
      go_enter Tryz.func6, Tryz.ntmps6
      go_wp2_with fail
      (with_reducible refine (basis_ib A c rs w true h H1.out).mono ?_)
      rintro e w1 ⟨rfl, hb1⟩
      go_wp2_with fail
      (with_reducible refine (basis_ib B d qs w1 true (hq.next hb1) H2.out).mono ?_)
      rintro e w2 ⟨rfl, hb2⟩
      have hb12 := hb1.trans (hb2.mono hb1.size)
      have hb3 := hb12.alloc hb12.size (.cells #[.slice A rs.length c, .slice B qs.length d] 24)
      have HC := Lib.hid (concat_any w2.heap.size A B c d rs qs (w2.alloc (.cells #[.slice A rs.length c, .slice B qs.length d] 24)) (obj_new _ _) (h.next hb3) (hq.next hb3) (by omega) (by omega))
      have hs3 := hb3.size
      go_wp2_with fail
      (with_reducible refine HC.out.mono ?_)
      rintro e w4 ⟨A4, c4, rfl, own4, hb4⟩
      have hb5 := hb3.trans (hb4.mono hs3)
      have hin : InL w4 A4 c4 (rs ++ qs) := inL_of (by rw [List.length_append, sizeR_app]; omega) (fun r hr => (List.mem_append.1 hr).elim (fun hr => (h.next hb5).row hr) (fun hr => (hq.next hb5).row hr)) own4
      have HM := Lib.hid (makeBasis_impl A4 c4 (rs ++ qs) w4 hin)
      rw [List.map_append, List.length_append] at HM
      clear own4 hin hb4
      go_wp2_with fail
      (with_reducible refine HM.out.mono ?_)
      rintro e w6 ⟨A6, c6, ds, rfl, hX, hO, hb6⟩
      have hb7 := hb5.trans (hb6.mono hb5.size)
      go_wp2_with fail
      go_ret2
      rw [HG.out, HF.out]
      exact ⟨A6, c6, ds, rfl, hX, hO.wider hb5.size (Nat.le_refl _), hb7⟩
    · have hPf : basisB (qs.map Row.xs) = false := by simpa using hP
      have HG := Lib.hid (show meG (rs.map Row.xs) (qs.map Row.xs) = [] by unfold meG; rw [hPf, Bool.and_false]; rfl)
      have HF := Lib.hid (show meB (rs.map Row.xs) (qs.map Row.xs) = false by unfold meB; rw [hPf, Bool.and_false]; rfl)
      have H1 := Lib.hid hB
      have H2 := Lib.hid hPf
      clear hB hP hPf
      go_enter Tryz.func6, Tryz.ntmps6
      go_wp2_with fail
      (with_reducible refine (basis_ib A c rs w true h H1.out).mono ?_)
      rintro e w1 ⟨rfl, hb1⟩
      go_wp2_with fail
      (with_reducible refine (basis_ib B d qs w1 false (hq.next hb1) H2.out).mono ?_)
      rintro e w2 ⟨rfl, hb2⟩
      go_wp2_with fail
      go_ret2
      rw [HG.out, HF.out]
      exact ⟨none, 0, [], rfl, rfl, Own.nil_list _ _ _, hb1.trans (hb2.mono hb1.size)⟩
  · have hBf : basisB (rs.map Row.xs) = false := by simpa using hB
    have HG := Lib.hid (show meG (rs.map Row.xs) (qs.map Row.xs) = [] by unfold meG; rw [hBf]; rfl)
    have HF := Lib.hid (show meB (rs.map Row.xs) (qs.map Row.xs) = false by unfold meB; rw [hBf]; rfl)
    have H1 := Lib.hid hBf
    clear hB hBf
    go_enter Tryz.func6, Tryz.ntmps6
    go_wp2_with fail
    (with_reducible refine (basis_ib A c rs w false h H1.out).mono ?_)
    rintro e w1 ⟨rfl, hb1⟩
    go_wp2_with fail
    go_ret2
    rw [HG.out, HF.out]
    exact ⟨none, 0, [], rfl, rfl, Own.nil_list _ _ _, hb1⟩
set_option maxHeartbeats 2000000 in
theorem meet_spec (A : Option Addr) (c : Nat) (rs : List Row) (B : Option Addr) (d : Nat) (qs : List Row) (w : World) (h : InL w A c rs) (hq : InL w B d qs) :
    Calls Tryz.prog 7 #[.slice A rs.length c, .slice B qs.length d] w (RetLb w (meG (rs.map Row.xs) (qs.map Row.xs)) (meB (rs.map Row.xs) (qs.map Row.xs))) := by
  obtain ⟨j0, hj, hy0, hy1, hy2⟩ := info_parts infoL
  by_cases hB : basisB (rs.map Row.xs) = true
  · by_cases hP : basisB (qs.map Row.xs) = true
    · have hr8 := basis_sizeR hB
      have hq8 := basis_sizeR hP
      have H1 := Lib.hid hB
      have H2 := Lib.hid hP
      have HG := Lib.hid (show meG (rs.map Row.xs) (qs.map Row.xs) = mkG (rs.map Row.xs ++ qs.map Row.xs) by unfold meG; rw [hB, hP]; rfl)
      have HF := Lib.hid (show meB (rs.map Row.xs) (qs.map Row.xs) = mkB (rs.map Row.xs ++ qs.map Row.xs) by unfold meB; rw [hB, hP]; rfl)
      clear hB hP
      go_enter Tryz.func7, Tryz.ntmps7
      go_wp2_with fail
      (with_reducible refine (basis_sb A c rs w true h H1.out).mono ?_)
      rintro e wa ⟨rfl, hb1⟩
      go_wp2_with fail
      (with_reducible refine (basis_sb B d qs wa true (hq.next hb1) H2.out).mono ?_)
      rintro e w2 ⟨rfl, hb2⟩
      have hb12 := hb1.trans (hb2.mono hb1.size)
      have HC := Lib.hid (l2Copy_any A c rs w2 (h.next hb12))
      have hs2 := hb12.size
      go_wp2_with fail
      (with_reducible refine HC.out.mono ?_)
      rintro e w3 ⟨A3, c3, ds, rfl, hX3, hO3, hb3⟩
      have hb13 := hb12.trans (hb3.mono hs2)
      have hdl : ds.length = rs.length := by have := congrArg List.length hX3; simpa using this
      have hds : sizeR ds = sizeR rs := by rw [sizeR_eq, sizeR_eq, hX3]
      have ho3 := hO3.outN (n := ds.length) (by simp)
      have hq3 := hq.next hb13
      have hx3 := read_rows hq3.read
      have hs3 := hb13.size
      have hs23 := hb3.size
      have HDL := Lib.hid (And.intro hdl hds)
      have hdl8 : ds.length ≤ 72 := by omega
      have hql8 : qs.length ≤ 72 := by omega
      clear hdl hds
      go_wp2_with (at_builtin; refine wpList_append_rd _ rfl _ _ 24 rfl (w2.heap.size) 36 j0 (.slice none 0 0) 24 Tryz.underlying24 hj hy0 hy1 hy2 rfl _ _ _ rfl ho3 _ _ _ _ (qs) rfl rfl hx3 (fun _ => rfl) (by unfold maxLen; omega) (by omega) (by first | omega | (simp; done) | (simp; omega)) ?_; intro v1 w1 hown1 hgrow1)
      obtain ⟨A5, c5, rfl, _, _⟩ := own_shape hown1
      have hlim := hO3.olim (n := ds.length) (by simp)
      have hb5 := hb13.grown hgrow1 hs3 (fun q hq => Nat.le_trans hs2 (hlim q hq).1)
      have hrows := hO3.kept (Nat.le_refl _) (show (ds.map Row.v).length = ds.length by simp) hgrow1
      have hin : InL w1 A5 c5 (ds ++ qs) := inL_of (by rw [List.length_append, sizeR_app]; have := HDL.out.1; have := HDL.out.2; omega) (fun r hr => (List.mem_append.1 hr).elim (fun hr => row_in hrows.read hr (by have h1 := sizeR_mem hr; have := HDL.out.2; omega) (Nat.le_refl _)) (fun hr => (hq.next hb5).row hr)) (by rw [List.length_append, List.map_append]; exact hown1)
      have HM := Lib.hid (makeBasis_spec A5 c5 (ds ++ qs) w1 hin)
      have HX := Lib.hid (show (ds ++ qs).map Row.xs = rs.map Row.xs ++ qs.map Row.xs by rw [List.map_append, hX3])
      have HB5 := Lib.hid hb5
      rw [HX.out, List.length_append] at HM
      clear hown1 hgrow1 hrows hin hb5 hlim ho3 hx3 hO3 hX3 hb3
      go_wp2_with fail
      (with_reducible refine HM.out.mono ?_)
      rintro e w6 ⟨A6, c6, es, rfl, hX, hO, hb6⟩
      have hb7 := HB5.out.trans (hb6.mono HB5.out.size)
      go_wp2_with fail
      go_ret2
      rw [HG.out, HF.out]
      exact ⟨A6, c6, es, rfl, hX, hO.wider HB5.out.size (Nat.le_refl _), hb7⟩
    · have hPf : basisB (qs.map Row.xs) = false := by simpa using hP
      have HG := Lib.hid (show meG (rs.map Row.xs) (qs.map Row.xs) = [] by unfold meG; rw [hPf, Bool.and_false]; rfl)
      have HF := Lib.hid (show meB (rs.map Row.xs) (qs.map Row.xs) = false by unfold meB; rw [hPf, Bool.and_false]; rfl)
      have H1 := Lib.hid hB
      have H2 := Lib.hid hPf
      clear hB hP hPf
      go_enter Tryz.func7, Tryz.ntmps7
      go_wp2_with fail
      (with_reducible refine (basis_sb A c rs w true h H1.out).mono ?_)
      rintro e w1 ⟨rfl, hb1⟩
      go_wp2_with fail
      (with_reducible refine (basis_sb B d qs w1 false (hq.next hb1) H2.out).mono ?_)
      rintro e w2 ⟨rfl, hb2⟩
      have hb3 := hb1.trans (hb2.mono hb1.size)
      have hlit := Own.lit (lo := w.heap.size) w2 hb3.size
      have hb5 := hb3.alloc hb3.size (.cells #[] 36)
      go_wp2_with fail
      go_ret2
      rw [HG.out, HF.out]
      exact ⟨_, _, [], rfl, rfl, hlit, hb5⟩
  · have hBf : basisB (rs.map Row.xs) = false := by simpa using hB
    have HG := Lib.hid (show meG (rs.map Row.xs) (qs.map Row.xs) = [] by unfold meG; rw [hBf]; rfl)
    have HF := Lib.hid (show meB (rs.map Row.xs) (qs.map Row.xs) = false by unfold meB; rw [hBf]; rfl)
    have H1 := Lib.hid hBf
    clear hB hBf
    go_enter Tryz.func7, Tryz.ntmps7
    go_wp2_with fail
    (with_reducible refine (basis_sb A c rs w false h H1.out).mono ?_)
    rintro e w1 ⟨rfl, hb1⟩
    have hlit := Own.lit (lo := w.heap.size) w1 hb1.size
    have hb5 := hb1.alloc hb1.size (.cells #[] 36)
    go_wp2_with fail
    go_ret2
    rw [HG.out, HF.out]
    exact ⟨_, _, [], rfl, rfl, hlit, hb5⟩
end Go.Proofs.YtodloeonlaljpaaGreat

/- The draws of FnClasses and FnMeets: bases, and bases with one list more. -/
namespace Go.Proofs.YtodloeonlaljpaaGreat
set_option maxRecDepth 100000
open Go Go.RowKit

theorem Own.drawn {w w' : World} {lo hi q c : Nat} {rs : List Row} {os : List Outer} {A : Option Addr} {bs : List Int} (h : Own w lo hi rs os) (k : Drawn w w' q A c bs) (hq : q < lo) : Own w' lo hi rs os := h.span k.span (.inr hq)
/-- A list of rows of the call's own was drawn. -/
def RetLC (w : World) (q : Nat) (A : Option Addr) (c : Nat) (bs : List Int) (ok : List (List Int) → Prop) (en : Ending) (w' : World) : Prop :=
  ∃ D k rs, en = .returned (.slice D rs.length k) ∧ ok (rs.map Row.xs) ∧ Own w' w.heap.size w'.heap.size rs [⟨D, k, rs.map Row.v⟩] ∧ Drawn w w' q A c bs
theorem sieve_length (L : List (List Int)) : (sieve L).length ≤ L.length := by
  have : ∀ (L acc : List (List Int)), (L.foldl (fun acc p => if avoidB acc p = true then acc ++ [p] else acc) acc).length ≤ acc.length + L.length := by
    intro L
    induction L with
    | nil => intro acc; simp
    | cons a t ih =>
      intro acc
      rw [List.foldl_cons, List.length_cons]
      have h1 := ih (if avoidB acc a = true then acc ++ [a] else acc)
      have h2 : (if avoidB acc a = true then acc ++ [a] else acc).length ≤ acc.length + 1 := by split <;> simp
      omega
  simpa [sieve] using this L []
theorem mkG_length (X : List (List Int)) : (mkG X).length ≤ X.length := by
  unfold mkG
  split
  · exact Nat.le_trans (sieve_length _) (ordL_len X)
  · simp
theorem mkG_sub (X : List (List Int)) : ∀ q ∈ mkG X, q ∈ X := fun q hq => by
  unfold mkG at hq
  split at hq
  · exact (ordL_mem X q).1 (sieve_sub _ q hq)
  · cases hq
theorem few_size {X : List (List Int)} {n m : Nat} (hl : X.length ≤ n) (h : ∀ q ∈ X, q.length ≤ m) : X.length + sizeX X ≤ n + n * m := by
  have h1 : sizeX X ≤ X.length * m := by
    clear hl
    induction X with
    | nil => simp [sizeX]
    | cons a t ih =>
      have h2 := h a (by simp)
      have h3 := ih fun q hq => h q (by simp [hq])
      have h4 : sizeX (a :: t) = a.length + sizeX t := by simp [sizeX]
      rw [h4, List.length_cons, Nat.add_mul, Nat.one_mul]
      omega
  have := Nat.mul_le_mul_right m hl
  omega
theorem few_inL {w : World} {lo hi : Nat} {A : Option Addr} {c : Nat} {rs : List Row} (h : Own w lo hi rs [⟨A, c, rs.map Row.v⟩]) (hh : hi ≤ w.heap.size) (hs : (rs.map Row.xs).length + sizeX (rs.map Row.xs) ≤ 1048576) : InL w A c rs :=
  ⟨by rw [sizeR_eq]; rw [List.length_map] at hs; exact hs, h.read.more hh⟩
set_option maxHeartbeats 2000000 in
theorem l12Draw_any (w : World) (q : Nat) (A : Option Addr) (c : Nat) (bs : List Int) (hc : Cur w q A c bs) :
    Calls Tryz.prog 70 #[.pointer (some ⟨q, 0, none⟩)] w (RetLC w q A c bs fun X => X.length ≤ 3 ∧ ∀ p ∈ X, p.length ≤ 4) := by
  obtain ⟨j0, hj, hy0, hy1, hy2⟩ := info_parts infoL
  have hq := hc.lt
  have hbA : Below w.heap.size w ((w.alloc (.cells #[] 36)).alloc (Obj.cells #[Value.int .i64 0, Value.int .i64 1, Value.int .i64 1, Value.int .i64 2, Value.int .i64 2, Value.int .i64 3] 3)) := ((Below.refl _ _).alloc (Nat.le_refl _) _).alloc (by simp) _
  have hO0 := (Own.lit (lo := w.heap.size) w (Nat.le_refl _)).below ((Below.refl _ _).alloc (Nat.le_refl _) (Obj.cells #[Value.int .i64 0, Value.int .i64 1, Value.int .i64 1, Value.int .i64 2, Value.int .i64 2, Value.int .i64 3] 3))
  have kA := (Drawn.refl hc).next hbA hq
  have HP := Lib.hid (l1PickInt_any _ q A c bs (w.heap.size + 1) 6 6 [0, 1, 1, 2, 2, 3] rfl (by decide) (by decide) (by omega) (by simp) (fun j hj => (obj_cell (by have := obj_new (w.alloc (.cells #[] 36)) (Obj.cells #[Value.int .i64 0, Value.int .i64 1, Value.int .i64 1, Value.int .i64 2, Value.int .i64 2, Value.int .i64 3] 3); simpa using this)).trans (by
    have hj : j < 6 := hj
    rcases j with _ | _ | _ | _ | _ | _ | j
    all_goals first | rfl | omega)) kA.cur)
  clear hbA
  go_enter Tryz.func70, Tryz.ntmps70
  go_wp2_with fail
  (with_reducible refine HP.out.mono ?_)
  rintro e w1 ⟨x, rfl, hx, k1⟩
  have hx8 : 0 ≤ x ∧ x ≤ 3 := by simp at hx; omega
  obtain ⟨n, rfl⟩ := Int.eq_ofNat_of_zero_le hx8.1
  have hn3 : n ≤ 3 := by omega
  have hO1 := (hO0.drawn k1 hq).wider (hi' := w1.heap.size) (Nat.le_refl _) (by have := k1.span.size; simp at this ⊢; omega)
  have k1 := kA.trans k1
  clear HP hx hO0 kA
  go_wp2_with fail
  go_loopw [3, 5] (fun v i wr => ∃ (k : Nat) (A1 : Option Addr) (c1 : Nat) (ds : List Row), k ≤ n ∧ i = .int .i64 k ∧ v = .slice A1 ds.length c1 ∧ ds.length = k ∧ Hid (∀ p ∈ ds.map Row.xs, p.length ≤ 4) ∧ Own wr w.heap.size wr.heap.size ds [⟨A1, c1, ds.map Row.v⟩] ∧ Drawn w wr q A c bs) (fun _ i _ => n - (intOf i).toNat)
  case atStart => exact ⟨0, _, _, [], Nat.zero_le _, rfl, rfl, rfl, Lib.hid (fun p hp => (List.not_mem_nil hp).elim), hO1, k1⟩
  case round =>
    clear hO1 k1
    obtain ⟨k, A1, c1, ds, hk, rfl, rfl, hdl, HR, hO, k2⟩ := hrel
    have hsz := k2.span.size
    have hq2 := k2.cur.lt
    rcases Nat.lt_or_ge k n with hlt | hge
    · have hbL : Below wr.heap.size wr (wr.alloc (Obj.cells #[Value.int .i64 2, Value.int .i64 3, Value.int .i64 3, Value.int .i64 3, Value.int .i64 4] 3)) := (Below.refl _ _).alloc (Nat.le_refl _) _
      have hO2 := hO.below hbL
      have k3 := k2.next (hbL.mono hsz) hq
      have HP := Lib.hid (l1PickInt_any _ q A c bs wr.heap.size 5 5 [2, 3, 3, 3, 4] rfl (by decide) (by decide) (by omega) (by simp) (fun j hj => (obj_cell (obj_new wr _)).trans (by
        have hj : j < 5 := hj
        rcases j with _ | _ | _ | _ | _ | j
        all_goals first | rfl | omega)) k3.cur)
      have HDL := Lib.hid hdl
      clear hO k2 hbL hdl
      go_wp2_with fail
      (with_reducible refine HP.out.mono ?_)
      rintro e w2 ⟨x, rfl, hx, k4⟩
      have hx8 : 2 ≤ x ∧ x ≤ 4 := by simp at hx; omega
      obtain ⟨m, rfl⟩ := Int.eq_ofNat_of_zero_le (show 0 ≤ x by omega)
      have hm4 : m ≤ 4 := by omega
      have hO3 := (hO2.drawn k4 hq).wider (hi' := w2.heap.size) (Nat.le_refl _) (by have := k4.span.size; simp at this; omega)
      have k5 := k3.trans k4
      have HD := Lib.hid (l2Draw_any w2 q A c bs m (by omega) k5.cur)
      have hs2 := k5.span.size
      clear HP hx k4 k3 hO2
      go_wp2_with fail
      (with_reducible refine HD.out.mono ?_)
      rintro e w3 ⟨D, dk, d, rfl, hp, hod, k6⟩
      have hdm : d.length = m := by rw [hp.length_eq, upToL_length]
      have k7 := k5.trans k6
      have hs3 := k7.span.size
      have hO6 := (hO3.drawn k6 hq).add (r := ⟨D, dk, d⟩) hod k6.span.size hs2
      have hown2 := hO6.outN (n := ds.length) (by simp)
      have hol := hO6.olim (n := ds.length) (by simp)
      have hds : ds.length ≤ 3 := by have := HDL.out; omega
      have HR2 := Lib.hid (show ∀ p ∈ (ds ++ [(⟨D, dk, d⟩ : Row)]).map Row.xs, p.length ≤ 4 from fun p hp => by
        rw [List.map_append, List.mem_append] at hp
        rcases hp with hp | hp
        · exact HR.out p hp
        · rw [List.map_singleton, List.mem_singleton] at hp
          have hpe : p = d := hp
          rw [hpe]
          omega)
      clear HD hp hdm hO3 hod k6 k5 hs2
      go_wp2_with (at_builtin; refine wpList_append_own _ rfl _ _ 24 rfl (w.heap.size) 36 j0 (.slice none 0 0) 1 24 Tryz.underlying24 hj hy0 hy1 hy2 rfl (by decide) _ _ _ rfl (World.ownsRow.alloc hown2 _) ⟨w3.heap.size, 0, none⟩ 1 1 [Value.slice D d.length dk] rfl rfl (cell_one_at _ _ (by simp)) (by intro u hu; simp at hu; subst hu; rfl) (by unfold maxLen; omega) (by omega) (by simp; omega) ?_; intro v9 w9 hown9 hgrow9 _)
      obtain ⟨A5, c5, rfl, hO7, hg3⟩ := hO6.grow (Nat.le_refl _) (by simp) hown9 hgrow9
      have k8 := k7.next ((Below.refl w.heap.size w3).grown hg3 hs3 fun g hg => (hol g hg).1) hq
      have K := Lib.hid (And.intro hO7 k8)
      clear hO7 k8 hown9 hgrow9 hg3 hO6 hown2 hol k7
      go_wp2_with fail
      go_roundw
      case rel => exact ⟨k + 1, A5, c5, ds ++ [⟨D, dk, d⟩], by omega, by go_num, by rw [List.length_append]; rfl, by rw [List.length_append, HDL.out]; rfl, HR2, by rw [List.map_append]; exact K.out.1, K.out.2⟩
      case measure => simp [intOf]; omega
    · obtain rfl : k = n := by omega
      have h4 : ∀ p ∈ ds.map Row.xs, p.length ≤ 4 := HR.out
      have hdl3 : (ds.map Row.xs).length ≤ 3 := by rw [List.length_map]; omega
      clear hdl
      have hin : InL wr A1 c1 ds := few_inL hO (Nat.le_refl _) (by have := few_size hdl3 h4; omega)
      have HM := Lib.hid (makeBasis_spec A1 c1 ds wr hin)
      have HF := Lib.hid (show (mkG (ds.map Row.xs)).length ≤ 3 ∧ ∀ p ∈ mkG (ds.map Row.xs), p.length ≤ 4 from ⟨Nat.le_trans (mkG_length _) hdl3, fun p hp => h4 p (mkG_sub _ p hp)⟩)
      clear h4 hdl3 hin hO
      go_wp2_with fail
      (with_reducible refine HM.out.mono ?_)
      rintro e w2 ⟨A5, c5, rs, rfl, hX, hO5, hb5⟩
      have k3 := k2.next (hb5.mono hsz) hq
      go_wp2_with fail
      go_ret
      exact ⟨A5, c5, rs, rfl, by rw [hX]; exact HF.out, hO5.wider hsz (Nat.le_refl _), k3⟩
set_option maxHeartbeats 2000000 in
theorem l12Bent_any (w : World) (q : Nat) (A : Option Addr) (c : Nat) (bs : List Int) (hc : Cur w q A c bs) :
    Calls Tryz.prog 47 #[.pointer (some ⟨q, 0, none⟩)] w (RetLC w q A c bs fun X => X.length ≤ 4 ∧ ∀ p ∈ X, p.length ≤ 9) := by
  obtain ⟨j0, hj, hy0, hy1, hy2⟩ := info_parts infoL
  have hq := hc.lt
  have HD := Lib.hid (l12Draw_any w q A c bs hc)
  go_enter Tryz.func47, Tryz.ntmps47
  go_wp2_with fail
  (with_reducible refine HD.out.mono ?_)
  rintro e w1 ⟨A1, c1, ds, rfl, ⟨hl3, h4⟩, hO, k1⟩
  have hsz := k1.span.size
  have HO := Lib.hid (l1Once_any w1 q A c bs 10 (by omega) k1.cur)
  have HR := Lib.hid h4
  have hdl : ds.length ≤ 3 := by simpa using hl3
  clear HD h4 hl3
  go_wp2_with fail
  (with_reducible refine HO.out.mono ?_)
  rintro e w2 ⟨b, rfl, k2⟩
  have hO2 := (hO.drawn k2 hq).wider (hi' := w2.heap.size) (Nat.le_refl _) k2.span.size
  have k2 := k1.trans k2
  have hs2 := k2.span.size
  clear HO hO k1
  rcases b with _ | _
  · go_wp2_with fail
    go_ret
    exact ⟨A1, c1, ds, rfl, ⟨by rw [List.length_map]; omega, fun p hp => by have := HR.out p hp; omega⟩, hO2, k2⟩
  · have HD := Lib.hid (l2Bent_any w2 q A c bs k2.cur)
    go_wp2_with fail
    (with_reducible refine HD.out.mono ?_)
    rintro e w3 ⟨D, dk, d, rfl, hp9, hod, k6⟩
    have k7 := k2.trans k6
    have hs3 := k7.span.size
    have hO6 := (hO2.drawn k6 hq).add (r := ⟨D, dk, d⟩) hod k6.span.size hs2
    have hown2 := hO6.outN (n := ds.length) (by simp)
    have hol := hO6.olim (n := ds.length) (by simp)
    have HR2 := Lib.hid (show ((ds ++ [(⟨D, dk, d⟩ : Row)]).map Row.xs).length ≤ 4 ∧ ∀ p ∈ (ds ++ [(⟨D, dk, d⟩ : Row)]).map Row.xs, p.length ≤ 9 from ⟨by rw [List.length_map, List.length_append]; simp; omega, fun p hp => by
      rw [List.map_append, List.mem_append] at hp
      rcases hp with hp | hp
      · have := HR.out p hp; omega
      · rw [List.map_singleton, List.mem_singleton] at hp
        subst hp
        exact hp9⟩)
    clear HD hp9 hO2 hod k6 k2 hs2
    go_wp2_with (at_builtin; refine wpList_append_own _ rfl _ _ 24 rfl (w.heap.size) 36 j0 (.slice none 0 0) 1 24 Tryz.underlying24 hj hy0 hy1 hy2 rfl (by decide) _ _ _ rfl (World.ownsRow.alloc hown2 _) ⟨w3.heap.size, 0, none⟩ 1 1 [Value.slice D d.length dk] rfl rfl (cell_one_at _ _ (by simp)) (by intro u hu; simp at hu; subst hu; rfl) (by unfold maxLen; omega) (by omega) (by simp; omega) ?_; intro v9 w9 hown9 hgrow9 _)
    obtain ⟨A5, c5, rfl, hO7, hg3⟩ := hO6.grow (Nat.le_refl _) (by simp) hown9 hgrow9
    have k8 := k7.next ((Below.refl w.heap.size w3).grown hg3 hs3 fun g hg => (hol g hg).1) hq
    have K := Lib.hid (And.intro hO7 k8)
    clear hO7 k8 hown9 hgrow9 hg3 hO6 hown2 hol k7
    go_wp2_with fail
    go_ret
    exact ⟨A5, c5, ds ++ [⟨D, dk, d⟩], by rw [List.length_append]; rfl, HR2.out, by rw [List.map_append]; exact K.out.1, K.out.2⟩
/-- Two lists of rows were drawn. -/
def RetLL (w : World) (en : Ending) (w' : World) : Prop :=
  ∃ (D : Option Addr) (k : Nat) (ps : List Row) (E : Option Addr) (m : Nat) (qs : List Row), en = .returned (.tuple #[.slice D ps.length k, .slice E qs.length m]) ∧ InL w' D k ps ∧ InL w' E m qs ∧ Below w.heap.size w w'
set_option maxHeartbeats 2000000 in
theorem l13Two_any (A : Option Addr) (c : Nat) (bs : List Int) (w : World) (h : InY w A c bs) :
    Calls Tryz.prog 33 #[.slice A bs.length c] w (RetLL w) := by
  have HC := Lib.hid (l1New_any A c bs w h.len h.rd)
  go_enter Tryz.func33, Tryz.ntmps33
  go_wp2_with fail
  (with_reducible refine HC.out.mono ?_)
  rintro e w1 ⟨q, rfl, hq, hc, hb⟩
  have hq1 := hc.lt
  have HD := Lib.hid (l12Bent_any w1 q A c bs hc)
  clear HC
  go_wp2_with fail
  (with_reducible refine HD.out.mono ?_)
  rintro e w2 ⟨P, pk, ps, rfl, ⟨hp4, hp9⟩, hO1, k1⟩
  have HP := Lib.hid (show (ps.map Row.xs).length + sizeX (ps.map Row.xs) ≤ 1048576 by have := few_size hp4 hp9; omega)
  have HE := Lib.hid (l12Draw_any w2 q A c bs k1.cur)
  have hs1 := k1.span.size
  clear HD hp4 hp9
  go_wp2_with fail
  (with_reducible refine HE.out.mono ?_)
  rintro e w3 ⟨Q, qk, qs, rfl, ⟨hq3, hq4⟩, hO2, k2⟩
  have HQ := Lib.hid (show (qs.map Row.xs).length + sizeX (qs.map Row.xs) ≤ 1048576 by have := few_size hq3 hq4; omega)
  have hO1 := (hO1.drawn k2 hq1)
  have k3 := k1.trans k2
  have HO := Lib.hid (l1Once_any w3 q A c bs 3 (by omega) k3.cur)
  have hs2 := k2.span.size
  clear HE hq3 hq4 k1
  go_wp2_with fail
  (with_reducible refine HO.out.mono ?_)
  rintro e w4 ⟨b, rfl, k4⟩
  have hs4 := k4.span.size
  have hO1 := (hO1.drawn k4 hq1)
  have hO2 := (hO2.drawn k4 (by omega))
  have ip := few_inL hO1 (by omega) HP.out
  have iq := few_inL hO2 (by omega) HQ.out
  have hb4 := hb.trans ((k3.trans k4).below hq hb.size)
  clear HO hO1 hO2 k3 k2 k4
  rcases b with _ | _
  · go_wp2_with fail
    go_ret2
    exact ⟨P, pk, ps, Q, qk, qs, rfl, ip, iq, hb4⟩
  · have HM := Lib.hid (meet_spec P pk ps Q qk qs w4 ip iq)
    go_wp2_with fail
    (with_reducible refine HM.out.mono ?_)
    rintro e w5 ⟨M, mk, ms, rfl, hX, hO5, hb5⟩
    have HX := Lib.hid hX
    have iq5 := iq.next hb5
    have ip5 := ip.next hb5
    have hb5 := hb4.trans (hb5.mono hb4.size)
    clear HM hX ip iq
    rcases hme : meB (ps.map Row.xs) (qs.map Row.xs) with _ | _
    · go_wp2_with fail
      go_ret2
      exact ⟨P, pk, ps, Q, qk, qs, rfl, ip5, iq5, hb5⟩
    · have im := few_inL hO5 (Nat.le_refl _) (by rw [HX.out]; exact meG_le _ _)
      go_wp2_with fail
      go_ret2
      exact ⟨M, mk, ms, Q, qk, qs, rfl, im, iq5, hb5⟩
set_option maxHeartbeats 800000 in
theorem drawMeetClasses (A : Option Addr) (c : Nat) (bs : List Int) (w : World) (h : InY w A c bs) :
    Calls Tryz.prog 5 #[.slice A bs.length c] w (RetLL w) := by
  have HC := Lib.hid (l13Two_any A c bs w h)
  go_enter Tryz.func5, Tryz.ntmps5
  go_wp2_with fail
  (with_reducible refine HC.out.mono ?_)
  rintro e w1 ⟨D, k, ps, E, m, qs, rfl, hp, hq, hb⟩
  go_wp2_with fail
  go_ret2
  exact ⟨D, k, ps, E, m, qs, rfl, hp, hq, hb⟩
/-- Two lists of rows and a number were drawn. -/
def RetLLX (w : World) (lo hi : Int) (en : Ending) (w' : World) : Prop :=
  ∃ (D : Option Addr) (k : Nat) (ps : List Row) (E : Option Addr) (m : Nat) (qs : List Row) (x : Int), en = .returned (.tuple #[.slice D ps.length k, .slice E qs.length m, .int .i64 x]) ∧ lo ≤ x ∧ x ≤ hi ∧ InL w' D k ps ∧ InL w' E m qs ∧ Below w.heap.size w w'
set_option maxHeartbeats 800000 in
theorem dDrawUnionUpTo (A : Option Addr) (c : Nat) (bs : List Int) (w : World) (h : InY w A c bs) :
    Calls Tryz.prog 8 #[.slice A bs.length c] w (RetLLX w (-1) 4) := by
  have HC := Lib.hid (l13Two_any A c bs w h)
  go_enter Tryz.func8, Tryz.ntmps8
  go_wp2_with fail
  (with_reducible refine HC.out.mono ?_)
  rintro e w1 ⟨D, k, ps, E, m, qs, rfl, hp, hq, hb⟩
  have h1 := h.next hb
  have HN := Lib.hid (l1New_any A c bs w1 h1.len h1.rd)
  clear HC h h1
  go_wp2_with fail
  (with_reducible refine HN.out.mono ?_)
  rintro e w2 ⟨q, rfl, hq2, hc, hb2⟩
  have HO := Lib.hid (l1Below_any w2 q A c bs 5 (by omega) hc)
  clear HN
  go_wp2_with fail
  (with_reducible refine HO.out.mono ?_)
  rintro e w3 ⟨x, rfl, hx, ka⟩
  have hx7 : 0 ≤ x ∧ x ≤ 4 := by have := hx.2.1 (by omega); omega
  have HO := Lib.hid (l1Once_any w3 q A c bs 12 (by omega) ka.cur)
  clear hx
  go_wp2_with fail
  (with_reducible refine HO.out.mono ?_)
  rintro e w4 ⟨b, rfl, kb⟩
  have k3 := ka.trans kb
  obtain ⟨t, ht⟩ : ∃ y : Int, (if b = true then (1 : Int) else 0) = y := ⟨_, rfl⟩
  have htb : 0 ≤ t ∧ t ≤ 1 := by rcases b with _ | _ <;> simp at ht <;> omega
  have HB := Lib.hid (l1Bit_b b t w4 ht)
  clear HO ht kb ka
  go_wp2_with fail
  (with_reducible refine HB.out.mono ?_)
  rintro e w7 ⟨rfl, rfl⟩
  have e2 : IntKind.i64.wrap (x - t) = x - t := IntWalk.i64_in _ (by omega)
  have hbk := hb2.trans (k3.below hq2 hb2.size)
  go_wp2_with fail
  go_ret3
  exact ⟨D, k, ps, E, m, qs, x - t, by first | rfl | (simp only [e2]), by omega, by omega, hp.next hbk, hq.next hbk, hb.trans (hbk.mono hb.size)⟩
set_option maxHeartbeats 800000 in
theorem dDrawFirstBeyond (A : Option Addr) (c : Nat) (bs : List Int) (w : World) (h : InY w A c bs) :
    Calls Tryz.prog 15 #[.slice A bs.length c] w (RetLLX w (-1) 5) := by
  have HC := Lib.hid (l13Two_any A c bs w h)
  go_enter Tryz.func15, Tryz.ntmps15
  go_wp2_with fail
  (with_reducible refine HC.out.mono ?_)
  rintro e w1 ⟨D, k, ps, E, m, qs, rfl, hp, hq, hb⟩
  have h1 := h.next hb
  have HN := Lib.hid (l1New_any A c bs w1 h1.len h1.rd)
  clear HC h h1
  go_wp2_with fail
  (with_reducible refine HN.out.mono ?_)
  rintro e w2 ⟨q, rfl, hq2, hc, hb2⟩
  have HO := Lib.hid (l1Below_any w2 q A c bs 6 (by omega) hc)
  clear HN
  go_wp2_with fail
  (with_reducible refine HO.out.mono ?_)
  rintro e w3 ⟨x, rfl, hx, ka⟩
  have hx7 : 0 ≤ x ∧ x ≤ 5 := by have := hx.2.1 (by omega); omega
  have HO := Lib.hid (l1Once_any w3 q A c bs 12 (by omega) ka.cur)
  clear hx
  go_wp2_with fail
  (with_reducible refine HO.out.mono ?_)
  rintro e w4 ⟨b, rfl, kb⟩
  have k3 := ka.trans kb
  obtain ⟨t, ht⟩ : ∃ y : Int, (if b = true then (1 : Int) else 0) = y := ⟨_, rfl⟩
  have htb : 0 ≤ t ∧ t ≤ 1 := by rcases b with _ | _ <;> simp at ht <;> omega
  have HB := Lib.hid (l1Bit_b b t w4 ht)
  clear HO ht kb ka
  go_wp2_with fail
  (with_reducible refine HB.out.mono ?_)
  rintro e w7 ⟨rfl, rfl⟩
  have e2 : IntKind.i64.wrap (x - t) = x - t := IntWalk.i64_in _ (by omega)
  have hbk := hb2.trans (k3.below hq2 hb2.size)
  go_wp2_with fail
  go_ret3
  exact ⟨D, k, ps, E, m, qs, x - t, by first | rfl | (simp only [e2]), by omega, by omega, hp.next hbk, hq.next hbk, hb.trans (hbk.mono hb.size)⟩
end Go.Proofs.YtodloeonlaljpaaGreat

/- More draws of FnClasses and FnMeets. -/
namespace Go.Proofs.YtodloeonlaljpaaGreat
set_option maxRecDepth 100000
open Go Go.RowKit

/-- A list of rows and a number were drawn. -/
def RetLX (w : World) (lo hi : Int) (en : Ending) (w' : World) : Prop :=
  ∃ (D : Option Addr) (k : Nat) (ps : List Row) (x : Int), en = .returned (.tuple #[.slice D ps.length k, .int .i64 x]) ∧ lo ≤ x ∧ x ≤ hi ∧ InL w' D k ps ∧ Below w.heap.size w w'
/-- A list of rows was drawn. -/
def RetL1 (w : World) (en : Ending) (w' : World) : Prop :=
  ∃ (D : Option Addr) (k : Nat) (ps : List Row), en = .returned (.slice D ps.length k) ∧ InL w' D k ps ∧ Below w.heap.size w w'
set_option maxHeartbeats 800000 in
theorem drawSymmetryBasis (A : Option Addr) (c : Nat) (bs : List Int) (w : World) (h : InY w A c bs) :
    Calls Tryz.prog 10 #[.slice A bs.length c] w (RetLX w (-1) 8) := by
  have HC := Lib.hid (l1New_any A c bs w h.len h.rd)
  go_enter Tryz.func10, Tryz.ntmps10
  go_wp2_with fail
  (with_reducible refine HC.out.mono ?_)
  rintro e w1 ⟨q, rfl, hq, hc, hb⟩
  have hq1 := hc.lt
  have HD := Lib.hid (l12Bent_any w1 q A c bs hc)
  clear HC
  go_wp2_with fail
  (with_reducible refine HD.out.mono ?_)
  rintro e w2 ⟨P, pk, ps, rfl, ⟨hp4, hp9⟩, hO1, k1⟩
  have HP := Lib.hid (show (ps.map Row.xs).length + sizeX (ps.map Row.xs) ≤ 1048576 by have := few_size hp4 hp9; omega)
  have HO := Lib.hid (l1Below_any w2 q A c bs 10 (by omega) k1.cur)
  clear HD hp4 hp9
  go_wp2_with fail
  (with_reducible refine HO.out.mono ?_)
  rintro e w3 ⟨x, rfl, hx, k2⟩
  have hx9 : 0 ≤ x ∧ x ≤ 9 := by have := hx.2.1 (by omega); omega
  have e1 : IntKind.i64.wrap (x - 1) = x - 1 := IntWalk.i64_in _ (by omega)
  have ip := few_inL (hO1.drawn k2 hq1) k2.span.size HP.out
  have hb4 := hb.trans ((k1.trans k2).below hq hb.size)
  clear hx hO1
  go_wp2_with fail
  go_ret2
  exact ⟨P, pk, ps, x - 1, by first | rfl | (simp only [e1]), by omega, by omega, ip, hb4⟩
set_option maxHeartbeats 800000 in
theorem drawIsSumClosed (A : Option Addr) (c : Nat) (bs : List Int) (w : World) (h : InY w A c bs) :
    Calls Tryz.prog 14 #[.slice A bs.length c] w (RetL1 w) := by
  have HC := Lib.hid (l1New_any A c bs w h.len h.rd)
  go_enter Tryz.func14, Tryz.ntmps14
  go_wp2_with fail
  (with_reducible refine HC.out.mono ?_)
  rintro e w1 ⟨q, rfl, hq, hc, hb⟩
  have HD := Lib.hid (l12Bent_any w1 q A c bs hc)
  clear HC
  go_wp2_with fail
  (with_reducible refine HD.out.mono ?_)
  rintro e w2 ⟨P, pk, ps, rfl, ⟨hp4, hp9⟩, hO1, k1⟩
  go_wp2_with fail
  go_ret
  exact ⟨P, pk, ps, rfl, few_inL hO1 (Nat.le_refl _) (by have := few_size hp4 hp9; omega), hb.trans (k1.below hq hb.size)⟩
end Go.Proofs.YtodloeonlaljpaaGreat

/- basisUpTo of the program: a map of texts. -/
namespace Go.Proofs.YtodloeonlaljpaaGreat
set_option maxRecDepth 100000
open Go Go.RowKit

theorem patL_perm {L : List Int} (hn : L.Nodup) (h8 : L.length ≤ 8) : permB (patL L) = true := by
  have hlen := patL_length L
  unfold permB
  rw [decide_eq_true_eq, hlen]
  refine ⟨h8, fun v hv => ?_, ?_⟩
  · unfold patL at hv
    obtain ⟨x, hx, rfl⟩ := List.mem_map.1 hv
    have h1 : belowN L x < L.length := by
      unfold belowN
      exact List.length_filter_lt_length_iff_exists.2 ⟨x, hx, by simp⟩
    omega
  · unfold patL List.Nodup
    rw [List.pairwise_map]
    refine List.Pairwise.imp_of_mem ?_ hn
    intro a b ha hb hab he
    rcases Int.lt_trichotomy a b with h | h | h
    · have := belowN_lt ha h; omega
    · exact hab h
    · have := belowN_lt hb h; omega
theorem cutAt_sub {xs : List Int} {i : Nat} (h : i < xs.length) : (cutAt xs i).Sublist xs := by
  have h1 := cutAt_split h
  have h2 : (xs.take i ++ xs.drop (i + 1)).Sublist (xs.take i ++ (xs[i] :: xs.drop (i + 1))) := (List.Sublist.refl _).append (List.sublist_cons_self _ _)
  rw [← h1] at h2
  exact h2
theorem lowL_perm {p : List Int} (h : permB p = true) : ∀ q ∈ lowL p, permB q = true := fun q hq => by
  have hp := permB_true h
  have h1 := (ordL_mem _ q).1 hq
  unfold lowM at h1
  obtain ⟨i, hi, rfl⟩ := List.mem_map.1 h1
  have hi := List.mem_range.1 hi
  refine patL_perm (hp.2.2.sublist (cutAt_sub hi)) ?_
  rw [cutAt_length p i hi]
  omega
theorem dig_inj {x y : Int} (hx : 1 ≤ x ∧ x ≤ 8) (hy : 1 ≤ y ∧ y ≤ 8) (h : dig x = dig y) : x = y := by
  unfold dig at h
  have h1 := congrArg UInt8.toNat h
  rw [UInt8.toNat_ofNat', UInt8.toNat_ofNat'] at h1
  omega
theorem dig_min {x : Int} (hx : 1 ≤ x ∧ x ≤ 8) : dig x ≠ 45 := by
  intro h
  unfold dig at h
  have h1 := congrArg UInt8.toNat h
  rw [UInt8.toNat_ofNat'] at h1
  have h2 : (45 : UInt8).toNat = 45 := rfl
  omega
theorem map_dig_inj : ∀ {p q : List Int}, (∀ x ∈ p, 1 ≤ x ∧ x ≤ 8) → (∀ x ∈ q, 1 ≤ x ∧ x ≤ 8) → p.map dig = q.map dig → p = q
  | [], [], _, _, _ => rfl
  | [], _ :: _, _, _, h => by simp at h
  | _ :: _, [], _, _, h => by simp at h
  | a :: s, b :: t, hp, hq, h => by
    simp only [List.map_cons, List.cons.injEq] at h
    rw [dig_inj (hp a (by simp)) (hq b (by simp)) h.1, map_dig_inj (fun x hx => hp x (by simp [hx])) (fun x hx => hq x (by simp [hx])) h.2]
theorem perm_18 {p : List Int} (h : permB p = true) : ∀ x ∈ p, 1 ≤ x ∧ x ≤ 8 := fun x hx => by
  have h1 := permB_true h
  have h2 := h1.2.1 x hx
  omega
theorem textD_inj {p q : List Int} (hp : permB p = true) (hq : permB q = true) (h : textD p = textD q) : p = q := by
  unfold textD at h
  by_cases h1 : p = []
  · by_cases h2 : q = []
    · rw [h1, h2]
    · rw [if_pos h1, if_neg h2] at h
      match q, h2, hq with
      | b :: t, _, hq =>
        simp only [List.map_cons, List.cons.injEq] at h
        exact absurd h.1.symm (dig_min (perm_18 hq b (by simp)))
  · by_cases h2 : q = []
    · rw [if_neg h1, if_pos h2] at h
      match p, h1, hp with
      | b :: t, _, hp =>
        simp only [List.map_cons, List.cons.injEq] at h
        exact absurd h.1 (dig_min (perm_18 hp b (by simp)))
    · rw [if_neg h1, if_neg h2] at h
      exact map_dig_inj (perm_18 hp) (perm_18 hq) h
theorem ptext_key {p : List Int} (h : permB p = true) : (ptext p).data.toList = textD p := by
  unfold ptext
  rw [if_pos h]
  rfl
theorem ptext_size {p : List Int} (h : permB p = true) : (ptext p).size ≤ maxLen := by
  unfold ptext
  rw [if_pos h, bs_size]
  have h8 := (permB_true h).1
  unfold textD maxLen
  split
  · simp
  · simp; omega
/-- The keys: the empty permutation's, and those of a list. -/
def keysL (L : List (List Int)) : List (List UInt8) := textD [] :: L.map textD
theorem keysL_mem {L : List (List Int)} {p : List Int} (hL : ∀ q ∈ L, permB q = true) (hp : permB p = true) : textD p ∈ keysL L ↔ p.length = 0 ∨ p ∈ L := by
  unfold keysL
  rw [List.mem_cons, List.mem_map]
  constructor
  · rintro (h | ⟨q, hq, h⟩)
    · left
      rw [textD_inj hp (by decide) h]; rfl
    · right
      rwa [← textD_inj (hL q hq) hp h]
  · rintro (h | h)
    · left
      rw [List.eq_nil_of_length_eq_zero h]
    · exact .inr ⟨p, h, rfl⟩
def mapD (acc : List (List UInt8)) : DataW Unit := acc.foldl (fun m x => m.put (.string x) (.lit (.bool true))) (.map [])
theorem keyLit (k : List UInt8) : WideAt.IsKeyLit (.string k) := trivial
theorem atKey_fold (k : List UInt8) (u z : DataW Unit) : ∀ (acc : List (List UInt8)) (m : DataW Unit), Maps.IsMap m → (acc.foldl (fun m x => m.put (.string x) u) m).atKey (.string k) z = if k ∈ acc then u else m.atKey (.string k) z
  | [], m, _ => by simp
  | x :: t, m, hm => by
    rw [List.foldl_cons, atKey_fold k u z t _ (hm.put (.string x) u)]
    by_cases ht : k ∈ t
    · rw [if_pos ht, if_pos (List.mem_cons_of_mem _ ht)]
    · rw [if_neg ht]
      by_cases hx : k = x
      · subst hx
        rw [if_pos (by simp), Maps.atKey_put_same hm (keyLit k)]
      · rw [if_neg (by simp [hx, ht]), Maps.atKey_put_other (fun e => hx (by injection e))]
theorem mapD_at (acc : List (List UInt8)) (k : List UInt8) : (mapD acc).atKey (.string k) (.lit (.bool false)) = .lit (.bool (decide (k ∈ acc))) := by
  unfold mapD
  rw [atKey_fold k _ _ acc _ Maps.isMap_empty]
  by_cases h : k ∈ acc
  · rw [if_pos h, decide_eq_true h]
  · rw [if_neg h, decide_eq_false h]; rfl
theorem mapD_snoc (acc : List (List UInt8)) (k : List UInt8) : mapD (acc ++ [k]) = (mapD acc).put (.string k) (.lit (.bool true)) := by unfold mapD; rw [List.foldl_append]; rfl
theorem lawS : Maps.Keyed Tryz.prog 9 := Maps.string_keyed Tryz.underlying9
theorem zeroB (w : World) : (zeroValue 4).run Tryz.prog w = .ok (.bool false) w := by kernel_rfl
/-- The map of texts. -/
def TMap (w : World) (b n : Nat) (acc : List (List UInt8)) : Prop := w.ownsMap (H := Unit) Tryz.prog 9 (plainElem Tryz.prog 4) b n (mapD acc)
theorem TMap.look {w : World} {b n : Nat} {acc : List (List UInt8)} (h : TMap w b n acc) {p : List Int} (hp : permB p = true) :
    (Instr.lookup 73 (.map (some b)) (.string (ptext p)) false).run Tryz.prog w = .ok (.bool (decide (textD p ∈ acc))) w := by
  have hkey : keyOf Tryz.prog 9 (.string (ptext p)) = some (.string (textD p)) := by rw [WideMaps.keyOf_string_mk Tryz.underlying9 (ptext_size hp), ptext_key hp]
  obtain ⟨v, ps, hrun, hv⟩ := World.ownsMap.lookup h lawS Tryz.underlying73 (zeroB w) (plainElem_bool Tryz.underlying4 false) hkey
  rw [mapD_at acc _] at hv
  rw [hrun]
  unfold plainElem at hv
  rw [Tryz.underlying4] at hv
  cases v <;> simp at hv
  rw [hv.1]
theorem TMap.store {w : World} {b n : Nat} {acc : List (List UInt8)} (h : TMap w b n acc) (hn : n < maxLen) {p : List Int} (hp : permB p = true) :
    ∃ w', (Instr.mapUpdate 73 (.map (some b)) (.string (ptext p)) (.bool true)).run Tryz.prog w = .ok () w' ∧ TMap w' b (n + 1) (acc ++ [textD p]) ∧ w.grownBy w' (some b) := by
  have hkey : keyOf Tryz.prog 9 (.string (ptext p)) = some (.string (textD p)) := by rw [WideMaps.keyOf_string_mk Tryz.underlying9 (ptext_size hp), ptext_key hp]
  obtain ⟨w', hrun, h1, h2⟩ := World.ownsMap.update h lawS Tryz.underlying73 hn hkey (plainElem_bool Tryz.underlying4 true)
  exact ⟨w', hrun, by unfold TMap; rw [mapD_snoc]; exact h1, h2⟩
theorem TMap.below {w w' : World} {b n : Nat} {acc : List (List UInt8)} (h : TMap w b n acc) (hb : Below w.heap.size w w') : TMap w' b n acc := World.ownsMap.kept h (below_grown hb (row := none)) (by simp)
theorem TMap.dr {w w' : World} {b n : Nat} {acc : List (List UInt8)} (h : TMap w b n acc) (hd : Dr w w') : TMap w' b n acc := by obtain ⟨q, rfl⟩ := hd; exact h
theorem TMap.grown {w w' : World} {b n : Nat} {acc : List (List UInt8)} {row : Option Nat} (h : TMap w b n acc) (hg : w.grownBy w' row) (hne : some b ≠ row) : TMap w' b n acc := World.ownsMap.kept h hg hne
theorem ptext_nil : ptext [] = { data := #[45] } := by decide
theorem call_bu (args : Array Value) (w : World) : (callFunc 85 args).run Tryz.prog w = .ok (.enter 85 args) w := by kernel_rfl
set_option maxHeartbeats 1000000 in
/-- The closure: is a text not in the map? -/
theorem bu_cl (A : Option Addr) (c g b n : Nat) (acc : List (List UInt8)) (p : List Int) (w : World) (h : In w A c p) (hp : permB p = true) (hm : TMap w b n acc) (hg : w.cell? ⟨g, 0, none⟩ = some (.map (some b))) (hgl : g < w.heap.size) :
    Calls Tryz.prog 85 #[.slice A p.length c, .pointer (some ⟨g, 0, none⟩)] w (Rb w (.bool (!decide (textD p ∈ acc)))) := by
  have HM := Lib.hid hm
  have HC := Lib.hid (fun (W : World) (hd : W = w.drew) => by subst hd; exact permText_impl A c p w.drew (h.dr (Dr.refl _).drew))
  have hgd : w.drew.cell? ⟨g, 0, none⟩ = some (.map (some b)) := hg
  have hsz : w.heap.size = w.drew.heap.size := rfl
  clear hm
  go_enter Tryz.func85, Tryz.ntmps85
  go_wp2_with fail
  go_region_held3 (fun v => v.cell? ⟨g, 0, none⟩ = some (.map (some b))) (first | exact hgd | exact hgq | exact hg | fail)
    ((first
      | (go_at_call 83
         refine Calls.mono (HC.out _ (by first | rfl | fail)) ?_
         rintro e wq ⟨rfl, hbq⟩
         have hq : TMap wq b n acc := (HM.out.dr (Dr.refl _).drew).below hbq
         have hrun := hq.look hp
         have hgq : wq.cell? ⟨g, 0, none⟩ = some (.map (some b)) := (hbq.cell (p := ⟨g, 0, none⟩) (by show g < w.drew.heap.size; rw [← hsz]; exact hgl)).trans hgd)
      | fail))
  all_goals
    go_wp2_with fail
    go_ret
    exact ⟨rfl, below_dr (Below.refl _ _) (Dr.refl _).drew |>.trans hbq⟩
set_option maxHeartbeats 8000000 in
theorem basisUpToI (A : Option Addr) (c : Nat) (qs : List Row) (N : Nat) (w : World) (h : InL w A c qs) (hP : ∀ r ∈ qs, permB r.xs = true) (hN : N ≤ 6) :
    Calls Tryz.prog 46 #[.slice A qs.length c, .int .i64 N] w (RetL w (bupL (qs.map Row.xs) N)) := by
  obtain ⟨j0, hj, hy0, hy1, hy2⟩ := info_parts infoL
  have hmf : ∀ (fn : Fn) (first cap : Array Value) (w : World), (Instr.makeFunc fn first cap).run Tryz.prog w = .ok (.func fn first cap) w := fun _ _ _ _ => rfl
  have hmm := @run_makeMap Tryz.prog
  have hqlen := h.len
  have HP := Lib.hid hP
  have hT0 : TMap (w.alloc (.map #[] 0)) w.heap.size 0 [] := World.ownsMap_made _ _ _ _
  obtain ⟨wm, hrun, hT, hgm⟩ := hT0.store (by unfold maxLen; omega) (p := []) (by decide)
  rw [ptext_nil] at hrun
  have hbm : Below w.heap.size w wm := ((Below.refl w.heap.size w).alloc (Nat.le_refl _) (.map #[] 0)).grown hgm (by simp) (fun g hg => by injection hg with hg; omega)
  have hszm : w.heap.size + 1 ≤ wm.heap.size := by have := hgm.size; simp at this; exact this
  clear hP hT0 hgm
  go_enter Tryz.func46, Tryz.ntmps46
  go_wp2_with fail
  -- LOOPS
  obtain ⟨G, hG⟩ : ∃ G, G = wm.heap.size := ⟨_, rfl⟩
  have og0 := obj_new wm (Obj.cells #[Value.map (some w.heap.size)] 73)
  have hb1 := hbm.alloc (by omega) (Obj.cells #[Value.map (some w.heap.size)] 73)
  have hT1 := hT.below ((Below.refl wm.heap.size wm).alloc (Nat.le_refl _) (Obj.cells #[Value.map (some w.heap.size)] 73))
  have hz1 : (wm.alloc (Obj.cells #[Value.map (some w.heap.size)] 73)).heap.size = wm.heap.size + 1 := by simp
  generalize (wm.alloc (Obj.cells #[Value.map (some w.heap.size)] 73)) = w1 at og0 hb1 hT1 hz1 ⊢
  rw [← hG] at og0 hz1 hszm ⊢
  clear hrun hT hbm hG
  go_loopw [16] (fun i wr => ∃ k : Nat, k ≤ qs.length ∧ i = .int .i64 k ∧ TMap wr w.heap.size (k + 1) (keysL ((qs.map Row.xs).take k)) ∧ wr.heap[G]? = some (Obj.cells #[Value.map (some w.heap.size)] 73) ∧ Below w.heap.size w wr ∧ G + 1 ≤ wr.heap.size) (fun i _ => qs.length - (intOf i).toNat)
  case atStart => exact ⟨0, Nat.zero_le _, rfl, hT1, og0, hb1, by omega⟩
  case round =>
    clear hT1 og0 hb1 hz1
    obtain ⟨k, hk, rfl, hT, og, hb, hGs⟩ := hrel
    have fg : wr.cell? ⟨G, 0, none⟩ = some (.map (some w.heap.size)) := (obj_cell og).trans rfl
    rcases Nat.lt_or_ge k qs.length with hlt | hge
    · obtain ⟨bq, off, rfl, _, hc⟩ := (h.next hb).read.at (by omega)
      have cc := hc k hlt
      obtain ⟨r, hr⟩ : ∃ r : Row, r = qs[k] := ⟨_, rfl⟩
      rw [← hr] at cc
      have hmem : r ∈ qs := by rw [hr]; exact List.getElem_mem hlt
      have hin := (h.next hb).row hmem
      have HPR := Lib.hid (HP.out r hmem)
      have HA := Lib.hid (show keysL ((qs.map Row.xs).take (k + 1)) = keysL ((qs.map Row.xs).take k) ++ [textD r.xs] by
        unfold keysL
        rw [List.take_succ_eq_append_getElem (by simpa using hlt), List.map_append]
        simp [hr])
      have HC := Lib.hid (fun (W : World) (hd : W = wr.drew) => by subst hd; exact permText_impl r.A r.c r.xs wr.drew (hin.dr (Dr.refl _).drew))
      have HT := Lib.hid hT
      have hgd : wr.drew.cell? ⟨G, 0, none⟩ = some (.map (some w.heap.size)) := fg
      have HSZ := Lib.hid (show wr.heap.size = wr.drew.heap.size from rfl)
      have HB := Lib.hid hb
      have HOG := Lib.hid og
      have hgw : w.heap.size < G := by omega
      have hkm : k + 1 < maxLen := by unfold maxLen; omega
      clear hc hr hmem hin hT hb og
      go_wp2_with fail
      go_region_held3 (fun v => v.cell? ⟨G, 0, none⟩ = some (.map (some w.heap.size))) (first | exact hgd | exact hgq | exact hgu | fail)
        ((first
          | (go_at_call 83
             refine Calls.mono (HC.out _ (by first | rfl | fail)) ?_
             rintro e wq ⟨rfl, hbq⟩
             have hq := (HT.out.dr (Dr.refl _).drew).below hbq
             have oq := obj_below (show wr.drew.heap[G]? = _ from HOG.out) hbq (by show G < wr.heap.size; omega)
             have hgq : wq.cell? ⟨G, 0, none⟩ = some (.map (some w.heap.size)) := (obj_cell oq).trans rfl
             obtain ⟨wu, hrun, hTu, hgu0⟩ := hq.store hkm HPR.out
             have ou := (hgu0.block G (obj_lt oq) (by intro he; injection he with he; omega)).trans oq
             have hgu : wu.cell? ⟨G, 0, none⟩ = some (.map (some w.heap.size)) := (obj_cell ou).trans rfl
             have hbu : Below w.heap.size w wu := ((below_dr HB.out (Dr.refl _).drew).trans (hbq.mono HB.out.size)).grown hgu0 (by have h1 := hbq.size; have h2 := HB.out.size; have h3 := HSZ.out; omega) (fun q hq => by injection hq with hq; omega)
             have hsu : G + 1 ≤ wu.heap.size := by have h1 := hbq.size; have h2 := hgu0.size; have h3 := HSZ.out; omega
             have K := Lib.hid (And.intro hTu (And.intro ou (And.intro hbu hsu))))
          | fail))
      all_goals
        go_wp2_with fail
        go_roundw
        case rel => exact ⟨k + 1, by omega, by go_num, by rw [HA.out]; exact K.out.1, K.out.2.1, K.out.2.2.1, K.out.2.2.2⟩
        case measure => simp [intOf]; omega
    · obtain rfl : k = qs.length := by omega
      rw [List.take_of_length_le (by simp)] at hT
      obtain ⟨nT, hnT⟩ : ∃ nT, nT = qs.length + 1 := ⟨_, rfl⟩
      rw [← hnT] at hT
      have hlit := Own.lit (lo := w.heap.size) wr hb.size
      have hbl := (Below.refl wr.heap.size wr).alloc (Nat.le_refl _) (.cells #[] 36)
      have hT2 := hT.below hbl
      have og2 := obj_alloc og (.cells #[] 36)
      have hb2 := hb.alloc hb.size (.cells #[] 36)
      have hG2 : G + 1 ≤ (wr.alloc (.cells #[] 36)).heap.size := by simp; omega
      have HACC := Lib.hid (fun (p : List Int) (hp : permB p = true) => keysL_mem (L := qs.map Row.xs) (p := p) (fun q hq => by obtain ⟨r, hr, rfl⟩ := List.mem_map.1 hq; exact HP.out r hr) hp)
      obtain ⟨acc, hacc⟩ : ∃ acc, acc = keysL (qs.map Row.xs) := ⟨_, rfl⟩
      rw [← hacc] at hT2 HACC
      clear hT hbl og hb hnT fg hacc
      go_wp2_with fail
      go_loopw [8, 9] (fun v i wr => ∃ (m : Nat) (A2 : Option Addr) (c2 : Nat) (kept : List Row), m ≤ N ∧ i = .int .i64 ((m : Int) + 1) ∧ v = .slice A2 kept.length c2 ∧ Hid (kept.map Row.xs = bupL (qs.map Row.xs) m) ∧ Own wr w.heap.size wr.heap.size kept [⟨A2, c2, kept.map Row.v⟩] ∧
        TMap wr w.heap.size nT acc ∧ wr.heap[G]? = some (Obj.cells #[Value.map (some w.heap.size)] 73) ∧ Below w.heap.size w wr ∧ G + 1 ≤ wr.heap.size) (fun _ i _ => N + 1 - (intOf i).toNat)
      case atStart => exact ⟨0, _, _, [], Nat.zero_le _, rfl, rfl, Lib.hid rfl, hlit, hT2, og2, hb2, hG2⟩
      case round =>
        clear hlit hT2 og2 hb2 hG2
        obtain ⟨m, A2, c2, kept, hm, rfl, rfl, HX, hO, hT, og, hb, hGs⟩ := hrel
        have hkl : kept.length ≤ 50069 := by
          have h1 := congrArg List.length HX.out
          have h2 := bupL_le (qs.map Row.xs) m (by omega)
          rw [List.length_map] at h1
          omega
        have hsz := hb.size
        rcases Nat.lt_or_ge m N with hlt | hge
        · have d1 : decide ((m : Int) + 1 ≤ (N : Int)) = true := decide_eq_true (by omega)
          obtain ⟨wo, rfl⟩ : ∃ wo : World, wo = wr := ⟨_, rfl⟩
          have HPC := Lib.hid (show Calls Tryz.prog 44 #[.int .i64 ((m : Int) + 1)] wo (RetL wo (permsL (m + 1))) from perms_impl (m + 1) wo (by omega))
          go_wp2_with fail
          (with_reducible refine HPC.out.mono ?_)
          rintro e w2 ⟨A1, c1, rs, rfl, hX, hOr, hb2⟩
          have hbw2 := hb.trans (hb2.mono hsz)
          have hs2 := hb2.size
          have hlen : rs.length ≤ 46656 := by have h1 := permsL_le7 (m := m) (by omega); rw [← hX, List.length_map] at h1; exact h1
          have HXR := Lib.hid hX
          have HPL := Lib.hid (show ∀ r ∈ kept, ∀ g, r.v.ownBlock = some g → g < wo.heap.size from hO.lt)
          have hO2 := (hO.below hb2).wider (Nat.le_refl _) hs2
          have hS2 : Sift w2 w.heap.size wo.heap.size w2.heap.size rs ⟨A1, c1, rs.map Row.v⟩ A2 c2 (kept.map Row.v) :=
            ⟨hOr, own_below hO.out hb2, fun g hg => .inl (hO.out.lt g hg).2⟩
          have hT2 := hT.below hb2
          have og2 := obj_below og hb2 (by omega)
          clear hX hOr hb2 hO hb hT og
          go_wp2_with fail
          go_loopw [8, 33] (fun v i wr => ∃ (j : Nat) (A2 : Option Addr) (c2 : Nat) (vs : List Value), j ≤ rs.length ∧ i = .int .i64 j ∧ v = .slice A2 vs.length c2 ∧ Hid (vs = (kept ++ keptR (bupK (qs.map Row.xs)) rs j).map Row.v) ∧
            Own wr w.heap.size wr.heap.size kept [⟨A2, c2, vs⟩] ∧ Sift wr w.heap.size wo.heap.size w2.heap.size rs ⟨A1, c1, rs.map Row.v⟩ A2 c2 vs ∧
            TMap wr w.heap.size nT acc ∧ wr.heap[G]? = some (Obj.cells #[Value.map (some w.heap.size)] 73) ∧ Below w.heap.size w wr ∧ w2.heap.size ≤ wr.heap.size) (fun _ i _ => rs.length - (intOf i).toNat)
          case atStart => exact ⟨0, A2, c2, kept.map Row.v, Nat.zero_le _, rfl, by rw [List.length_map], Lib.hid (by simp [keptR]), hO2, hS2, hT2, og2, hbw2, Nat.le_refl _⟩
          case round =>
            clear hO2 hS2 hbw2 hT2 og2
            obtain ⟨j, A2, c2, vs, hjl, rfl, rfl, HV, hO, hS, hT, og, hb, hsw⟩ := hrel
            have hvl : vs.length ≤ 100000 := by
              have h1 := keptR_le (bupK (qs.map Row.xs)) rs j
              have h2 := congrArg List.length HV.out
              rw [List.length_map, List.length_append] at h2
              omega
            rcases Nat.lt_or_ge j rs.length with hltj | hgej
            · obtain ⟨p, hp⟩ : ∃ p : Row, p = rs[j] := ⟨_, rfl⟩
              have hpm : p ∈ rs := by rw [hp]; exact List.getElem_mem hltj
              have hRd := hS.rows.read
              obtain ⟨bk, off, rfl, hbk, hc⟩ := hRd.at (by omega)
              have cc : wr.cell? ⟨bk, off + j, none⟩ = some (Value.slice p.A p.xs.length p.c) := by rw [hp]; exact hc j hltj
              have hpx := permsL_perm (n := m + 1) (by omega) (map_memX HXR.out hpm)
              have hl8 : p.xs.length ≤ 8 := by have := hpx.2; omega
              have HPB := Lib.hid hpx.1
              have hin := row_in hRd hpm (by omega) hsw
              have HK := Lib.hid (show keptR (bupK (qs.map Row.xs)) rs (j + 1) = if bupK (qs.map Row.xs) p.xs = true then keptR (bupK (qs.map Row.xs)) rs j ++ [p] else keptR (bupK (qs.map Row.xs)) rs j by rw [keptR_succ _ rs j hltj, ← hp])
              have fg : wr.cell? ⟨G, 0, none⟩ = some (.map (some w.heap.size)) := (obj_cell og).trans rfl
              have hgd : wr.drew.cell? ⟨G, 0, none⟩ = some (.map (some w.heap.size)) := fg
              have HC := Lib.hid (fun (W : World) (hd : W = wr.drew) => by subst hd; exact permText_impl p.A p.c p.xs wr.drew (hin.dr (Dr.refl _).drew))
              have HIN := Lib.hid (hin.dr (Dr.refl _).drew)
              have HT := Lib.hid hT
              have HB := Lib.hid hb
              have HOG := Lib.hid og
              have HSZ := Lib.hid (show wr.heap.size = wr.drew.heap.size from rfl)
              have HO := Lib.hid hO
              have HS := Lib.hid hS
              have hmm2 : decide (textD p.xs ∈ acc) = decide (p.xs ∈ qs.map Row.xs) := decide_eq_decide.2 ((HACC.out p.xs hpx.1).trans ⟨fun h => h.resolve_left (by have := hpx.2; omega), .inr⟩)
              have HLP := Lib.hid (lowL_perm hpx.1)
              have HLA := Lib.hid (show ∀ lw : List Row, lw.map Row.xs = lowL p.xs → (lw.any fun r : Row => !decide (textD r.xs ∈ acc)) = !((lowL p.xs).all (bupP (qs.map Row.xs))) from fun lw hlw => by
                rw [← hlw, List.all_map, Bool.eq_iff_iff, List.any_eq_true, Bool.not_eq_true', List.all_eq_false]
                constructor
                · rintro ⟨r, hr, hx⟩
                  refine ⟨r, hr, ?_⟩
                  have h1 := HACC.out r.xs (lowL_perm hpx.1 r.xs (map_memX hlw hr))
                  simp only [Bool.not_eq_true', decide_eq_false_iff_not] at hx
                  simp only [Function.comp, bupP, Bool.or_eq_true, decide_eq_true_eq]
                  exact fun h => hx (h1.2 h)
                · rintro ⟨r, hr, hx⟩
                  refine ⟨r, hr, ?_⟩
                  have h1 := HACC.out r.xs (lowL_perm hpx.1 r.xs (map_memX hlw hr))
                  simp only [Function.comp, bupP, Bool.or_eq_true, decide_eq_true_eq] at hx
                  simp only [Bool.not_eq_true', decide_eq_false_iff_not]
                  exact fun h => hx (h1.1 h))
              by_cases hIN : p.xs ∈ qs.map Row.xs
              · have HB0 := Lib.hid (show decide (textD p.xs ∈ acc) = true by rw [hmm2]; exact decide_eq_true hIN)
                have HT2 := Lib.hid (show keptR (bupK (qs.map Row.xs)) rs (j + 1) = keptR (bupK (qs.map Row.xs)) rs j by rw [HK.out, if_neg]; unfold bupK; rw [decide_eq_true hIN]; simp)
                clear hc hp hRd hpx hin hT hb og hO hS hmm2 hIN hpm
                go_wp2_with fail
                refine wp_region_held_drew (S := (fun v => v.cell? ⟨G, 0, none⟩ = some (.map (some w.heap.size)))) (by kernel_rfl) hgd (fun hHeld => ?_)
                refine wpAnyH_take (i := 0) (oi := _) (v := ?_) rfl (by kernel_rfl) (by kernel_rfl) (by kernel_rfl) (fun _ _ _ h => h) (Or.inl ⟨by rfl, ?_⟩) (by assumption) ?_
                rotate_left
                · intro w hSw
                  try dsimp only at hSw
                  go_simp
                  all_goals with_reducible rfl
                try simp only [Act.put, List.setIfInBounds_toArray, List.set_cons_zero, List.set_cons_succ, List.getElem_toArray, List.getElem_cons_zero]
                refine wpAnyH_take (i := 1) (oi := _) (v := ?_) rfl (by kernel_rfl) (by kernel_rfl) (by kernel_rfl) (fun _ _ _ h => h) (Or.inl ⟨by rfl, ?_⟩) (by assumption) ?_
                rotate_left
                · intro w hSw
                  try dsimp only at hSw
                  go_simp
                  all_goals with_reducible rfl
                try simp only [Act.put, List.setIfInBounds_toArray, List.set_cons_zero, List.set_cons_succ, List.getElem_toArray, List.getElem_cons_succ, List.getElem_cons_zero]
                refine wpAnyH_ready (rs := [2]) (by kernel_rfl) (by simp) ?_
                refine AllReadyH.cons (o := _) rfl (fun K hK => ?_) AllReadyH.nil
                go_simp
                refine Calls.mono (HC.out _ (by first | rfl | fail)) ?_
                rintro e wq ⟨rfl, hbq⟩
                have hq := (HT.out.dr (Dr.refl _).drew).below hbq
                have oq := obj_below (show wr.drew.heap[G]? = _ from HOG.out) hbq (by show G < wr.heap.size; omega)
                have hgq : wq.cell? ⟨G, 0, none⟩ = some (.map (some w.heap.size)) := (obj_cell oq).trans rfl
                have hrun := hq.look HPB.out
                rw [HB0.out] at hrun
                have hbu : Below w.heap.size w wq := (below_dr HB.out (Dr.refl _).drew).trans (hbq.mono HB.out.size)
                have hO5 := ((HO.out.dr (Dr.refl _).drew).below hbq).wider (Nat.le_refl _) hbq.size
                have hS5 := (HS.out.dr (Dr.refl _).drew).below hbq
                have hs5 : w2.heap.size ≤ wq.heap.size := by have h1 := hbq.size; have h3 := HSZ.out; omega
                have KK := Lib.hid (And.intro hO5 (And.intro hS5 (And.intro hq (And.intro oq (And.intro hbu hs5)))))
                go_wp2_with fail
                refine hK.out _ _ (hgq) (fun hHeld => ?_)
                clear hK K
                try simp only [Act.put, List.setIfInBounds_toArray, List.set_cons_zero, List.set_cons_succ, List.getElem_toArray, List.getElem_cons_succ, List.getElem_cons_zero]
                refine wpAnyH_ready (rs := [3]) (by kernel_rfl) (by simp) ?_
                refine AllReadyH.cons (o := _) rfl (fun K hK => ?_) AllReadyH.nil
                go_simp
                refine hK.out _ _ (hgq) (fun hHeld => ?_)
                clear hK K
                try simp only [Act.put, List.setIfInBounds_toArray, List.set_cons_zero, List.set_cons_succ, List.getElem_toArray, List.getElem_cons_succ, List.getElem_cons_zero]
                refine wpAnyH_take (i := 4) (oi := _) (v := ?_) rfl (by kernel_rfl) (by kernel_rfl) (by kernel_rfl) (fun _ _ _ h => h) (Or.inl ⟨by rfl, ?_⟩) (by assumption) ?_
                rotate_left
                · intro w hSw
                  try dsimp only at hSw
                  go_simp
                  all_goals with_reducible rfl
                try simp only [Act.put, List.setIfInBounds_toArray, List.set_cons_zero, List.set_cons_succ, List.getElem_toArray, List.getElem_cons_succ, List.getElem_cons_zero]
                refine wpAnyH_take (i := 5) (oi := _) (v := ?_) rfl (by kernel_rfl) (by kernel_rfl) (by kernel_rfl) (fun _ _ _ h => h) (Or.inl ⟨by rfl, ?_⟩) (by assumption) ?_
                rotate_left
                · intro w hSw
                  try dsimp only at hSw
                  go_simp
                  all_goals with_reducible rfl
                try simp only [Act.put, List.setIfInBounds_toArray, List.set_cons_zero, List.set_cons_succ, List.getElem_toArray, List.getElem_cons_succ, List.getElem_cons_zero]
                refine wpAnyH_take (i := 6) (oi := _) (v := undef) rfl (by kernel_rfl) (by kernel_rfl) (by kernel_rfl) (fun _ _ _ h => h) (Or.inr ⟨by rfl, rfl⟩) (by assumption) ?_
                try simp only [Act.put, List.setIfInBounds_toArray, List.set_cons_zero, List.set_cons_succ, List.getElem_toArray, List.getElem_cons_succ, List.getElem_cons_zero]
                refine wpAnyH_take (i := 7) (oi := _) (v := undef) rfl (by kernel_rfl) (by kernel_rfl) (by kernel_rfl) (fun _ _ _ h => h) (Or.inr ⟨by rfl, rfl⟩) (by assumption) ?_
                try simp only [Act.put, List.setIfInBounds_toArray, List.set_cons_zero, List.set_cons_succ, List.getElem_toArray, List.getElem_cons_succ, List.getElem_cons_zero]
                refine wpAnyH_take (i := 8) (oi := _) (v := undef) rfl (by kernel_rfl) (by kernel_rfl) (by kernel_rfl) (fun _ _ _ h => h) (Or.inr ⟨by rfl, rfl⟩) (by assumption) ?_
                try simp only [Act.put, List.setIfInBounds_toArray, List.set_cons_zero, List.set_cons_succ, List.getElem_toArray, List.getElem_cons_succ, List.getElem_cons_zero]
                refine wpAnyH_take (i := 9) (oi := _) (v := undef) rfl (by kernel_rfl) (by kernel_rfl) (by kernel_rfl) (fun _ _ _ h => h) (Or.inr ⟨by rfl, rfl⟩) (by assumption) ?_
                try simp only [Act.put, List.setIfInBounds_toArray, List.set_cons_zero, List.set_cons_succ, List.getElem_toArray, List.getElem_cons_succ, List.getElem_cons_zero]
                refine wpAnyH_take (i := 10) (oi := _) (v := undef) rfl (by kernel_rfl) (by kernel_rfl) (by kernel_rfl) (fun _ _ _ h => h) (Or.inr ⟨by rfl, rfl⟩) (by assumption) ?_
                try simp only [Act.put, List.setIfInBounds_toArray, List.set_cons_zero, List.set_cons_succ, List.getElem_toArray, List.getElem_cons_succ, List.getElem_cons_zero]
                refine wpAnyH_take (i := 11) (oi := _) (v := ?_) rfl (by kernel_rfl) (by kernel_rfl) (by kernel_rfl) (fun _ _ _ h => h) (Or.inl ⟨by rfl, ?_⟩) (by assumption) ?_
                rotate_left
                · intro w hSw
                  try dsimp only at hSw
                  go_simp
                  all_goals with_reducible rfl
                try simp only [Act.put, List.setIfInBounds_toArray, List.set_cons_zero, List.set_cons_succ, List.getElem_toArray, List.getElem_cons_succ, List.getElem_cons_zero]
                refine wpAnyH_done (by kernel_rfl) ?_ _
                go_wp2_with fail
                go_roundw
                case rel => exact ⟨j + 1, A2, c2, vs, by omega, by go_num, rfl, Lib.hid (by rw [HT2.out, HV.out]), KK.out.1, KK.out.2.1, KK.out.2.2.1, KK.out.2.2.2.1, KK.out.2.2.2.2.1, KK.out.2.2.2.2.2⟩
                case measure => simp [intOf]; omega
              · have HB0 := Lib.hid (show decide (textD p.xs ∈ acc) = false by rw [hmm2]; exact decide_eq_false hIN)
                obtain ⟨b1, hb1⟩ : ∃ b1 : Bool, (!((lowL p.xs).all (bupP (qs.map Row.xs)))) = b1 := ⟨_, rfl⟩
                have HKB := Lib.hid (show bupK (qs.map Row.xs) p.xs = !b1 by unfold bupK; rw [decide_eq_false hIN, ← hb1]; simp)
                have HB1 := Lib.hid hb1
                clear hc hp hRd hpx hin hT hb og hO hS hmm2 hIN hb1 hpm
                go_wp2_with fail
                go_region_held3 (fun v => v.cell? ⟨G, 0, none⟩ = some (.map (some w.heap.size))) (first | exact hgd | exact hgz | exact hgl | exact hgq | fail)
                  ((first
                    | (go_at_call 83
                       refine Calls.mono (HC.out _ (by first | rfl | fail)) ?_
                       rintro e wq ⟨rfl, hbq⟩
                       have hq := (HT.out.dr (Dr.refl _).drew).below hbq
                       have oq := obj_below (show wr.drew.heap[G]? = _ from HOG.out) hbq (by show G < wr.heap.size; omega)
                       have hgq : wq.cell? ⟨G, 0, none⟩ = some (.map (some w.heap.size)) := (obj_cell oq).trans rfl
                       have hrun := hq.look HPB.out
                       rw [HB0.out] at hrun
                       have hbu : Below w.heap.size w wq := (below_dr HB.out (Dr.refl _).drew).trans (hbq.mono HB.out.size)
                       have hO5 := ((HO.out.dr (Dr.refl _).drew).below hbq).wider (Nat.le_refl _) hbq.size
                       have hS5 := (HS.out.dr (Dr.refl _).drew).below hbq
                       have hs5 : w2.heap.size ≤ wq.heap.size := by have h1 := hbq.size; have h3 := HSZ.out; omega
                       have Kq := Lib.hid (And.intro hO5 (And.intro hS5 (And.intro hq (And.intro oq (And.intro hbu hs5)))))
                       have HLC := Lib.hid (lowers_impl p.A p.c p.xs wq (HIN.out.next hbq) hl8)
                       clear hO5 hS5 hq oq hbu hs5 hbq)
                    | (go_at_call 84
                       refine Calls.mono HLC.out ?_
                       rintro e wl ⟨A6, c6, lw, rfl, hXl, hOl, hbl⟩
                       have hq := Kq.out.2.2.1.below hbl
                       have oq := obj_below Kq.out.2.2.2.1 hbl (obj_lt Kq.out.2.2.2.1)
                       have hgl : wl.cell? ⟨G, 0, none⟩ = some (.map (some w.heap.size)) := (obj_cell oq).trans rfl
                       have hbu := Kq.out.2.2.2.2.1.trans (hbl.mono Kq.out.2.2.2.2.1.size)
                       have hO5 := (Kq.out.1.below hbl).wider (Nat.le_refl _) hbl.size
                       have hS5 := Kq.out.2.1.below hbl
                       have hs5 : w2.heap.size ≤ wl.heap.size := by have h1 := hbl.size; have h2 := Kq.out.2.2.2.2.2; omega
                       have HRL := Lib.hid hOl.read
                       have HXL := Lib.hid hXl
                       have hll : lw.length ≤ 8 := by have h1 := congrArg List.length hXl; have h2 := lowL_length p.xs; rw [List.length_map] at h1; omega
                       have HL8 := Lib.hid (show ∀ r ∈ lw, r.xs.length ≤ 1048576 from fun r hr => by have := lowL_len r.xs (map_memX hXl hr); omega)
                       have Kl := Lib.hid (And.intro hO5 (And.intro hS5 (And.intro hq (And.intro oq (And.intro hbu hs5)))))
                       clear hO5 hS5 hq oq hbu hs5 hbl hXl hOl)
                    | (go_at_call 58
                       refine Calls.mono (containsFuncL1 A6 c6 lw 85 G (fun q => !decide (textD q ∈ acc)) wl (by omega) HRL.out (fun args w' => call_bu args w') (fun w' q hq hbb => bu_cl _ _ G w.heap.size nT acc _ w' ((row_in HRL.out (List.getElem_mem hq) (HL8.out _ (List.getElem_mem hq)) (Nat.le_refl _)).next hbb) (HLP.out _ (map_memX HXL.out (List.getElem_mem hq))) (Kl.out.2.2.1.below hbb) ((obj_cell (obj_below Kl.out.2.2.2.1 hbb (obj_lt Kl.out.2.2.2.1))).trans rfl) (Nat.lt_of_lt_of_le (obj_lt Kl.out.2.2.2.1) hbb.size)) b1 (by rw [HLA.out lw HXL.out, HB1.out])) ?_
                       rintro e wz ⟨rfl, hbz⟩
                       have hq := Kl.out.2.2.1.below hbz
                       have oq := obj_below Kl.out.2.2.2.1 hbz (obj_lt Kl.out.2.2.2.1)
                       have hgz : wz.cell? ⟨G, 0, none⟩ = some (.map (some w.heap.size)) := (obj_cell oq).trans rfl
                       have hbu := Kl.out.2.2.2.2.1.trans (hbz.mono Kl.out.2.2.2.2.1.size)
                       have hO5 := (Kl.out.1.below hbz).wider (Nat.le_refl _) hbz.size
                       have hS5 := Kl.out.2.1.below hbz
                       have hs5 : w2.heap.size ≤ wz.heap.size := by have h1 := hbz.size; have h2 := Kl.out.2.2.2.2.2; omega
                       have K := Lib.hid (And.intro hO5 (And.intro hS5 (And.intro hq (And.intro oq (And.intro hbu hs5)))))
                       clear hO5 hS5 hq oq hbu hs5 hbz)
                    | fail))
                all_goals
                  have hbz := K.out.2.2.2.2.1
                  have hwz5 : w.heap.size ≤ wz.heap.size := hbz.size
                  have hsw5 := K.out.2.2.2.2.2
                  have hT5 := K.out.2.2.1
                  have oz := K.out.2.2.2.1
                  have hO5 := K.out.1
                  have hS5 := K.out.2.1
                  clear hgd hgq hgl hgz fg
                  cases b1 with
                  | true =>
                    have HT2 := Lib.hid (show keptR (bupK (qs.map Row.xs)) rs (j + 1) = keptR (bupK (qs.map Row.xs)) rs j by rw [HK.out, HKB.out]; rfl)
                    go_wp2_with fail
                    go_roundw
                    case rel => exact ⟨j + 1, A2, c2, vs, by omega, by go_num, rfl, Lib.hid (by rw [HT2.out, HV.out]), hO5, hS5, hT5, oz, hbz, hsw5⟩
                    case measure => simp [intOf]; omega
                  | false =>
                    have HT2 := Lib.hid (show keptR (bupK (qs.map Row.xs)) rs (j + 1) = keptR (bupK (qs.map Row.xs)) rs j ++ [p] by rw [HK.out, HKB.out]; rfl)
                    have ho2 := hS5.outN (n := vs.length) rfl
                    have hol := hS5.olim (n := vs.length) rfl
                    have HOW := Lib.hid (show ∀ q, (Value.slice A2 vs.length c2).ownBlock = some q → q ≠ G ∧ q ≠ w.heap.size from fun q hq => by
                      obtain ⟨g', cap', cur', hv', _, hcur, _⟩ := ho2.2.resolve_left (fun hn => by rw [hn.1] at hq; cases hq)
                      injection hv' with hv1 _ _
                      subst hv1
                      injection hq with hq
                      subst hq
                      constructor
                      · intro e
                        subst e
                        rw [oz] at hcur
                        injection hcur with hcur
                        injection hcur with _ h2
                        exact absurd h2 (by decide)
                      · intro e
                        subst e
                        obtain ⟨es, clock, hes, _⟩ := hT5
                        rw [hes] at hcur
                        injection hcur with hcur
                        cases hcur)
                    go_wp2_with (at_builtin; refine wpList_append_own_at _ rfl _ _ 24 rfl (w.heap.size) 36 j0 (.slice none 0 0) 1 24 Tryz.underlying24 hj hy0 hy1 hy2 rfl (by decide) _ _ _ rfl (World.ownsRow.alloc ho2 _) ⟨wz.heap.size, 0, none⟩ 1 1 [Value.slice p.A p.xs.length p.c] rfl rfl (cell_one_at _ _ (by simp)) (by intro u hu; simp at hu; subst hu; rfl) (by unfold maxLen; omega) (by omega) (by simp; omega) ?_; intro v9 w9 hown9 hgrow9 _ hat9)
                    obtain ⟨A5, c5, hv5, hS6, hg6⟩ := hS5.grow hsw5 rfl hown9 hgrow9 hat9
                    obtain ⟨A7, c7, hv7, hO6, _⟩ := hO5.grow (Nat.le_refl _) rfl hown9 hgrow9
                    have hE := hv5.symm.trans hv7
                    injection hE with hE1 _ hE2
                    subst hE1 hE2
                    subst hv5
                    have hb6 := hbz.grown hg6 hwz5 hol
                    have hsz6 : w2.heap.size ≤ w9.heap.size := by have := hg6.size; omega
                    have hT6 := hT5.grown hg6 (fun e => (HOW.out _ e.symm).2 rfl)
                    have o6 := (hg6.block G (obj_lt oz) (fun e => (HOW.out _ e.symm).1 rfl)).trans oz
                    have K := Lib.hid (And.intro hO6 (And.intro hS6 (And.intro hT6 (And.intro o6 (And.intro hb6 hsz6)))))
                    clear hS6 hO6 hb6 hT6 o6 hown9 hgrow9 hat9 hg6 hS5 hO5 ho2 hol hbz hT5 oz hv7 hsz6
                    go_wp2_with fail
                    go_roundw
                    case rel => exact ⟨j + 1, A5, c5, vs ++ [Value.slice p.A p.xs.length p.c], by omega, by go_num, by rw [List.length_append]; rfl, Lib.hid (by rw [HT2.out, HV.out]; simp [Row.v]), K.out.1, K.out.2.1, K.out.2.2.1, K.out.2.2.2.1, K.out.2.2.2.2.1, K.out.2.2.2.2.2⟩
                    case measure => simp [intOf]; omega
            · obtain rfl : j = rs.length := by omega
              have hfin := sift_end (kept := keptR (bupK (qs.map Row.xs)) rs rs.length) hO HPL.out hS (keptR_sub _ _) HV.out hsz hs2 hsw
              have HLE := Lib.hid (show vs.length = (kept ++ keptR (bupK (qs.map Row.xs)) rs rs.length).length by rw [HV.out, List.length_map])
              have HXN := Lib.hid (show (kept ++ keptR (bupK (qs.map Row.xs)) rs rs.length).map Row.xs = bupL (qs.map Row.xs) (m + 1) by rw [List.map_append, keptR_all, HX.out, HXR.out, bupL_succ])
              have hG9 : G + 1 ≤ wr.heap.size := obj_lt og
              have K := Lib.hid (And.intro hfin (And.intro hT (And.intro og (And.intro hb hG9))))
              clear hfin hO hS hT og hb
              go_wp2_with fail
              go_roundw
              case rel => exact ⟨m + 1, A2, c2, kept ++ keptR (bupK (qs.map Row.xs)) rs rs.length, by omega, by go_num, by rw [← HLE.out], HXN, K.out.1, K.out.2.1, K.out.2.2.1, K.out.2.2.2.1, K.out.2.2.2.2⟩
              case measure => simp [intOf]; omega
        · obtain rfl : m = N := by omega
          have d1 : decide ((m : Int) + 1 ≤ (m : Int)) = false := decide_eq_false (by omega)
          go_wp2_with fail
          go_ret
          exact ⟨A2, c2, kept, rfl, HX.out, hO, hb⟩
end Go.Proofs.YtodloeonlaljpaaGreat

/- BasisUpTo of the program. -/
namespace Go.Proofs.YtodloeonlaljpaaGreat
set_option maxRecDepth 100000
open Go Go.RowKit

theorem allPerm_true {X : List (List Int)} (h : allPermB X = true) : ∀ q ∈ X, permB q = true := fun q hq => by
  unfold allPermB at h
  have h1 : (X.any fun p => !permB p) = false := by simpa using h
  have h2 := List.any_eq_false.1 h1 q hq
  simpa using h2
theorem allPerm_ofU {X : List (List Int)} (h : ∀ q ∈ X, permB q = true) : allPermB X = true := by
  unfold allPermB
  rw [show (X.any fun p => !permB p) = false from List.any_eq_false.2 fun q hq => by rw [h q hq]; simp]; rfl
end Go.Proofs.YtodloeonlaljpaaGreat
