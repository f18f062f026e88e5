/- MeetClasses, program and reference; slices.Concat of two lists of rows. -/
import Derived.Test.YthkggnmfdlggbaaY3
import Derived.Test.YthkggnmfdlggbaaZ2
import Derived.Test.YthkggnmfdlggbaaShelfG
import Derived.Shelf.Spec.SlicesGrow
namespace Go.Proofs.Ythkggnmfdlggbaa
set_option maxRecDepth 100000
open Go Go.RowKit

def meB (X Y : List (List Int)) : Bool := basisB X && basisB Y && mkB (X ++ Y)
def meG (X Y : List (List Int)) : List (List Int) := if basisB X && basisB Y then mkG (X ++ Y) else []
theorem meG_le (X Y : List (List Int)) : (meG X Y).length + sizeX (meG X Y) ≤ 1048576 := by
  unfold meG
  split
  · exact mkG_le _
  · simp [sizeX]
theorem inL_of {w : World} {base c : Nat} {A : Option Addr} {rs : List Row} (hl : rs.length + sizeR rs ≤ 1048576) (hr : ∀ r ∈ rs, In w r.A r.c r.xs) (ho : w.ownsRow base 22 1 (.slice A rs.length c) rs.length (rs.map Row.v)) : InL w A c rs :=
  ⟨hl, ⟨fun r h => (hr r h).cap, fun r h => (hr r h).rd, fun o h => by obtain rfl := List.mem_singleton.1 h; simpa using (own_caps ho).1, fun o h => by
    obtain rfl := List.mem_singleton.1 h
    have h1 : w.ownsRow base 22 1 (.slice A (rs.map Row.v).length c) (rs.map Row.v).length ((rs.map Row.v).map id) := by simpa using ho
    exact Rd.of_own h1⟩⟩
theorem sizeR_app (rs qs : List Row) : sizeR (rs ++ qs) = sizeR rs + sizeR qs := by simp [sizeR]
theorem basis_sizeR {rs : List Row} (h : basisB (rs.map Row.xs) = true) : rs.length + sizeR rs ≤ 72 := by
  have h1 := basis_len h
  rw [List.length_map] at h1
  have h2 : sizeR rs ≤ rs.length * 8 := by
    have hp := basis_perm h
    clear h h1
    induction rs with
    | nil => simp [sizeR]
    | cons a t ih =>
      have h1 := (permB_true (hp a.xs (by simp))).1
      have h2 := ih (fun q hq => hp q (by simp only [List.map_cons, List.mem_cons]; exact .inr hq))
      simp only [sizeR, List.map_cons, List.sum_cons, List.length_cons, Nat.add_mul, Nat.one_mul] at h2 ⊢
      omega
  omega
theorem info_z : ∃ i0 : TypeInfo, Try.prog.info? 22 = some i0 ∧ i0.zero = some (.slice none 0 0) ∧ i0.size = 1 ∧ i0.bytes = 24 := info_parts infoL
/-- slices.Grow of the nil list. -/
theorem growL_any (n : Nat) (w : World) (hn : n ≤ 1048576) :
    Calls Try.prog 97 #[.slice none 0 0, .int .i64 n] w fun e w' => ∃ A c, e = .returned (.slice A 0 c) ∧ w'.ownsRow w.heap.size 22 1 (.slice A 0 c) 0 [] ∧ Below w.heap.size w w' := by
  rcases Nat.eq_zero_or_pos n with h0 | h0
  · subst h0
    refine (Any8.slices_Grow_room Try.growL none 0 0 0 w (Nat.le_refl _) (by omega) (by omega) (Nat.le_refl _)).mono ?_
    rintro e w' ⟨rfl, rfl⟩
    exact ⟨none, 0, rfl, World.ownsRow_nil _ _ _ _, Below.refl _ _⟩
  · obtain ⟨j0, hj, hy0, hy1, hy2⟩ := info_z
    refine (Any8.slices_Grow_grow Try.growL j0 (.slice none 0 0) hj hy0 (by omega) none 0 0 n [] w (Nat.le_refl _) (by omega) (by rw [hy2]; omega) (by omega) (by simp) (fun _ => rfl) (fun a ha => by cases ha)).mono ?_
    rintro e w' ⟨rfl, rfl⟩
    refine ⟨_, _, rfl, ?_, (below_dr (Below.refl _ _) (Dr.refl _).drew).alloc (Nat.le_refl _) _⟩
    have hcap := grownCap_ge w (0 + n) 0 22
    refine ⟨rfl, .inr ⟨w.heap.size, _, _, rfl, Nat.le_refl _, obj_new w.drew _, Nat.zero_le _, grownCap_le_maxLen w (0 + n) 0 22 (by unfold maxLen; omega), ?_, by simp⟩⟩
    have e1 : (Value.slice none 0 0).cells.size = 1 := rfl
    have hcap' : 0 + n ≤ grownCap w (0 + n) 0 22 := hcap
    show (Array.size ((([] : List Value).toArray ++ Builtin.zeroCells (Value.slice none 0 0).cells (0 + n - 0)) ++ Builtin.zeroCells (Value.slice none 0 0).cells (grownCap w (0 + n) 0 22 - (0 + n)))) = grownCap w (0 + n) 0 22 * 1
    rw [Array.size_append, Array.size_append, size_zeroCells, size_zeroCells, e1]
    simp only [List.size_toArray, List.length_nil]
    omega
def cc1 (n m k : Nat) : Nat := if k = 0 then 0 else if k = 1 then n else n + m
def ccL (ps bs : List Row) (k : Nat) : List Row := if k = 0 then [] else if k = 1 then ps else ps ++ bs
set_option maxHeartbeats 2000000 in
theorem concat_any (g : Nat) (A B : Option Addr) (c d : Nat) (ps bs : List Row) (w : World) (hg : w.heap[g]? = some (.cells #[.slice A ps.length c, .slice B bs.length d] 33 (0, 0)))
    (ha : InL w A c ps) (hb : InL w B d bs) (hsa : ps.length ≤ 1000) (hsb : bs.length ≤ 1000) :
    Calls Try.prog 70 #[.slice (some ⟨g, 0, none⟩) 2 2] w fun e w' => ∃ A' c', e = .returned (.slice A' (ps ++ bs).length c') ∧ w'.ownsRow w.heap.size 22 1 (.slice A' (ps ++ bs).length c') (ps ++ bs).length ((ps ++ bs).map Row.v) ∧ Below w.heap.size w w' := by
  obtain ⟨j0, hj, hy0, hy1, hy2⟩ := info_parts infoL
  have f0 : w.cell? ⟨g, 0, none⟩ = some (.slice A ps.length c) := (obj_cell hg).trans rfl
  have f1 : w.cell? ⟨g, 0 + 1, none⟩ = some (.slice B bs.length d) := (obj_cell hg).trans rfl
  go_enter Try.func70, Try.ntmps70
  go_wp2_with fail
  go_loop [3, 11] (fun v i => ∃ k : Nat, k ≤ 2 ∧ i = .int .i64 k ∧ v = .int .i64 (cc1 ps.length bs.length k)) (fun _ i => 2 - (intOf i).toNat)
  case atStart => exact ⟨0, by omega, rfl, rfl⟩
  case round =>
    obtain ⟨k, hk, rfl, rfl⟩ := hrel
    rcases (show k = 0 ∨ k = 1 ∨ k = 2 by omega) with rfl | rfl | rfl
    · have e1 : IntKind.i64.wrap (((cc1 ps.length bs.length 0 : Nat) : Int) + (ps.length : Int)) = ((cc1 ps.length bs.length 1 : Nat) : Int) := by rw [IntWalk.i64_in _ (by simp [cc1]; omega)]; simp [cc1]
      have d1 : decide (((cc1 ps.length bs.length 1 : Nat) : Int) < 0) = false := decide_eq_false (by omega)
      go_wp2_with fail
      go_round
      case rel => exact ⟨1, by omega, by go_num, rfl⟩
      case measure => simp [intOf]
    · have e1 : IntKind.i64.wrap (((cc1 ps.length bs.length 1 : Nat) : Int) + (bs.length : Int)) = ((cc1 ps.length bs.length 2 : Nat) : Int) := by rw [IntWalk.i64_in _ (by simp [cc1]; omega)]; simp [cc1]
      have d1 : decide (((cc1 ps.length bs.length 2 : Nat) : Int) < 0) = false := decide_eq_false (by omega)
      go_wp2_with fail
      go_round
      case rel => exact ⟨2, by omega, by go_num, rfl⟩
      case measure => simp [intOf]
    · have HG := Lib.hid (growL_any (cc1 ps.length bs.length 2) w (by simp [cc1]; omega))
      go_wp2_with fail
      (with_reducible refine HG.out.mono ?_)
      rintro e w1 ⟨A1, c1, rfl, own1, hb1⟩
      have g1 := obj_below hg hb1 (obj_lt hg)
      go_wp2_with fail
      go_loopw [6, 27] (fun v i wr => ∃ (k : Nat) (A1 : Option Addr) (c1 n : Nat), k ≤ 2 ∧ i = .int .i64 k ∧ v = .slice A1 n c1 ∧ Hid (n = (ccL ps bs k).length) ∧ wr.ownsRow w.heap.size 22 1 (.slice A1 n c1) n ((ccL ps bs k).map Row.v) ∧ Below w.heap.size w wr) (fun _ i _ => 2 - (intOf i).toNat)
      case atStart => exact ⟨0, A1, c1, 0, by omega, rfl, rfl, Lib.hid rfl, own1, hb1⟩
      case round =>
        clear own1 hb1 g1
        obtain ⟨k, A1, c1, n, hk, rfl, rfl, HN, own1, hb1⟩ := hrel
        have g1 := obj_below hg hb1 (obj_lt hg)
        have k0 : wr.cell? ⟨g, 0, none⟩ = some (.slice A ps.length c) := (obj_cell g1).trans rfl
        have k1 : wr.cell? ⟨g, 0 + 1, none⟩ = some (.slice B bs.length d) := (obj_cell g1).trans rfl
        have ha1 := read_rows (ha.next hb1).read
        have hs1 := hb1.size
        have hb1' := read_rows (hb.next hb1).read
        rcases (show k = 0 ∨ k = 1 ∨ k = 2 by omega) with rfl | rfl | rfl
        · have hl0 : n = 0 := HN.out
          go_wp2_with (at_builtin; refine wpList_append_rd _ rfl _ _ 33 rfl (w.heap.size) 22 j0 (.slice none 0 0) 24 Try.underlying33 hj hy0 hy1 hy2 rfl _ _ _ rfl own1 _ _ _ _ (ps) rfl rfl ha1 (fun _ => rfl) (by unfold maxLen; omega) (by omega) (by first | omega | (simp; done) | (simp; omega)) ?_; intro v1 w1 hown1 hgrow1)
          obtain ⟨A5, c5, rfl, _, _⟩ := own_shape hown1
          have hb2 := hb1.grown hgrow1 hb1.size (fun q hq => (own1.lt q hq).1)
          have K := Lib.hid (And.intro hown1 hb2)
          clear hown1 hb2 hgrow1 own1 hb1 k0 k1
          go_wp2_with fail
          go_roundw
          case rel => exact ⟨1, A5, c5, n + ps.length, by omega, by go_num, rfl, Lib.hid (by rw [HN.out]; simp [ccL]), by simpa [ccL] using K.out.1, K.out.2⟩
          case measure => simp [intOf]
        · have hl1 : n = ps.length := HN.out
          go_wp2_with (at_builtin; refine wpList_append_rd _ rfl _ _ 33 rfl (w.heap.size) 22 j0 (.slice none 0 0) 24 Try.underlying33 hj hy0 hy1 hy2 rfl _ _ _ rfl own1 _ _ _ _ (bs) rfl rfl hb1' (fun _ => rfl) (by unfold maxLen; omega) (by omega) (by first | omega | (simp; done) | (simp; omega)) ?_; intro v1 w1 hown1 hgrow1)
          obtain ⟨A5, c5, rfl, _, _⟩ := own_shape hown1
          have hb2 := hb1.grown hgrow1 hb1.size (fun q hq => (own1.lt q hq).1)
          have K := Lib.hid (And.intro hown1 hb2)
          clear hown1 hb2 hgrow1 own1 hb1 k0 k1
          go_wp2_with fail
          go_roundw
          case rel => exact ⟨2, A5, c5, n + bs.length, by omega, by go_num, rfl, Lib.hid (by rw [HN.out]; simp [ccL]), by simpa [ccL] using K.out.1, K.out.2⟩
          case measure => simp [intOf]
        · have hn2 : n = (ps ++ bs).length := HN.out
          subst hn2
          have K := Lib.hid (And.intro own1 hb1)
          clear own1 hb1
          go_wp2_with fail
          go_ret
          exact ⟨A1, c1, by simp, K.out.1, K.out.2⟩
set_option maxHeartbeats 2000000 in
theorem meet_impl (A : Option Addr) (c : Nat) (rs : List Row) (B : Option Addr) (d : Nat) (qs : List Row) (w : World) (h : InL w A c rs) (hq : InL w B d qs) :
    Calls Try.prog 34 #[.slice A rs.length c, .slice B qs.length d] w (RetLb w (meG (rs.map Row.xs) (qs.map Row.xs)) (meB (rs.map Row.xs) (qs.map Row.xs))) := by
  by_cases hB : basisB (rs.map Row.xs) = true
  · by_cases hP : basisB (qs.map Row.xs) = true
    · have HG := Lib.hid (show meG (rs.map Row.xs) (qs.map Row.xs) = mkG (rs.map Row.xs ++ qs.map Row.xs) by unfold meG; rw [hB, hP]; rfl)
      have HF := Lib.hid (show meB (rs.map Row.xs) (qs.map Row.xs) = mkB (rs.map Row.xs ++ qs.map Row.xs) by unfold meB; rw [hB, hP]; rfl)
      have hr8 := basis_sizeR hB
      have hq8 := basis_sizeR hP
      have H1 := Lib.hid hB
      have H2 := Lib.hid hP
      clear hB hP
      go_enter Try.func34, Try.ntmps34
      go_wp2_with fail
      (with_reducible refine (basis_ib A c rs w true h H1.out).mono ?_)
      rintro e w1 ⟨rfl, hb1⟩
      go_wp2_with fail
      (with_reducible refine (basis_ib B d qs w1 true (hq.next hb1) H2.out).mono ?_)
      rintro e w2 ⟨rfl, hb2⟩
      have hb12 := hb1.trans (hb2.mono hb1.size)
      have hb3 := hb12.alloc hb12.size (.cells #[.slice A rs.length c, .slice B qs.length d] 33)
      have HC := Lib.hid (concat_any w2.heap.size A B c d rs qs (w2.alloc (.cells #[.slice A rs.length c, .slice B qs.length d] 33)) (obj_new _ _) (h.next hb3) (hq.next hb3) (by omega) (by omega))
      have hs3 := hb3.size
      go_wp2_with fail
      (with_reducible refine HC.out.mono ?_)
      rintro e w4 ⟨A4, c4, rfl, own4, hb4⟩
      have hb5 := hb3.trans (hb4.mono hs3)
      have hin : InL w4 A4 c4 (rs ++ qs) := inL_of (by rw [List.length_append, sizeR_app]; omega) (fun r hr => (List.mem_append.1 hr).elim (fun hr => (h.next hb5).row hr) (fun hr => (hq.next hb5).row hr)) own4
      have HM := Lib.hid (makeBasis_impl A4 c4 (rs ++ qs) w4 hin)
      rw [List.map_append, List.length_append] at HM
      clear own4 hin hb4
      go_wp2_with fail
      (with_reducible refine HM.out.mono ?_)
      rintro e w6 ⟨A6, c6, ds, rfl, hX, hO, hb6⟩
      have hb7 := hb5.trans (hb6.mono hb5.size)
      go_wp2_with fail
      go_ret2
      rw [HG.out, HF.out]
      exact ⟨A6, c6, ds, rfl, hX, hO.wider hb5.size (Nat.le_refl _), hb7⟩
    · have hPf : basisB (qs.map Row.xs) = false := by simpa using hP
      have HG := Lib.hid (show meG (rs.map Row.xs) (qs.map Row.xs) = [] by unfold meG; rw [hPf, Bool.and_false]; rfl)
      have HF := Lib.hid (show meB (rs.map Row.xs) (qs.map Row.xs) = false by unfold meB; rw [hPf, Bool.and_false]; rfl)
      have H1 := Lib.hid hB
      have H2 := Lib.hid hPf
      clear hB hP hPf
      go_enter Try.func34, Try.ntmps34
      go_wp2_with fail
      (with_reducible refine (basis_ib A c rs w true h H1.out).mono ?_)
      rintro e w1 ⟨rfl, hb1⟩
      go_wp2_with fail
      (with_reducible refine (basis_ib B d qs w1 false (hq.next hb1) H2.out).mono ?_)
      rintro e w2 ⟨rfl, hb2⟩
      go_wp2_with fail
      go_ret2
      rw [HG.out, HF.out]
      exact ⟨none, 0, [], rfl, rfl, Own.nil_list _ _ _, hb1.trans (hb2.mono hb1.size)⟩
  · have hBf : basisB (rs.map Row.xs) = false := by simpa using hB
    have HG := Lib.hid (show meG (rs.map Row.xs) (qs.map Row.xs) = [] by unfold meG; rw [hBf]; rfl)
    have HF := Lib.hid (show meB (rs.map Row.xs) (qs.map Row.xs) = false by unfold meB; rw [hBf]; rfl)
    have H1 := Lib.hid hBf
    clear hB hBf
    go_enter Try.func34, Try.ntmps34
    go_wp2_with fail
    (with_reducible refine (basis_ib A c rs w false h H1.out).mono ?_)
    rintro e w1 ⟨rfl, hb1⟩
    go_wp2_with fail
    go_ret2
    rw [HG.out, HF.out]
    exact ⟨none, 0, [], rfl, rfl, Own.nil_list _ _ _, hb1⟩
set_option maxHeartbeats 2000000 in
theorem meet_spec (A : Option Addr) (c : Nat) (rs : List Row) (B : Option Addr) (d : Nat) (qs : List Row) (w : World) (h : InL w A c rs) (hq : InL w B d qs) :
    Calls Try.prog 33 #[.slice A rs.length c, .slice B qs.length d] w (RetLb w (meG (rs.map Row.xs) (qs.map Row.xs)) (meB (rs.map Row.xs) (qs.map Row.xs))) := by
  obtain ⟨j0, hj, hy0, hy1, hy2⟩ := info_parts infoL
  by_cases hB : basisB (rs.map Row.xs) = true
  · by_cases hP : basisB (qs.map Row.xs) = true
    · have hr8 := basis_sizeR hB
      have hq8 := basis_sizeR hP
      have H1 := Lib.hid hB
      have H2 := Lib.hid hP
      have HG := Lib.hid (show meG (rs.map Row.xs) (qs.map Row.xs) = mkG (rs.map Row.xs ++ qs.map Row.xs) by unfold meG; rw [hB, hP]; rfl)
      have HF := Lib.hid (show meB (rs.map Row.xs) (qs.map Row.xs) = mkB (rs.map Row.xs ++ qs.map Row.xs) by unfold meB; rw [hB, hP]; rfl)
      clear hB hP
      go_enter Try.func33, Try.ntmps33
      go_wp2_with fail
      (with_reducible refine (basis_sb A c rs w true h H1.out).mono ?_)
      rintro e wa ⟨rfl, hb1⟩
      go_wp2_with fail
      (with_reducible refine (basis_sb B d qs wa true (hq.next hb1) H2.out).mono ?_)
      rintro e w2 ⟨rfl, hb2⟩
      have hb12 := hb1.trans (hb2.mono hb1.size)
      have HC := Lib.hid (l2Copy_any A c rs w2 (h.next hb12))
      have hs2 := hb12.size
      go_wp2_with fail
      (with_reducible refine HC.out.mono ?_)
      rintro e w3 ⟨A3, c3, ds, rfl, hX3, hO3, hb3⟩
      have hb13 := hb12.trans (hb3.mono hs2)
      have hdl : ds.length = rs.length := by have := congrArg List.length hX3; simpa using this
      have hds : sizeR ds = sizeR rs := by rw [sizeR_eq, sizeR_eq, hX3]
      have ho3 := hO3.outN (n := ds.length) (by simp)
      have hq3 := hq.next hb13
      have hx3 := read_rows hq3.read
      have hs3 := hb13.size
      have hs23 := hb3.size
      have HDL := Lib.hid (And.intro hdl hds)
      have hdl8 : ds.length ≤ 72 := by omega
      have hql8 : qs.length ≤ 72 := by omega
      clear hdl hds
      go_wp2_with (at_builtin; refine wpList_append_rd _ rfl _ _ 33 rfl (w2.heap.size) 22 j0 (.slice none 0 0) 24 Try.underlying33 hj hy0 hy1 hy2 rfl _ _ _ rfl ho3 _ _ _ _ (qs) rfl rfl hx3 (fun _ => rfl) (by unfold maxLen; omega) (by omega) (by first | omega | (simp; done) | (simp; omega)) ?_; intro v1 w1 hown1 hgrow1)
      obtain ⟨A5, c5, rfl, _, _⟩ := own_shape hown1
      have hlim := hO3.olim (n := ds.length) (by simp)
      have hb5 := hb13.grown hgrow1 hs3 (fun q hq => Nat.le_trans hs2 (hlim q hq).1)
      have hrows := hO3.kept (Nat.le_refl _) (show (ds.map Row.v).length = ds.length by simp) hgrow1
      have hin : InL w1 A5 c5 (ds ++ qs) := inL_of (by rw [List.length_append, sizeR_app]; have := HDL.out.1; have := HDL.out.2; omega) (fun r hr => (List.mem_append.1 hr).elim (fun hr => row_in hrows.read hr (by have h1 := sizeR_mem hr; have := HDL.out.2; omega) (Nat.le_refl _)) (fun hr => (hq.next hb5).row hr)) (by rw [List.length_append, List.map_append]; exact hown1)
      have HM := Lib.hid (makeBasis_spec A5 c5 (ds ++ qs) w1 hin)
      have HX := Lib.hid (show (ds ++ qs).map Row.xs = rs.map Row.xs ++ qs.map Row.xs by rw [List.map_append, hX3])
      have HB5 := Lib.hid hb5
      rw [HX.out, List.length_append] at HM
      clear hown1 hgrow1 hrows hin hb5 hlim ho3 hx3 hO3 hX3 hb3
      go_wp2_with fail
      (with_reducible refine HM.out.mono ?_)
      rintro e w6 ⟨A6, c6, es, rfl, hX, hO, hb6⟩
      have hb7 := HB5.out.trans (hb6.mono HB5.out.size)
      go_wp2_with fail
      go_ret2
      rw [HG.out, HF.out]
      exact ⟨A6, c6, es, rfl, hX, hO.wider HB5.out.size (Nat.le_refl _), hb7⟩
    · have hPf : basisB (qs.map Row.xs) = false := by simpa using hP
      have HG := Lib.hid (show meG (rs.map Row.xs) (qs.map Row.xs) = [] by unfold meG; rw [hPf, Bool.and_false]; rfl)
      have HF := Lib.hid (show meB (rs.map Row.xs) (qs.map Row.xs) = false by unfold meB; rw [hPf, Bool.and_false]; rfl)
      have H1 := Lib.hid hB
      have H2 := Lib.hid hPf
      clear hB hP hPf
      go_enter Try.func33, Try.ntmps33
      go_wp2_with fail
      (with_reducible refine (basis_sb A c rs w true h H1.out).mono ?_)
      rintro e w1 ⟨rfl, hb1⟩
      go_wp2_with fail
      (with_reducible refine (basis_sb B d qs w1 false (hq.next hb1) H2.out).mono ?_)
      rintro e w2 ⟨rfl, hb2⟩
      have hb3 := hb1.trans (hb2.mono hb1.size)
      have hlit := Own.lit (lo := w.heap.size) w2 hb3.size
      have hb5 := hb3.alloc hb3.size (.cells #[] 22)
      go_wp2_with fail
      go_ret2
      rw [HG.out, HF.out]
      exact ⟨_, _, [], rfl, rfl, hlit, hb5⟩
  · have hBf : basisB (rs.map Row.xs) = false := by simpa using hB
    have HG := Lib.hid (show meG (rs.map Row.xs) (qs.map Row.xs) = [] by unfold meG; rw [hBf]; rfl)
    have HF := Lib.hid (show meB (rs.map Row.xs) (qs.map Row.xs) = false by unfold meB; rw [hBf]; rfl)
    have H1 := Lib.hid hBf
    clear hB hBf
    go_enter Try.func33, Try.ntmps33
    go_wp2_with fail
    (with_reducible refine (basis_sb A c rs w false h H1.out).mono ?_)
    rintro e w1 ⟨rfl, hb1⟩
    have hlit := Own.lit (lo := w.heap.size) w1 hb1.size
    have hb5 := hb1.alloc hb1.size (.cells #[] 22)
    go_wp2_with fail
    go_ret2
    rw [HG.out, HF.out]
    exact ⟨_, _, [], rfl, rfl, hlit, hb5⟩
end Go.Proofs.Ythkggnmfdlggbaa
