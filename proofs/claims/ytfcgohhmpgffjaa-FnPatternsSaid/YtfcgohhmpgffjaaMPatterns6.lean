/- Several texts in one, each with its own head: OC4, V6, U1, PT1, DP, PT2. No program of ours. -/
import Derived.Deep.RegionHeld3
import Derived.Test.YtfcgohhmpgffjaaMPatterns5
/- Plain maths of FnPatterns: patterns of places, patterns without a place, subsets by bits. -/
namespace Go.Proofs.Ytfcgohhmpgffjaa
set_option maxRecDepth 100000

theorem at1_atL {p l : List Int} {x : Int} (h1 : 1 ≤ x) (h2 : x ≤ l.length) : at1 (atL p l) x = at1 p (at1 l x) := by
  obtain ⟨i, h, e1, e2⟩ := at1_nat (p := l) h1 h2
  have h' : i < (atL p l).length := by rw [atL_length]; exact h
  rw [e2, e1, at1_get h']
  simp [atL_map]
theorem belowN_bound {L : List Int} {x : Int} (h : x ∈ L) : belowN L x < L.length := by
  unfold belowN
  apply List.length_filter_lt_length_iff_exists.2
  exact ⟨x, h, by simp⟩
theorem at1_pat {L : List Int} {x : Int} (h1 : 1 ≤ x) (h2 : x ≤ L.length) : at1 (patL L) x = (belowN L (at1 L x) : Int) + 1 := by
  obtain ⟨i, h, e1, e2⟩ := at1_nat (p := L) h1 h2
  have h' : i < (patL L).length := by rw [patL_length]; exact h
  rw [e2, e1, at1_get h']
  simp [patL]
theorem patL_permB {L : List Int} (hn : L.Nodup) (h8 : L.length ≤ 8) : permB (patL L) = true := by
  have hl := patL_length L
  refine perm_of (by omega) (fun x h1 h2 => ?_) (fun x y hx hy e => ?_)
  · rw [at1_pat h1 (by omega)]
    have := belowN_bound (at1_mem h1 (show x ≤ (L.length : Int) by omega))
    omega
  · rw [at1_pat hx.1 (by omega), at1_pat hy.1 (by omega)] at e
    have mx := at1_mem hx.1 (show x ≤ (L.length : Int) by omega)
    have my := at1_mem hy.1 (show y ≤ (L.length : Int) by omega)
    have hxy : at1 L x = at1 L y := by
      rcases Int.lt_trichotomy (at1 L x) (at1 L y) with a | a | a
      · have := belowN_lt mx a; omega
      · exact a
      · have := belowN_lt my a; omega
    obtain ⟨i, hi, e1, e2⟩ := at1_nat hx.1 (show x ≤ (L.length : Int) by omega)
    obtain ⟨j, hj, e3, e4⟩ := at1_nat hy.1 (show y ≤ (L.length : Int) by omega)
    rw [e2, e4] at hxy
    have := nodup_inj hn hi hj hxy
    omega
theorem pat_occ {p l : List Int} {k : Nat} (hp : permB p = true) (h : l ∈ ascI p.length k) : permB (patL (atL p l)) = true ∧ Occ p (patL (atL p l)) l := by
  obtain ⟨hk, ha⟩ := ascI_mem h
  have hn := atL_nodup (permB_true hp).2.2 ha
  have h8 := (permB_true hp).1
  have hl8 : l.length ≤ 8 := by
    obtain ⟨h1, h2, h3⟩ := ascI_iff.1 h
    have := nodup_sub_len l (nums p.length) (by rw [List.nodup_iff_pairwise_ne]; exact h2.imp fun h => by omega) fun x hx => nums_mem.2 (h3 x hx)
    rw [nums_length] at this
    omega
  have hpp := patL_permB hn (by rw [atL_length]; exact hl8)
  refine ⟨hpp, (occ_iff hp hpp).1 ?_⟩
  unfold occI
  rw [patL_length, atL_length, hk]
  exact List.mem_filter.2 ⟨h, decide_eq_true rfl⟩
theorem at1_cut {p : List Int} {i : Nat} {x : Int} (hi : i < p.length) (h1 : 1 ≤ x) (h2 : x ≤ (p.length : Int) - 1) : at1 (cutAt p i) x = at1 p (if x ≤ i then x else x + 1) := by
  have hc := cutAt_length p i hi
  obtain ⟨j, hj, e1, e2⟩ := at1_nat (p := cutAt p i) h1 (by omega)
  rw [e2]
  have hj' : j < (p.take i ++ p.drop (i + 1)).length := hj
  show (p.take i ++ p.drop (i + 1))[j] = _
  by_cases hlt : j < i
  · rw [List.getElem_append_left (by rw [List.length_take]; omega), List.getElem_take, if_pos (by omega), e1, at1_get (by omega)]
  · rw [List.getElem_append_right (by rw [List.length_take]; omega), List.getElem_drop, if_neg (by omega), e1, show (j : Int) + 1 + 1 = ((j + 1 : Nat) : Int) + 1 by omega, at1_get (by omega)]
    congr 1
    rw [List.length_take]
    omega
def cutPl (n i : Nat) : List Int := ofF (n - 1) fun x => if x ≤ i then x else x + 1
theorem atL_cut {p : List Int} {i : Nat} (hi : i < p.length) : atL p (cutPl p.length i) = cutAt p i := by
  have hc := cutAt_length p i hi
  have hl : (cutPl p.length i).length = p.length - 1 := ofF_length _ _
  refine at1_ext (by rw [atL_length]; omega) fun x h1 h2 => ?_
  rw [atL_length] at h2
  rw [at1_atL h1 h2, at1_cut hi h1 (by omega)]
  unfold cutPl
  rw [at1_ofF h1 (by omega)]
theorem cutPl_asc {n i : Nat} (hi : i < n) : cutPl n i ∈ ascI n (n - 1) := by
  rw [ascI_iff]
  have hl : (cutPl n i).length = n - 1 := ofF_length _ _
  refine ⟨hl, inc_pair.1 fun a b h1 h2 h3 => ?_, rng_mem.1 fun a h1 h2 => ?_⟩
  · unfold cutPl
    rw [at1_ofF h1 (by omega), at1_ofF (by omega) (by omega)]
    split <;> split <;> omega
  · unfold cutPl
    rw [at1_ofF h1 (by omega)]
    split <;> omega
/-- A permutation has the pattern that is left without a place. -/
theorem cut_occ {p : List Int} {i : Nat} (hp : permB p = true) (hi : i < p.length) : permB (patL (cutAt p i)) = true ∧ hasB p (patL (cutAt p i)) = true := by
  have h := pat_occ hp (cutPl_asc hi)
  rw [atL_cut hi] at h
  exact ⟨h.1, (has_iff hp h.1).2 ⟨_, h.2⟩⟩
/-- Are these places of the pattern? -/
def isoB (p q l : List Int) : Bool := permB p && permB q && joinTo (p.length + 1) l l.length && decide (patL (atL p l) = q)
theorem inc_join {n : Nat} {l : List Int} (h : l.Pairwise (· < ·)) (hr : ∀ x ∈ l, 1 ≤ x ∧ x ≤ n) : joinTo (n + 1) l l.length = true := by
  unfold joinTo
  rw [List.all_eq_true]
  intro j hj
  have hj := List.mem_range.1 hj
  unfold joinAt
  rw [List.getElem?_eq_getElem hj]
  simp only [Option.getD_some, decide_eq_true_eq]
  have := hr _ (List.getElem_mem hj)
  refine ⟨this.1, by omega, ?_⟩
  rcases Nat.eq_zero_or_pos j with h0 | h0
  · exact .inl h0
  · right
    rw [List.getElem?_eq_getElem (by omega)]
    exact List.pairwise_iff_getElem.1 h (j - 1) j (by omega) hj (by omega)
theorem occ_iso {p q l : List Int} (hp : permB p = true) (hq : permB q = true) (h : l ∈ occL p q) : isoB p q l = true := by
  rw [occ_eq hp hq] at h
  obtain ⟨h1, h2⟩ := List.mem_filter.1 h
  obtain ⟨_, h3, h4⟩ := ascI_iff.1 h1
  unfold isoB
  rw [hp, hq, inc_join h3 h4, h2]; rfl
theorem inc_ext {l k : List Int} (hl : l.Pairwise (· < ·)) (hk : k.Pairwise (· < ·)) (h : ∀ x, x ∈ l ↔ x ∈ k) : l = k := by
  induction l generalizing k with
  | nil =>
    cases k with
    | nil => rfl
    | cons b u => have := (h b).2 (by simp); cases this
  | cons a t ih =>
    cases k with
    | nil => have := (h a).1 (by simp); cases this
    | cons b u =>
      rw [List.pairwise_cons] at hl hk
      have hab : a = b := by
        rcases List.mem_cons.1 ((h a).1 (by simp)) with e | e
        · exact e
        · rcases List.mem_cons.1 ((h b).2 (by simp)) with e2 | e2
          · exact e2.symm
          · have := hk.1 a e
            have := hl.1 b e2
            omega
      subst hab
      rw [ih hl.2 hk.2 fun x => ?_]
      constructor
      · intro hx
        rcases List.mem_cons.1 ((h x).1 (by simp [hx])) with e | e
        · subst e; have := hl.1 x hx; omega
        · exact e
      · intro hx
        rcases List.mem_cons.1 ((h x).2 (by simp [hx])) with e | e
        · subst e; have := hk.1 x hx; omega
        · exact e
/-- The places whose bits are set. -/
def bitsL (n s : Nat) : List Int := ((List.range n).filter fun i => s.testBit i).map fun i : Nat => (i : Int) + 1
theorem bitsL_succ (n s : Nat) : bitsL (n + 1) s = bitsL n s ++ (if s.testBit n = true then [(n : Int) + 1] else []) := by
  unfold bitsL
  rw [List.range_succ, List.filter_append, List.map_append]
  by_cases h : s.testBit n = true <;> simp [h]
theorem bitsL_mem {n s : Nat} {x : Int} : x ∈ bitsL n s ↔ 1 ≤ x ∧ x ≤ n ∧ s.testBit (x - 1).toNat = true := by
  unfold bitsL
  rw [List.mem_map]
  constructor
  · rintro ⟨i, hi, rfl⟩
    obtain ⟨h1, h2⟩ := List.mem_filter.1 hi
    have := List.mem_range.1 h1
    refine ⟨by omega, by omega, ?_⟩
    rw [show ((i : Int) + 1 - 1).toNat = i by omega]; exact h2
  · rintro ⟨h1, h2, h3⟩
    exact ⟨(x - 1).toNat, List.mem_filter.2 ⟨List.mem_range.2 (by omega), h3⟩, by omega⟩
theorem bitsL_inc (n s : Nat) : (bitsL n s).Pairwise (· < ·) := by
  unfold bitsL
  rw [List.pairwise_map]
  exact (List.pairwise_lt_range.sublist List.filter_sublist).imp fun h => by omega
theorem bitsL_asc (n s : Nat) : bitsL n s ∈ ascI n (bitsL n s).length := ascI_iff.2 ⟨rfl, bitsL_inc n s, fun x hx => ⟨(bitsL_mem.1 hx).1, (bitsL_mem.1 hx).2.1⟩⟩
theorem bits_ex (f : Nat → Bool) : ∀ n : Nat, ∃ s, s < 2 ^ n ∧ ∀ i, i < n → s.testBit i = f i := by
  intro n
  induction n with
  | zero => exact ⟨0, by simp, fun i hi => by omega⟩
  | succ n ih =>
    obtain ⟨s, hs, h⟩ := ih
    by_cases hf : f n = true
    · refine ⟨2 ^ n + s, by rw [Nat.pow_succ]; omega, fun i hi => ?_⟩
      rcases Nat.lt_or_ge i n with hlt | hge
      · rw [Nat.testBit_two_pow_add_gt hlt]; exact h i hlt
      · obtain rfl : i = n := by omega
        rw [Nat.testBit_two_pow_add_eq, Nat.testBit_lt_two_pow hs, hf]; rfl
    · refine ⟨s, by rw [Nat.pow_succ]; omega, fun i hi => ?_⟩
      rcases Nat.lt_or_ge i n with hlt | hge
      · exact h i hlt
      · obtain rfl : i = n := by omega
        rw [Nat.testBit_lt_two_pow hs]
        simpa using hf
theorem asc_bits {n k : Nat} {l : List Int} (h : l ∈ ascI n k) : ∃ s, s < 2 ^ n ∧ bitsL n s = l := by
  obtain ⟨h1, h2, h3⟩ := ascI_iff.1 h
  obtain ⟨s, hs, hb⟩ := bits_ex (fun i => decide (((i : Int) + 1) ∈ l)) n
  refine ⟨s, hs, inc_ext (bitsL_inc n s) h2 fun x => ?_⟩
  rw [bitsL_mem]
  constructor
  · rintro ⟨a, b, c⟩
    rw [hb _ (by omega), decide_eq_true_eq, show (((x - 1).toNat : Int) + 1) = x by omega] at c
    exact c
  · intro hx
    have := h3 x hx
    refine ⟨this.1, this.2, ?_⟩
    rw [hb _ (by omega), decide_eq_true_eq, show (((x - 1).toNat : Int) + 1) = x by omega]
    exact hx
/-- The patterns of k places. -/
def patsM (p : List Int) (k : Nat) : List (List Int) := (ascI p.length k).map fun l => patL (atL p l)
def patsL (p : List Int) (k : Nat) : List (List Int) := ordL (patsM p k)
/-- What the reference has put from the first s sets. -/
def patsTo (p : List Int) (k s : Nat) : List (List Int) := ordL (((List.range s).filter fun t => decide ((bitsL p.length t).length = k)).map fun t => patL (atL p (bitsL p.length t)))
theorem patsTo_succ (p : List Int) (k s : Nat) : patsTo p k (s + 1) = if (bitsL p.length s).length = k then putL (patsTo p k s) (patL (atL p (bitsL p.length s))) else patsTo p k s := by
  unfold patsTo
  rw [List.range_succ, List.filter_append, List.map_append]
  by_cases h : (bitsL p.length s).length = k
  · rw [if_pos h]
    simp [h, ordL]
  · rw [if_neg h]
    simp [h]
theorem patsTo_all (p : List Int) (k : Nat) : patsTo p k (2 ^ p.length) = patsL p k := by
  unfold patsTo patsL patsM
  refine ordL_congr fun q => ?_
  rw [List.mem_map, List.mem_map]
  constructor
  · rintro ⟨t, ht, rfl⟩
    obtain ⟨_, h2⟩ := List.mem_filter.1 ht
    have h2 := of_decide_eq_true h2
    exact ⟨_, by rw [← h2]; exact bitsL_asc _ _, rfl⟩
  · rintro ⟨l, hl, rfl⟩
    obtain ⟨s, hs, rfl⟩ := asc_bits hl
    exact ⟨s, List.mem_filter.2 ⟨List.mem_range.2 hs, decide_eq_true (ascI_iff.1 hl).1⟩, rfl⟩
theorem pats_has {p q : List Int} {k : Nat} (hp : permB p = true) (h : q ∈ patsL p k) : permB q = true ∧ hasB p q = true := by
  unfold patsL patsM at h
  rw [ordL_mem] at h
  obtain ⟨l, hl, rfl⟩ := List.mem_map.1 h
  have := pat_occ hp hl
  exact ⟨this.1, (has_iff hp this.1).2 ⟨l, this.2⟩⟩
end Go.Proofs.Ytfcgohhmpgffjaa

/- InversePerm of the reference. -/
namespace Go.Proofs.Ytfcgohhmpgffjaa
set_option maxRecDepth 100000
open Go Go.RowKit

def invG1 (p : List Int) : List Int := if permB p = true then invL p else []
set_option maxHeartbeats 1000000 in
theorem inversePerm_spec (A : Option Addr) (c : Nat) (p : List Int) (w : World) (h : In w A c p) :
    Calls Try.prog 26 #[.slice A p.length c] w (Ret2 (Value.int .i64) 3 w (invG1 p) (permB p)) := by
  by_cases hp : permB p = true
  · have HR := Lib.hid (show invG1 p = invL p by rw [invG1, if_pos hp])
    have HP := Lib.hid hp
    clear hp
    go_enter Try.func26, Try.ntmps26
    go_wp2_with fail
    (with_reducible refine (isPerm_sb A c p w true h HP.out).mono ?_)
    rintro e w1 ⟨rfl, hd⟩
    have hbd := below_dr (Below.refl w.heap.size w) hd
    have HC := Lib.hid (l2Inverse_any A c p w1 (h.dr hd) HP.out)
    go_wp2_with fail
    (with_reducible refine HC.out.mono ?_)
    rintro e w2 ⟨A', c', rfl, h1, h2, ho, hb⟩
    go_wp2_with fail
    go_ret2
    rw [HR.out, HP.out]
    exact ⟨A', c', rfl, h1, h2, own_mono ho hbd.size, hbd.trans (hb.mono hbd.size)⟩
  · have hp : permB p = false := by simpa using hp
    have HR := Lib.hid (show invG1 p = [] by rw [invG1, if_neg (by simp [hp])])
    have HP := Lib.hid hp
    clear hp
    go_enter Try.func26, Try.ntmps26
    go_wp2_with fail
    (with_reducible refine (isPerm_sb A c p w false h HP.out).mono ?_)
    rintro e w1 ⟨rfl, hd⟩
    have hbd := below_dr (Below.refl w.heap.size w) hd
    go_wp2_with fail
    go_ret2
    rw [HR.out, HP.out]
    exact ⟨_, 0, rfl, Nat.le_refl _, Nat.zero_le _, World.ownsRow_lit _ #[] 0 hbd.size (by unfold maxLen; omega) rfl, hbd.alloc hbd.size _⟩
end Go.Proofs.Ytfcgohhmpgffjaa

/- The lower permutations: lowers, LowersOf, l7Without. -/
namespace Go.Proofs.Ytfcgohhmpgffjaa
set_option maxRecDepth 100000
open Go Go.RowKit

def lowM (p : List Int) (k : Nat) : List (List Int) := (List.range k).map fun i => patL (cutAt p i)
theorem lowM_succ (p : List Int) (k : Nat) : lowM p (k + 1) = lowM p k ++ [patL (cutAt p k)] := by simp [lowM, List.range_succ]
theorem lowM_length (p : List Int) (k : Nat) : (lowM p k).length = k := by simp [lowM]
/-- The different patterns without a place, in order. -/
def lowL (p : List Int) : List (List Int) := ordL (lowM p p.length)
theorem lowM_len {p : List Int} {k : Nat} (hk : k ≤ p.length) : ∀ q ∈ lowM p k, q.length = p.length - 1 := fun q hq => by
  unfold lowM at hq
  obtain ⟨i, hi, rfl⟩ := List.mem_map.1 hq
  rw [patL_length, cutAt_length p i (by have := List.mem_range.1 hi; omega)]
theorem lowL_len {p : List Int} : ∀ q ∈ lowL p, q.length = p.length - 1 := fun q hq => lowM_len (Nat.le_refl _) q ((ordL_mem _ q).1 hq)
theorem lowL_length (p : List Int) : (lowL p).length ≤ p.length := by
  have h := ordL_len (lowM p p.length)
  rw [lowM_length] at h
  exact h
theorem sizeX_of {X : List (List Int)} {m : Nat} (h : ∀ s ∈ X, s.length ≤ m) : sizeX X ≤ X.length * m := by
  induction X with
  | nil => simp [sizeX]
  | cons a t ih =>
    have h1 := h a (by simp)
    have h2 := ih (fun s hs => h s (by simp [hs]))
    simp only [sizeX, List.map_cons, List.sum_cons, List.length_cons, Nat.add_mul, Nat.one_mul] at h2 ⊢
    omega
set_option maxHeartbeats 2000000 in
theorem lowers_impl (A : Option Addr) (c : Nat) (p : List Int) (w : World) (h : In w A c p) (h8 : p.length ≤ 8) :
    Calls Try.prog 51 #[.slice A p.length c] w (RetL w (lowL p)) := by
  obtain ⟨j0, hj, hy0, hy1, hy2⟩ := info_parts infoL
  have hlit := Own.lit (lo := w.heap.size) w (Nat.le_refl _)
  have hb0 := (Below.refl w.heap.size w).alloc (Nat.le_refl _) (.cells #[] 24)
  go_enter Try.func51, Try.ntmps51
  go_wp2_with fail
  go_loopw [3, 8] (fun v i wr => ∃ (k : Nat) (A1 : Option Addr) (c1 : Nat) (ds : List Row), k ≤ p.length ∧ i = .int .i64 k ∧ v = .slice A1 ds.length c1 ∧ Hid (ds.map Row.xs = lowM p k) ∧ Own wr w.heap.size wr.heap.size ds [⟨A1, c1, ds.map Row.v⟩] ∧ Below w.heap.size w wr) (fun _ i _ => p.length - (intOf i).toNat)
  case atStart => exact ⟨0, _, _, [], Nat.zero_le _, rfl, rfl, Lib.hid rfl, hlit, hb0⟩
  case round =>
    clear hlit hb0
    obtain ⟨k, A1, c1, ds, hk, rfl, rfl, HX, hO, hb⟩ := hrel
    have hdl : ds.length = k := by have := congrArg List.length HX.out; rw [List.length_map, lowM_length] at this; exact this
    have hsz := hb.size
    rcases Nat.lt_or_ge k p.length with hlt | hge
    · have HC := Lib.hid (without_impl A c k p wr (h.next hb) hlt)
      have HD := Lib.hid hdl
      have hkd : ds.length ≤ 8 := by omega
      clear hdl
      go_wp2_with fail
      (with_reducible refine HC.out.mono ?_)
      rintro e w1 ⟨A3, c3, rfl, _, _, own3, hbB⟩
      have hszB := hbB.size
      have hO2 := (hO.below hbB).add (r := ⟨A3, c3, patL (cutAt p k)⟩) own3 hszB hsz
      have ho2 := hO2.outN (n := ds.length) (by simp)
      clear own3 hO
      go_wp2_with (at_builtin; refine wpList_append_own _ rfl _ _ 27 rfl (w.heap.size) 24 j0 (.slice none 0 0) 1 24 Try.underlying27 hj hy0 hy1 hy2 rfl (by decide) _ _ _ rfl (World.ownsRow.alloc ho2 _) ⟨w1.heap.size, 0, none⟩ 1 1 [Value.slice A3 (patL (cutAt p k)).length c3] rfl rfl (cell_one_at _ _ (by simp)) (by intro u hu; simp at hu; subst hu; rfl) (by unfold maxLen; omega) (by omega) (by simp; omega) ?_; intro v9 w9 hown9 hgrow9 _)
      obtain ⟨A5, c5, rfl, hO3, hg3⟩ := hO2.grow (Nat.le_refl _) (by simp) hown9 hgrow9
      have hbw := (hb.trans (hbB.mono hsz)).grown hg3 (by omega) (fun g hg => (hO2.olim (by simp) g hg).1)
      have K := Lib.hid (And.intro hO3 hbw)
      clear hO3 hbw hown9 hgrow9 hg3 hO2 ho2 hbB hb
      go_wp2_with fail
      go_roundw
      case rel => exact ⟨k + 1, A5, c5, ds ++ [⟨A3, c3, patL (cutAt p k)⟩], by omega, by go_num, by rw [List.length_append]; rfl, Lib.hid (by rw [lowM_succ, List.map_append, HX.out]; rfl), by simpa [Row.v] using K.out.1, K.out.2⟩
      case measure => simp [intOf]; omega
    · obtain rfl : k = p.length := by omega
      have hin : InL wr A1 c1 ds := hO.read.toL (by
        have h1 := sizeX_of (X := ds.map Row.xs) (m := 8) (fun s hs => by rw [HX.out] at hs; have := lowM_len (Nat.le_refl _) s hs; omega)
        rw [sizeR_eq]
        rw [List.length_map] at h1
        omega) (Nat.le_refl _)
      have HC := Lib.hid (ordered_impl A1 c1 ds wr hin)
      clear hdl
      go_wp2_with fail
      (with_reducible refine HC.out.mono ?_)
      rintro e w1 ⟨A4, c4, qs, rfl, hX4, hO4, hb4⟩
      go_wp2_with fail
      go_ret
      exact ⟨A4, c4, qs, rfl, by rw [hX4, HX.out]; rfl, hO4.wider hsz (Nat.le_refl _), hb.trans (hb4.mono hsz)⟩
set_option maxHeartbeats 2000000 in
theorem l7Without_any (A : Option Addr) (c i : Nat) (p : List Int) (w : World) (h : In w A c p) (hi' : i < p.length) :
    Calls Try.prog 43 #[.slice A p.length c, .int .i64 i] w (Ret (Value.int .i64) 3 w (patL (cutAt p i))) := by
  obtain ⟨i0, hi, hz0, hz1, hz2⟩ := info_parts infoI
  have hpl := h.len
  have hcap := h.cap
  have hsl1 := fun w => run_slice_h (P := Try.prog) w 24 A p.length c Try.underlying24 .i64 i (by omega) (by omega)
  have hsl2 := fun w => run_cut (P := Try.prog) (t := 24) Try.underlying24 sizeI A p.length c (i + 1) ((i : Int) + 1) (by omega) (by omega) w
  have e1 : IntKind.i64.wrap ((i : Int) + 1) = (i : Int) + 1 := IntWalk.i64_in _ (by omega)
  have q0 : (0 : Int) ≤ (i : Int) + 1 := by omega
  have q1 : (i : Int) + 1 ≤ (p.length : Int) := by omega
  have q2 : (i : Int) ≤ (p.length : Int) := by omega
  have own0 : (w.drew.alloc (.cells #[] 3)).ownsRow w.heap.size 3 1 (.slice (some ⟨w.heap.size, 0, none⟩) 0 0) 0 [] := World.ownsRow_lit w.drew #[] 0 (Nat.le_refl _) (by unfold maxLen; omega) rfl
  have hb0 : Below w.heap.size w (w.drew.alloc (.cells #[] 3)) := (below_dr (Below.refl _ _) (Dr.refl _).drew).alloc (Nat.le_refl _) _
  have ht1 : (p.take i).length = i := by simp; omega
  have hd1 : (p.drop (i + 1)).length = p.length - (i + 1) := List.length_drop
  have hcl := cutAt_length p i hi'
  have HR := Lib.hid (h.next hb0).rd
  have HT1 := Lib.hid ht1
  have HD1 := Lib.hid hd1
  have HI := Lib.hid h.rd
  clear ht1 hd1
  go_enter Try.func43, Try.ntmps43
  go_wp2_with fail
  go_region_held3 (fun _ => True) (trivial) ((first
    | (refine step_append_rd _ (by rfl) _ _ _ (by rfl) w.heap.size 3 i0 (.int .i64 0) 8 Try.underlying24 hi hz0 hz1 hz2 (by rfl) (Value.slice (some ⟨w.heap.size, 0, none⟩) 0 0) 0 _ (by rfl) own0 _ A c i (p.take i) (by rfl) HT1.out (HR.out.take i) (fun _ => rfl) (by unfold maxLen; omega) (by omega) (by simp) ?_
       intro v1 w1 hown1 hgrow1
       simp only [Nat.zero_add, List.nil_append] at hown1
       obtain ⟨A1, c1, rfl, _, _⟩ := own_shape hown1
       have hb1 : Below w.heap.size w w1 := hb0.grown hgrow1 (by simp) (fun g hg => (own0.lt g hg).1)
       have hsz1 : w.heap.size ≤ w1.heap.size := hb1.size
       have HR2 := Lib.hid ((HI.out.next hb1).cut (k := i + 1) (c := c) (by omega) hcap))
    | (refine step_append_rd _ (by rfl) _ _ _ (by rfl) w.heap.size 3 i0 (.int .i64 0) 8 Try.underlying24 hi hz0 hz1 hz2 (by rfl) (Value.slice A1 i c1) i _ (by rfl) hown1 _ (cutA A c (i + 1)) (c - (i + 1)) (p.length - (i + 1)) (p.drop (i + 1)) (by rfl) HD1.out HR2.out (fun _ => rfl) (by unfold maxLen; omega) (by omega) (by first | omega | (simp; omega)) ?_
       intro v2 w2 hown2 hgrow2
       obtain ⟨A2, c2, rfl, _, _⟩ := own_shape hown2
       have hb2 : Below w.heap.size w w2 := hb1.grown hgrow2 (by first | omega | (simp; omega)) (fun g hg => (hown1.lt g hg).1)
       have hrd2 : Rd (Value.int .i64) w2 w2.heap.size A2 (cutAt p i) := Rd.of_own (e := 3) (base := w.heap.size) (c := c2) (by
         have h1 : (cutAt p i).map (Value.int .i64) = (p.take i).map (Value.int .i64) ++ (p.drop (i + 1)).map (Value.int .i64) := by unfold cutAt; rw [List.map_append]
         rw [h1, hcl, show p.length - 1 = i + (p.length - (i + 1)) by omega]
         exact hown2))
    | (go_at_call 47
       refine Calls.mono (pattern_spec A2 c2 _ (cutAt p i) _ (by rw [hcl]; omega) (by omega) hrd2) ?_
       rintro e w3 ⟨T3, t3, rfl, k1, k2, o3, b3⟩)
    | fail))
  all_goals
    go_wp2_with fail
    go_ret
    exact ⟨T3, t3, rfl, k1, k2, own_mono o3 hb2.size, hb2.trans (b3.mono hb2.size)⟩
set_option maxHeartbeats 2000000 in
theorem lowersOf_spec (A : Option Addr) (c : Nat) (p : List Int) (w : World) (h : In w A c p) (hP : permB p = true) :
    Calls Try.prog 24 #[.slice A p.length c] w (RetL w (lowL p)) := by
  have h8 := (permB_true hP).1
  have HP := Lib.hid hP
  have hlit := Own.lit (lo := w.heap.size) w (Nat.le_refl _)
  have hb0 := (Below.refl w.heap.size w).alloc (Nat.le_refl _) (.cells #[] 24)
  clear hP
  go_enter Try.func24, Try.ntmps24
  go_wp2_with fail
  go_loopw [3, 4] (fun v i wr => ∃ (k : Nat) (A1 : Option Addr) (c1 : Nat) (ds : List Row), k ≤ p.length ∧ i = .int .i64 k ∧ v = .slice A1 ds.length c1 ∧ Hid (ds.map Row.xs = ordL (lowM p k)) ∧ Own wr w.heap.size wr.heap.size ds [⟨A1, c1, ds.map Row.v⟩] ∧ Below w.heap.size w wr) (fun _ i _ => p.length - (intOf i).toNat)
  case atStart => exact ⟨0, _, _, [], Nat.zero_le _, rfl, rfl, Lib.hid rfl, hlit, hb0⟩
  case round =>
    clear hlit hb0
    obtain ⟨k, A1, c1, ds, hk, rfl, rfl, HX, hO, hb⟩ := hrel
    have hsz := hb.size
    have hdl : ds.length ≤ 8 := by
      have h1 := congrArg List.length HX.out
      have h2 := ordL_len (lowM p k)
      rw [lowM_length] at h2
      rw [List.length_map] at h1
      omega
    have HD8 := Lib.hid (show ∀ r ∈ ds, r.xs.length ≤ 1048576 from fun r hr => by
      have h1 := map_memX HX.out hr
      rw [ordL_mem] at h1
      have := lowM_len hk _ h1
      omega)
    rcases Nat.lt_or_ge k p.length with hlt | hge
    · have HT := Lib.hid (show ordL (lowM p (k + 1)) = putL (ds.map Row.xs) (patL (cutAt p k)) by rw [HX.out, lowM_succ]; unfold ordL; rw [List.foldl_append]; rfl)
      have hin := h.next hb
      have hlt' : (k : Int) < (p.length : Int) := by omega
      have HO := Lib.hid hO
      clear hO
      go_wp2_with fail
      (with_reducible refine (isPerm_sb A c p wr true hin HP.out).mono ?_)
      rintro e w1 ⟨rfl, hd1⟩
      have hb1 := below_dr hb hd1
      have HC := Lib.hid (l7Without_any A c k p w1 (h.next hb1) hlt)
      have hO1 := HO.out.dr hd1
      go_wp2_with fail
      (with_reducible refine HC.out.mono ?_)
      rintro e w2 ⟨A3, c3, rfl, q1, q2, own3, hbB⟩
      have hszB := hbB.size
      have hs1 := hb1.size
      have hb2 := hb1.trans (hbB.mono hs1)
      have hO2 := ((hO1.below (show Below w1.heap.size w1 w2 from hbB)).wider (Nat.le_refl _) (show wr.heap.size ≤ w2.heap.size from by rw [hd1.heap] at hszB; exact hszB))
      have hin3 : In w2 A3 c3 (patL (cutAt p k)) := In.own own3 (by rw [patL_length, cutAt_length p k hlt]; omega)
      have ct := Lib.hid (l3Put_any A1 A3 c1 c3 w.heap.size ds (patL (cutAt p k)) w2 hO2 hb2.size hin3 (by omega) HD8.out)
      have hol := hO2.olim (n := ds.length) (by simp)
      have hs2 := hb2.size
      clear own3 hO1 hin hbB
      go_wp2_with fail
      (with_reducible refine ct.out.mono ?_)
      rintro e w3 ⟨A4, c4, ps, rfl, hX4, hO4, hg4⟩
      have hb4 := hb2.grown hg4 hs2 (fun g hg => (hol g (by rw [← hg]; exact ownBlock_len _ _ _ _ _)).1)
      have K := Lib.hid (And.intro hX4 (And.intro hO4 hb4))
      clear hX4 hO4 hb4 hg4 hol
      go_wp2_with fail
      go_roundw
      case rel => exact ⟨k + 1, A4, c4, ps, by omega, by go_num, rfl, Lib.hid (by rw [HT.out, K.out.1]), K.out.2.1, K.out.2.2⟩
      case measure => simp [intOf]; omega
    · obtain rfl : k = p.length := by omega
      go_wp2_with fail
      go_ret
      exact ⟨A1, c1, ds, rfl, HX.out, hO, hb⟩
end Go.Proofs.Ytfcgohhmpgffjaa

/- Patterns: the program's and the reference's outer functions (OccurrencesOf, CountPattern, HasPattern, WithoutPlace, LowersOf), hasList. -/
namespace Go.Proofs.Ytfcgohhmpgffjaa
set_option maxRecDepth 100000
open Go Go.RowKit

theorem retL_nil {w w' : World} (hb : Below w.heap.size w w') : RetL w [] (.returned (.slice none 0 0)) w' :=
  ⟨none, 0, [], rfl, rfl, Own.nil_list _ _ _, hb⟩
def ooG (p q : List Int) : List (List Int) := if permB p = true ∧ permB q = true then occL p q else []
theorem RetL.after {w w1 w' : World} {L : List (List Int)} {e : Ending} (h : RetL w1 L e w') (hb : Below w.heap.size w w1) : RetL w L e w' := by
  obtain ⟨A, c, rs, rfl, hX, hO, hb2⟩ := h
  exact ⟨A, c, rs, rfl, hX, hO.wider hb.size (Nat.le_refl _), hb.trans (hb2.mono hb.size)⟩
theorem two_perms (p q : List Int) : (permB p = true ∧ permB q = true) ∨ (permB p = true ∧ permB q = false) ∨ permB p = false := by
  cases permB p <;> cases permB q <;> simp
set_option maxHeartbeats 1000000 in
theorem occurrencesOf_impl (A B : Option Addr) (c d : Nat) (p q : List Int) (w : World) (hp : In w A c p) (hq : In w B d q) :
    Calls Try.prog 6 #[.slice A p.length c, .slice B q.length d] w (RetL w (ooG p q)) := by
  rcases two_perms p q with h | h | h
  · have H1 := Lib.hid h.1
    have H2 := Lib.hid h.2
    have HG := Lib.hid (show ooG p q = occI p q by rw [ooG, if_pos h, occ_eq h.1 h.2])
    have hp8 := (permB_true h.1).1
    have hq8 := (permB_true h.2).1
    clear h
    go_enter Try.func6, Try.ntmps6
    go_wp2_with fail
    (with_reducible refine (isPerm_ib A c p w true hp H1.out).mono ?_)
    rintro e w1 ⟨rfl, hb1⟩
    go_wp2_with fail
    (with_reducible refine (isPerm_ib B d q w1 true (hq.next hb1) H2.out).mono ?_)
    rintro e w2 ⟨rfl, hb2⟩
    have hb := hb1.trans (hb2.mono hb1.size)
    have HC := Lib.hid (occurrences_impl A B c d p q w2 (hp.next hb) (hq.next hb) hp8 hq8)
    go_wp2_with fail
    (with_reducible refine HC.out.mono ?_)
    rintro e w3 ⟨O, ok, rs, rfl, hX, hO, hb3⟩
    have HXX := Lib.hid hX
    clear hX
    go_wp2_with fail
    go_ret
    rw [HG.out]
    exact RetL.after ⟨O, ok, rs, rfl, HXX.out, hO, hb3⟩ hb
  · have H1 := Lib.hid h.1
    have H2 := Lib.hid h.2
    have HG := Lib.hid (show ooG p q = [] by rw [ooG, if_neg (by simp [h.2])])
    clear h
    go_enter Try.func6, Try.ntmps6
    go_wp2_with fail
    (with_reducible refine (isPerm_ib A c p w true hp H1.out).mono ?_)
    rintro e w1 ⟨rfl, hb1⟩
    go_wp2_with fail
    (with_reducible refine (isPerm_ib B d q w1 false (hq.next hb1) H2.out).mono ?_)
    rintro e w2 ⟨rfl, hb2⟩
    go_wp2_with fail
    go_ret
    rw [HG.out]
    exact retL_nil (hb1.trans (hb2.mono hb1.size))
  · have H1 := Lib.hid h
    have HG := Lib.hid (show ooG p q = [] by rw [ooG, if_neg (by simp [h])])
    clear h
    go_enter Try.func6, Try.ntmps6
    go_wp2_with fail
    (with_reducible refine (isPerm_ib A c p w false hp H1.out).mono ?_)
    rintro e w1 ⟨rfl, hb1⟩
    go_wp2_with fail
    go_ret
    rw [HG.out]
    exact retL_nil hb1
set_option maxHeartbeats 1000000 in
theorem occurrencesOf_any (A B : Option Addr) (c d : Nat) (p q : List Int) (w : World) (hp : In w A c p) (hq : In w B d q) :
    Calls Try.prog 14 #[.slice A p.length c, .slice B q.length d] w (RetL w (ooG p q)) := by
  rcases two_perms p q with h | h | h
  · have := occurrencesOf_spec A B c d p q w hp hq h.1 h.2
    rwa [show ooG p q = occL p q by rw [ooG, if_pos h]]
  · have H1 := Lib.hid h.1
    have H2 := Lib.hid h.2
    have HG := Lib.hid (show ooG p q = [] by rw [ooG, if_neg (by simp [h.2])])
    clear h
    go_enter Try.func14, Try.ntmps14
    go_wp2_with fail
    (with_reducible refine (isPerm_sb A c p w true hp H1.out).mono ?_)
    rintro e w1 ⟨rfl, hd1⟩
    go_wp2_with fail
    (with_reducible refine (isPerm_sb B d q w1 false (hq.dr hd1) H2.out).mono ?_)
    rintro e w2 ⟨rfl, hd2⟩
    have hb := below_dr (Below.refl w.heap.size w) (hd1.trans hd2)
    go_wp2_with fail
    go_ret
    rw [HG.out]
    exact ⟨_, 0, [], rfl, rfl, Own.lit _ hb.size, hb.alloc hb.size _⟩
  · have H1 := Lib.hid h
    have HG := Lib.hid (show ooG p q = [] by rw [ooG, if_neg (by simp [h])])
    clear h
    go_enter Try.func14, Try.ntmps14
    go_wp2_with fail
    (with_reducible refine (isPerm_sb A c p w false hp H1.out).mono ?_)
    rintro e w1 ⟨rfl, hd1⟩
    have hb := below_dr (Below.refl w.heap.size w) hd1
    go_wp2_with fail
    go_ret
    rw [HG.out]
    exact ⟨_, 0, [], rfl, rfl, Own.lit _ hb.size, hb.alloc hb.size _⟩
set_option maxHeartbeats 1000000 in
theorem countPattern_impl (A B : Option Addr) (c d : Nat) (p q : List Int) (w : World) (hp : In w A c p) (hq : In w B d q) :
    Calls Try.prog 19 #[.slice A p.length c, .slice B q.length d] w (Rb w (.int .i64 (cpG p q))) := by
  rcases two_perms p q with h | h | h
  · have H1 := Lib.hid h.1
    have H2 := Lib.hid h.2
    have HG := Lib.hid (show cpG p q = ((occI p q).length : Int) by rw [cpG, if_pos h, occ_eq h.1 h.2])
    have hp8 := (permB_true h.1).1
    have hq8 := (permB_true h.2).1
    clear h
    go_enter Try.func19, Try.ntmps19
    go_wp2_with fail
    (with_reducible refine (isPerm_ib A c p w true hp H1.out).mono ?_)
    rintro e w1 ⟨rfl, hb1⟩
    go_wp2_with fail
    (with_reducible refine (isPerm_ib B d q w1 true (hq.next hb1) H2.out).mono ?_)
    rintro e w2 ⟨rfl, hb2⟩
    have hb := hb1.trans (hb2.mono hb1.size)
    have HC := Lib.hid (occurrences_impl A B c d p q w2 (hp.next hb) (hq.next hb) hp8 hq8)
    go_wp2_with fail
    (with_reducible refine HC.out.mono ?_)
    rintro e w3 ⟨O, ok, rs, rfl, hX, hO, hb3⟩
    have HL := Lib.hid (show rs.length = (occI p q).length from map_len1 hX)
    clear hX
    go_wp2_with fail
    go_ret
    exact ⟨ret_int (by rw [HG.out, HL.out]), hb.trans (hb3.mono hb.size)⟩
  · have H1 := Lib.hid h.1
    have H2 := Lib.hid h.2
    have HG := Lib.hid (show cpG p q = -1 by rw [cpG, if_neg (by simp [h.2])])
    clear h
    go_enter Try.func19, Try.ntmps19
    go_wp2_with fail
    (with_reducible refine (isPerm_ib A c p w true hp H1.out).mono ?_)
    rintro e w1 ⟨rfl, hb1⟩
    go_wp2_with fail
    (with_reducible refine (isPerm_ib B d q w1 false (hq.next hb1) H2.out).mono ?_)
    rintro e w2 ⟨rfl, hb2⟩
    go_wp2_with fail
    go_ret
    exact ⟨ret_int HG.out.symm, hb1.trans (hb2.mono hb1.size)⟩
  · have H1 := Lib.hid h
    have HG := Lib.hid (show cpG p q = -1 by rw [cpG, if_neg (by simp [h])])
    clear h
    go_enter Try.func19, Try.ntmps19
    go_wp2_with fail
    (with_reducible refine (isPerm_ib A c p w false hp H1.out).mono ?_)
    rintro e w1 ⟨rfl, hb1⟩
    go_wp2_with fail
    go_ret
    exact ⟨ret_int HG.out.symm, hb1⟩
/-- Does the pattern occur? -/
def hpG (p q : List Int) : Bool := permB p && permB q && hasB p q
set_option maxHeartbeats 1000000 in
theorem hasPattern_impl (A B : Option Addr) (c d : Nat) (p q : List Int) (w : World) (b : Bool) (hp : In w A c p) (hq : In w B d q) (hb : hpG p q = b) :
    Calls Try.prog 21 #[.slice A p.length c, .slice B q.length d] w (Rb w (.bool b)) := by
  have HB := Lib.hid hb
  clear hb
  rcases two_perms p q with h | h | h
  · have H1 := Lib.hid h.1
    have H2 := Lib.hid h.2
    have HG := Lib.hid (show hasB p q = b by have h3 := HB.out; rw [hpG, h.1, h.2] at h3; simpa using h3)
    have hp8 := (permB_true h.1).1
    have hq8 := (permB_true h.2).1
    clear h
    go_enter Try.func21, Try.ntmps21
    go_wp2_with fail
    (with_reducible refine (isPerm_ib A c p w true hp H1.out).mono ?_)
    rintro e w1 ⟨rfl, hb1⟩
    go_wp2_with fail
    (with_reducible refine (isPerm_ib B d q w1 true (hq.next hb1) H2.out).mono ?_)
    rintro e w2 ⟨rfl, hb2⟩
    have hb := hb1.trans (hb2.mono hb1.size)
    have HC := Lib.hid (has_b A B c d p q w2 b (hp.next hb) (hq.next hb) (by omega) (by omega) HG.out)
    go_wp2_with fail
    (with_reducible refine HC.out.mono ?_)
    rintro e w3 ⟨rfl, hb3⟩
    go_wp2_with fail
    go_ret
    exact ⟨rfl, hb.trans (hb3.mono hb.size)⟩
  · have H1 := Lib.hid h.1
    have H2 := Lib.hid h.2
    have HG := Lib.hid (show b = false by rw [← HB.out, hpG, h.2]; simp)
    clear h
    go_enter Try.func21, Try.ntmps21
    go_wp2_with fail
    (with_reducible refine (isPerm_ib A c p w true hp H1.out).mono ?_)
    rintro e w1 ⟨rfl, hb1⟩
    go_wp2_with fail
    (with_reducible refine (isPerm_ib B d q w1 false (hq.next hb1) H2.out).mono ?_)
    rintro e w2 ⟨rfl, hb2⟩
    go_wp2_with fail
    go_ret
    exact ⟨ret_bool HG.out.symm, hb1.trans (hb2.mono hb1.size)⟩
  · have H1 := Lib.hid h
    have HG := Lib.hid (show b = false by rw [← HB.out, hpG, h]; rfl)
    clear h
    go_enter Try.func21, Try.ntmps21
    go_wp2_with fail
    (with_reducible refine (isPerm_ib A c p w false hp H1.out).mono ?_)
    rintro e w1 ⟨rfl, hb1⟩
    go_wp2_with fail
    go_ret
    exact ⟨ret_bool HG.out.symm, hb1⟩
theorem hp_count (p q : List Int) : decide (1 ≤ cpG p q) = hpG p q := by
  rcases two_perms p q with h | h | h
  · rw [cpG, if_pos h, hpG, h.1, h.2]
    unfold hasB
    cases occL p q with
    | nil => simp
    | cons a t => simp; omega
  · rw [cpG, if_neg (by simp [h.2]), hpG, h.2]; simp
  · rw [cpG, if_neg (by simp [h]), hpG, h]; simp
theorem hasPattern_spec (A B : Option Addr) (c d : Nat) (p q : List Int) (w : World) (b : Bool) (hp : In w A c p) (hq : In w B d q) (hb : hpG p q = b) :
    Calls Try.prog 22 #[.slice A p.length c, .slice B q.length d] w (Rb w (.bool b)) := by
  have HB := Lib.hid (show decide (1 ≤ cpG p q) = b by rw [hp_count]; exact hb)
  have HC := Lib.hid (countPattern_spec A B c d p q w hp hq)
  clear hb
  go_enter Try.func22, Try.ntmps22
  go_wp2_with fail
  (with_reducible refine HC.out.mono ?_)
  rintro e w1 ⟨rfl, hb1⟩
  go_wp2_with fail
  go_ret
  exact ⟨ret_bool (by rw [← HB.out]), hb1⟩
/-- The pattern that is left without a place. -/
def wpB (p : List Int) (x : Int) : Bool := permB p && decide (1 ≤ x ∧ x ≤ p.length)
def wpG (p : List Int) (x : Int) : List Int := if wpB p x = true then patL (cutAt p (x - 1).toNat) else []
theorem wpG_le (p : List Int) (x : Int) : (wpG p x).length ≤ p.length := by
  unfold wpG wpB
  split
  · rw [patL_length]; simp [cutAt]; omega
  · simp
set_option maxHeartbeats 1000000 in
theorem withoutPlace_impl (A : Option Addr) (c : Nat) (p : List Int) (x : Int) (w : World) (hp : In w A c p) (hx : -9223372036854775808 ≤ x ∧ x ≤ 9223372036854775807) :
    Calls Try.prog 11 #[.slice A p.length c, .int .i64 x] w (Ret2 (Value.int .i64) 3 w (wpG p x) (wpB p x)) := by
  have hl := hp.len
  rcases hpb : permB p with _ | _
  · have H1 := Lib.hid hpb
    have HB := Lib.hid (show wpB p x = false by rw [wpB, hpb]; rfl)
    have HG := Lib.hid (show wpG p x = [] by rw [wpG, HB.out]; rfl)
    clear hpb
    go_enter Try.func11, Try.ntmps11
    go_wp2_with fail
    (with_reducible refine (isPerm_ib A c p w false hp H1.out).mono ?_)
    rintro e w1 ⟨rfl, hb1⟩
    go_wp2_with fail
    go_ret2
    rw [HB.out, HG.out]
    exact ⟨none, 0, rfl, Nat.le_refl _, Nat.zero_le _, ⟨rfl, .inl ⟨rfl, rfl⟩⟩, hb1⟩
  · have H1 := Lib.hid hpb
    clear hpb
    by_cases h1 : x < 1
    · have HB := Lib.hid (show wpB p x = false by rw [wpB, H1.out, Bool.true_and, decide_eq_false_iff_not]; omega)
      have HG := Lib.hid (show wpG p x = [] by rw [wpG, HB.out]; rfl)
      go_enter Try.func11, Try.ntmps11
      go_wp2_with fail
      (with_reducible refine (isPerm_ib A c p w true hp H1.out).mono ?_)
      rintro e w1 ⟨rfl, hb1⟩
      go_wp2_with fail
      go_ret2
      rw [HB.out, HG.out]
      exact ⟨none, 0, rfl, Nat.le_refl _, Nat.zero_le _, ⟨rfl, .inl ⟨rfl, rfl⟩⟩, hb1⟩
    · by_cases h2 : x > (p.length : Int)
      · have HB := Lib.hid (show wpB p x = false by rw [wpB, H1.out, Bool.true_and, decide_eq_false_iff_not]; omega)
        have HG := Lib.hid (show wpG p x = [] by rw [wpG, HB.out]; rfl)
        go_enter Try.func11, Try.ntmps11
        go_wp2_with fail
        (with_reducible refine (isPerm_ib A c p w true hp H1.out).mono ?_)
        rintro e w1 ⟨rfl, hb1⟩
        go_wp2_with fail
        go_ret2
        rw [HB.out, HG.out]
        exact ⟨none, 0, rfl, Nat.le_refl _, Nat.zero_le _, ⟨rfl, .inl ⟨rfl, rfl⟩⟩, hb1⟩
      · obtain ⟨i, rfl⟩ : ∃ i : Nat, x = (i : Int) + 1 := ⟨(x - 1).toNat, by omega⟩
        have hi : i < p.length := by omega
        have HB := Lib.hid (show wpB p ((i : Int) + 1) = true by rw [wpB, H1.out, Bool.true_and, decide_eq_true_eq]; omega)
        have HG := Lib.hid (show wpG p ((i : Int) + 1) = patL (cutAt p i) by rw [wpG, if_pos HB.out, show ((i : Int) + 1 - 1).toNat = i by omega])
        have e1 : IntKind.i64.wrap ((i : Int) + 1 - 1) = (i : Int) := by rw [IntWalk.i64_in _ (by omega)]; omega
        go_enter Try.func11, Try.ntmps11
        go_wp2_with fail
        (with_reducible refine (isPerm_ib A c p w true hp H1.out).mono ?_)
        rintro e w1 ⟨rfl, hb1⟩
        have HC := Lib.hid (without_impl A c i p w1 (hp.next hb1) hi)
        go_wp2_with fail
        (with_reducible refine HC.out.mono ?_)
        rintro e w2 ⟨U, uk, rfl, h3, h4, ho, hb2⟩
        go_wp2_with fail
        go_ret2
        rw [HB.out, HG.out]
        exact ⟨U, uk, rfl, h3, h4, own_mono ho hb1.size, hb1.trans (hb2.mono hb1.size)⟩
set_option maxHeartbeats 1000000 in
theorem withoutPlace_spec (A : Option Addr) (c : Nat) (p : List Int) (x : Int) (w : World) (hp : In w A c p) (hx : -9223372036854775808 ≤ x ∧ x ≤ 9223372036854775807) :
    Calls Try.prog 12 #[.slice A p.length c, .int .i64 x] w (Ret2 (Value.int .i64) 3 w (wpG p x) (wpB p x)) := by
  have hl := hp.len
  rcases hpb : permB p with _ | _
  · have H1 := Lib.hid hpb
    have HB := Lib.hid (show wpB p x = false by rw [wpB, hpb]; rfl)
    have HG := Lib.hid (show wpG p x = [] by rw [wpG, HB.out]; rfl)
    clear hpb
    go_enter Try.func12, Try.ntmps12
    go_wp2_with fail
    (with_reducible refine (isPerm_sb A c p w false hp H1.out).mono ?_)
    rintro e w1 ⟨rfl, hd⟩
    have hb := below_dr (Below.refl w.heap.size w) hd
    go_wp2_with fail
    go_ret2
    rw [HB.out, HG.out]
    exact ⟨_, 0, rfl, Nat.le_refl _, Nat.zero_le _, World.ownsRow_lit _ #[] 0 hb.size (by unfold maxLen; omega) rfl, hb.alloc hb.size _⟩
  · have H1 := Lib.hid hpb
    clear hpb
    by_cases h1 : 1 ≤ x ∧ x ≤ (p.length : Int)
    · have HD := Lib.hid (show decide ((1 : Int) ≤ x ∧ x ≤ (p.length : Int)) = true from decide_eq_true h1)
      obtain ⟨i, rfl⟩ : ∃ i : Nat, x = (i : Int) + 1 := ⟨(x - 1).toNat, by omega⟩
      have hi : i < p.length := by omega
      have HB := Lib.hid (show wpB p ((i : Int) + 1) = true by rw [wpB, H1.out, Bool.true_and, decide_eq_true_eq]; omega)
      have HG := Lib.hid (show wpG p ((i : Int) + 1) = patL (cutAt p i) by rw [wpG, if_pos HB.out, show ((i : Int) + 1 - 1).toNat = i by omega])
      have e1 : IntKind.i64.wrap ((i : Int) + 1 - 1) = (i : Int) := by rw [IntWalk.i64_in _ (by omega)]; omega
      clear h1
      go_enter Try.func12, Try.ntmps12
      go_wp2_with fail
      (with_reducible refine (isPerm_sb A c p w true hp H1.out).mono ?_)
      rintro e w1 ⟨rfl, hd⟩
      have hb1 := below_dr (Below.refl w.heap.size w) hd
      go_wp2_with fail
      (with_reducible refine (l1In_b _ 1 (p.length : Int) w1 true HD.out).mono ?_)
      rintro e w2 ⟨rfl, rfl⟩
      have HC := Lib.hid (l7Without_any A c i p w1 (hp.next hb1) hi)
      go_wp2_with fail
      (with_reducible refine HC.out.mono ?_)
      rintro e w2 ⟨U, uk, rfl, h3, h4, ho, hb2⟩
      go_wp2_with fail
      go_ret2
      rw [HB.out, HG.out]
      exact ⟨U, uk, rfl, h3, h4, own_mono ho hb1.size, hb1.trans (hb2.mono hb1.size)⟩
    · have HD := Lib.hid (show decide ((1 : Int) ≤ x ∧ x ≤ (p.length : Int)) = false from decide_eq_false h1)
      have HB := Lib.hid (show wpB p x = false by rw [wpB, H1.out, Bool.true_and]; exact HD.out)
      have HG := Lib.hid (show wpG p x = [] by rw [wpG, HB.out]; rfl)
      clear h1
      go_enter Try.func12, Try.ntmps12
      go_wp2_with fail
      (with_reducible refine (isPerm_sb A c p w true hp H1.out).mono ?_)
      rintro e w1 ⟨rfl, hd⟩
      have hb := below_dr (Below.refl w.heap.size w) hd
      go_wp2_with fail
      (with_reducible refine (l1In_b _ 1 (p.length : Int) w1 false HD.out).mono ?_)
      rintro e w2 ⟨rfl, rfl⟩
      go_wp2_with fail
      go_ret2
      rw [HB.out, HG.out]
      exact ⟨_, 0, rfl, Nat.le_refl _, Nat.zero_le _, World.ownsRow_lit _ #[] 0 hb.size (by unfold maxLen; omega) rfl, hb.alloc hb.size _⟩
def lowG (p : List Int) : List (List Int) := if permB p = true then lowL p else []
set_option maxHeartbeats 1000000 in
theorem lowersOf_impl (A : Option Addr) (c : Nat) (p : List Int) (w : World) (h : In w A c p) :
    Calls Try.prog 23 #[.slice A p.length c] w (RetL w (lowG p)) := by
  rcases hpb : permB p with _ | _
  · have H1 := Lib.hid hpb
    have HG := Lib.hid (show lowG p = [] by rw [lowG, hpb]; rfl)
    clear hpb
    go_enter Try.func23, Try.ntmps23
    go_wp2_with fail
    (with_reducible refine (isPerm_ib A c p w false h H1.out).mono ?_)
    rintro e w1 ⟨rfl, hb1⟩
    go_wp2_with fail
    go_ret
    rw [HG.out]
    exact retL_nil hb1
  · have H1 := Lib.hid hpb
    have h8 := (permB_true hpb).1
    have HG := Lib.hid (show lowG p = lowL p by rw [lowG, if_pos hpb])
    clear hpb
    go_enter Try.func23, Try.ntmps23
    go_wp2_with fail
    (with_reducible refine (isPerm_ib A c p w true h H1.out).mono ?_)
    rintro e w1 ⟨rfl, hb1⟩
    have HC := Lib.hid (lowers_impl A c p w1 (h.next hb1) h8)
    go_wp2_with fail
    (with_reducible refine HC.out.mono ?_)
    rintro e w3 ⟨O, ok, rs, rfl, hX, hO, hb3⟩
    have HXX := Lib.hid hX
    clear hX
    go_wp2_with fail
    go_ret
    rw [HG.out]
    exact RetL.after ⟨O, ok, rs, rfl, HXX.out, hO, hb3⟩ hb1
set_option maxHeartbeats 1000000 in
theorem lowersOf_any (A : Option Addr) (c : Nat) (p : List Int) (w : World) (h : In w A c p) :
    Calls Try.prog 24 #[.slice A p.length c] w (RetL w (lowG p)) := by
  rcases hpb : permB p with _ | _
  · have H1 := Lib.hid hpb
    have HG := Lib.hid (show lowG p = [] by rw [lowG, hpb]; rfl)
    clear hpb
    have hb0 := (Below.refl w.heap.size w).alloc (Nat.le_refl _) (.cells #[] 24)
    have hlit := Own.lit (lo := w.heap.size) w (Nat.le_refl _)
    go_enter Try.func24, Try.ntmps24
    go_wp2_with fail
    go_loopw [3, 4] (fun o i wr => o = .slice (some ⟨w.heap.size, 0, none⟩) 0 0 ∧ i = .int .i64 0 ∧ wr = w.alloc (.cells #[] 24)) (fun _ i _ => 1 - (intOf i).toNat)
    case atStart => exact ⟨rfl, rfl, rfl⟩
    case round =>
      obtain ⟨rfl, rfl, rfl⟩ := hrel
      rcases Nat.eq_zero_or_pos p.length with h0 | h0
      · obtain rfl := List.eq_nil_of_length_eq_zero h0
        go_wp2_with fail
        go_ret
        rw [HG.out]
        exact ⟨_, 0, [], rfl, rfl, hlit, hb0⟩
      · have l1 : (0 : Int) < (p.length : Int) := by omega
        have HC := Lib.hid (isPerm_sb A c p (w.alloc (.cells #[] 24)) false (h.next hb0) H1.out)
        go_wp2_with fail
        (with_reducible refine HC.out.mono ?_)
        rintro e w1 ⟨rfl, hd⟩
        go_wp2_with fail
        go_ret
        rw [HG.out]
        exact ⟨_, 0, [], rfl, rfl, (hlit.dr hd).wider (Nat.le_refl _) (by rw [hd.heap]; exact Nat.le_refl _), below_dr hb0 hd⟩
  · have := lowersOf_spec A c p w h hpb
    rwa [show lowG p = lowL p by rw [lowG, if_pos hpb]]
set_option maxHeartbeats 1000000 in
theorem hasList_yes (A B : Option Addr) (c d : Nat) (rs : List Row) (x : List Int) (w : World) (h : InL w A c rs) (hx : In w B d x) (hm : x ∈ rs.map Row.xs) :
    Calls Try.prog 28 #[.slice A rs.length c, .slice B x.length d] w (Rb w (.bool true)) := by
  have HM := Lib.hid hm
  have hrl := h.len
  clear hm
  go_enter Try.func28, Try.ntmps28
  go_wp2_with fail
  go_loopw [5] (fun i wr => ∃ k : Nat, k ≤ rs.length ∧ i = .int .i64 k ∧ Dr w wr ∧ Hid (x ∉ (rs.map Row.xs).take k)) (fun i _ => rs.length - (intOf i).toNat)
  case atStart => exact ⟨0, Nat.zero_le _, rfl, Dr.refl _, Lib.hid (by simp)⟩
  case round =>
    obtain ⟨k, hk, rfl, hd, HN⟩ := hrel
    rcases Nat.lt_or_ge k rs.length with hlt | hge
    · have l1 : (k : Int) < (rs.length : Int) := by omega
      have l0 : (0 : Int) ≤ (k : Int) := Int.natCast_nonneg _
      have e1 : IntKind.i64.wrap ((k : Int) + 1) = (k : Int) + 1 := IntWalk.i64_in _ (by omega)
      obtain ⟨b, off, rfl, _, hc⟩ := (h.dr hd).read.at (by omega)
      have c1 := hc k hlt
      have hr := (h.dr hd).row (List.getElem_mem hlt)
      obtain ⟨b1, hb1⟩ : ∃ b1, decide (rs[k].xs = x) = b1 := ⟨_, rfl⟩
      have HB1 := Lib.hid hb1
      have HC := Lib.hid (sameInts_b _ _ rs[k].c d _ _ rs[k].xs x wr b1 rfl rfl hr.len hr.rd (hx.dr hd).rd hb1)
      clear hc hr hb1
      go_wp2_with fail
      (with_reducible refine HC.out.mono ?_)
      rintro e w1 ⟨rfl, hd1⟩
      have hd2 := hd.trans hd1
      rcases b1 with _ | _
      · have HN2 := Lib.hid (show x ∉ (rs.map Row.xs).take (k + 1) by
          rw [List.take_succ_eq_append_getElem (by simpa using hlt), List.mem_append]
          rintro (h1 | h1)
          · exact HN.out h1
          · have h2 := List.mem_singleton.1 h1
            have h3 := of_decide_eq_false HB1.out
            rw [List.getElem_map] at h2
            exact h3 h2.symm)
        clear c1 HC
        go_wp2_with fail
        go_roundw
        case rel => exact ⟨k + 1, by omega, by go_num, hd2, HN2⟩
        case measure => simp [intOf]; omega
      · go_wp2_with fail
        go_ret
        exact ⟨rfl, below_dr (Below.refl _ _) hd2⟩
    · exfalso
      have h1 := HN.out
      rw [List.take_of_length_le (by simp; omega)] at h1
      exact h1 HM.out
end Go.Proofs.Ytfcgohhmpgffjaa

/- The draws of FnPatterns. Written by gen/gendp.py. -/
namespace Go.Proofs.Ytfcgohhmpgffjaa
set_option maxRecDepth 100000
open Go Go.RowKit

set_option maxHeartbeats 800000 in
theorem drawOccurrencesOf (A : Option Addr) (c : Nat) (bs : List Int) (w : World) (h : InY w A c bs) :
    Calls Try.prog 5 #[.slice A bs.length c] w (RetII w fun xs ys => xs.length ≤ 9 ∧ ys.length ≤ 9) := by
  have HC := Lib.hid (l7Case_any A c bs w h)
  go_enter Try.func5, Try.ntmps5
  go_wp2_with fail
  (with_reducible refine HC.out.mono ?_)
  rintro e w1 ⟨D, k, xs, E, m, ys, rfl, hok, h1, h2, hb⟩
  go_wp2_with fail
  go_ret2
  exact ⟨D, k, xs, E, m, ys, rfl, hok, h1, h2, hb⟩
/-- A list and a number were drawn. -/
def RetIX (w : World) (lo hi : Int) (en : Ending) (w' : World) : Prop :=
  ∃ (D : Option Addr) (k : Nat) (xs : List Int) (x : Int), en = .returned (.tuple #[.slice D xs.length k, .int .i64 x]) ∧ xs.length ≤ 9 ∧ lo ≤ x ∧ x ≤ hi ∧ In w' D k xs ∧ Below w.heap.size w w'
set_option maxHeartbeats 800000 in
theorem drawPatternsIn (A : Option Addr) (c : Nat) (bs : List Int) (w : World) (h : InY w A c bs) :
    Calls Try.prog 8 #[.slice A bs.length c] w (RetIX w (-1) 6) := by
  have HC := Lib.hid (l1New_any A c bs w h.len h.rd)
  go_enter Try.func8, Try.ntmps8
  go_wp2_with fail
  (with_reducible refine HC.out.mono ?_)
  rintro e w1 ⟨q, rfl, hq, hc, hb⟩
  have hq1 := hc.lt
  have HD := Lib.hid (l2Bent_any w1 q A c bs hc)
  clear HC
  go_wp2_with fail
  (with_reducible refine HD.out.mono ?_)
  rintro e w2 ⟨D, k, xs, rfl, hl, ho, k1⟩
  have HO := Lib.hid (l1Below_any w2 q A c bs 7 (by omega) k1.cur)
  clear HD
  go_wp2_with fail
  (with_reducible refine HO.out.mono ?_)
  rintro e w3 ⟨x, rfl, hx, ka⟩
  have hx7 : 0 ≤ x ∧ x ≤ 6 := by have := hx.2.1 (by omega); omega
  have ho := own_drawn ho ka hq1
  have k2 := k1.trans ka
  have HO := Lib.hid (l1Once_any w3 q A c bs 10 (by omega) k2.cur)
  clear hx ka k1
  go_wp2_with fail
  (with_reducible refine HO.out.mono ?_)
  rintro e w4 ⟨b, rfl, kb⟩
  have ho := own_drawn ho kb hq1
  have k3 := k2.trans kb
  obtain ⟨t, ht⟩ : ∃ y : Int, (if b = true then (1 : Int) else 0) = y := ⟨_, rfl⟩
  have htb : 0 ≤ t ∧ t ≤ 1 := by rcases b with _ | _ <;> simp at ht <;> omega
  have HB := Lib.hid (l1Bit_b b t w4 ht)
  clear HO ht kb k2
  go_wp2_with fail
  (with_reducible refine HB.out.mono ?_)
  rintro e w7 ⟨rfl, rfl⟩
  have e2 : IntKind.i64.wrap (x - t) = x - t := IntWalk.i64_in _ (by omega)
  go_wp2_with fail
  go_ret2
  exact ⟨D, k, xs, x - t, by first | rfl | (simp only [e2]), hl, by omega, by omega, In.of_own ho (by omega), hb.trans (k3.below hq hb.size)⟩
set_option maxHeartbeats 800000 in
theorem drawWithoutPlace (A : Option Addr) (c : Nat) (bs : List Int) (w : World) (h : InY w A c bs) :
    Calls Try.prog 10 #[.slice A bs.length c] w (RetIX w 0 20) := by
  have HC := Lib.hid (l1New_any A c bs w h.len h.rd)
  go_enter Try.func10, Try.ntmps10
  go_wp2_with fail
  (with_reducible refine HC.out.mono ?_)
  rintro e w1 ⟨q, rfl, hq, hc, hb⟩
  have hq1 := hc.lt
  have HD := Lib.hid (l2Bent_any w1 q A c bs hc)
  clear HC
  go_wp2_with fail
  (with_reducible refine HD.out.mono ?_)
  rintro e w2 ⟨D, k, xs, rfl, hl, ho, k1⟩
  obtain ⟨u, hu⟩ : ∃ u, max 1 (xs.length : Int) = u := ⟨_, rfl⟩
  have hub : 1 ≤ u ∧ u ≤ 9 := by omega
  have HM := Lib.hid (l1Max_b 1 (xs.length : Int) u w2 hu)
  clear HD hu
  go_wp2_with fail
  (with_reducible refine HM.out.mono ?_)
  rintro e w3 ⟨rfl, rfl⟩
  have HO := Lib.hid (l1Below_any w2 q A c bs u (by omega) k1.cur)
  clear HM
  go_wp2_with fail
  (with_reducible refine HO.out.mono ?_)
  rintro e w3 ⟨x, rfl, hx, ka⟩
  have hx7 : 0 ≤ x ∧ x ≤ 8 := by have := hx.2.1 (by omega); omega
  have ho := own_drawn ho ka hq1
  have k2 := k1.trans ka
  have e1 : IntKind.i64.wrap (1 + x) = 1 + x := IntWalk.i64_in _ (by omega)
  have HO := Lib.hid (l1Once_any w3 q A c bs 10 (by omega) k2.cur)
  clear hx ka k1
  go_wp2_with fail
  (with_reducible refine HO.out.mono ?_)
  rintro e w4 ⟨b, rfl, kb⟩
  have ho := own_drawn ho kb hq1
  have k3 := k2.trans kb
  obtain ⟨t, ht⟩ : ∃ y : Int, (if b = true then (1 : Int) else 0) = y := ⟨_, rfl⟩
  have htb : 0 ≤ t ∧ t ≤ 1 := by rcases b with _ | _ <;> simp at ht <;> omega
  have HB := Lib.hid (l1Bit_b b t w4 ht)
  clear HO ht kb k2
  go_wp2_with fail
  (with_reducible refine HB.out.mono ?_)
  rintro e w7 ⟨rfl, rfl⟩
  have e2 : IntKind.i64.wrap (1 + x - t) = 1 + x - t := IntWalk.i64_in _ (by omega)
  go_wp2_with fail
  go_ret2
  exact ⟨D, k, xs, 1 + x - t, by first | rfl | (simp only [e2]), hl, by omega, by omega, In.of_own ho (by omega), hb.trans (k3.below hq hb.size)⟩
theorem ooG_8 {p q l : List Int} (h : l ∈ ooG p q) : l.length ≤ 8 := by
  unfold ooG at h
  split at h
  · rename_i hpq
    rw [occ_eq hpq.1 hpq.2] at h
    have h1 := (occI_mem h).1
    have h2 := (permB_true hpq.2).1
    omega
  · cases h
set_option maxHeartbeats 2000000 in
theorem drawIsOccurrence (A : Option Addr) (c : Nat) (bs : List Int) (w : World) (h : InY w A c bs) :
    Calls Try.prog 7 #[.slice A bs.length c] w (fun en w' => ∃ (D E F : Option Addr) (k m f : Nat) (xs ys ps : List Int), en = .returned (.tuple #[.slice D xs.length k, .slice E ys.length m, .slice F ps.length f]) ∧
      In w' D k xs ∧ In w' E m ys ∧ In w' F f ps ∧ Below w.heap.size w w') := by
  obtain ⟨i0, hi, hz0, hz1, hz2⟩ := info_parts infoI
  have HC := Lib.hid (l7Case_any A c bs w h)
  go_enter Try.func7, Try.ntmps7
  go_wp2_with fail
  (with_reducible refine HC.out.mono ?_)
  rintro e w1 ⟨D, k, xs, E, m, ys, rfl, ⟨hx9, hy9⟩, ix, iy, hb⟩
  have h1 := h.next hb
  have HD := Lib.hid (l1New_any A c bs w1 h1.len h1.rd)
  have rx0 := ix.rd
  have ry0 := iy.rd
  have cx := ix.cap
  have cy := iy.cap
  clear HC h
  go_wp2_with fail
  (with_reducible refine HD.out.mono ?_)
  rintro e w2 ⟨q, rfl, hq, hc, hb2⟩
  have hs12 := hb2.size
  have hw1 := hb.size
  have ix := ix.next hb2
  have iy := iy.next hb2
  have rx1 := rx0.below hb2
  have ry1 := ry0.below hb2
  have hb := hb.trans (hb2.mono hb.size)
  have HE := Lib.hid (occurrencesOf_any D E k m xs ys w2 ix iy)
  have hq2 := hc.lt
  clear HD h1 rx0 ry0
  go_wp2_with fail
  (with_reducible refine HE.out.mono ?_)
  rintro e w3 ⟨L, lk, rs, rfl, hX, hO, hb3⟩
  have HX := Lib.hid hX
  have hs23 := hb3.size
  have hc := hc.below hb3 hq2
  have rx := rx1.below (hb3.mono hs12)
  have ry := ry1.below (hb3.mono hs12)
  have hb := hb.trans (hb3.mono hb.size)
  have hrl : rs.length ≤ 16777216 := by
    have h1 := map_len1 hX
    unfold ooG at h1
    split at h1
    · rename_i hpq
      rw [occ_eq hpq.1 hpq.2] at h1
      rw [h1]
      exact occI_le (permB_true hpq.1).1 (permB_true hpq.2).1
    · rw [h1]; simp
  clear hX HE ix iy rx1 ry1
  go_upto_region 4 with (fail)
  go_cut [28] from 22 to 28 (fun s wz => ∃ b : Bool, s = .bool b ∧ (b = true → 0 < rs.length) ∧ Drawn w3 wz q A c bs)
  case first =>
    rcases Nat.eq_zero_or_pos rs.length with h0 | h0
    · have l0 : ¬ ((rs.length : Int) > 0) := by omega
      have l0' : decide ((rs.length : Int) > 0) = false := decide_eq_false l0
      have HZ := Lib.hid h0
      clear h0
      go_wp2_with fail
      go_meet
      case rel => exact ⟨false, rfl, fun h => by simp at h, Drawn.refl hc⟩
    · have l0 : ((rs.length : Int) > 0) := by omega
      have l0' : decide ((rs.length : Int) > 0) = true := decide_eq_true l0
      have HO := Lib.hid (l1Once_any w3 q A c bs 2 (by omega) hc)
      go_wp2_with fail
      (with_reducible refine HO.out.mono ?_)
      rintro e w4 ⟨b, rfl, kb⟩
      go_wp2_with fail
      go_meet
      case rel => exact ⟨b, rfl, fun _ => h0, kb⟩
  obtain ⟨b, rfl, hbp, kd⟩ := hcut
  obtain ⟨w4, rfl⟩ : ∃ w', w' = wc := ⟨_, rfl⟩
  have hs34 := kd.span.size
  have rx := rx.drawn kd hq (by omega)
  have ry := ry.drawn kd hq (by omega)
  have hO := hO.span kd.span (.inr (by omega))
  have hb := hb.trans (kd.below (by omega) hb.size)
  have hc := kd.cur
  clear kd
  rcases b with _ | _
  · have own0 : (w4.alloc (.cells #[] 3)).ownsRow w4.heap.size 3 1 (.slice (some ⟨w4.heap.size, 0, none⟩) 0 0) 0 [] := World.ownsRow_lit w4 #[] 0 (Nat.le_refl _) (by unfold maxLen; omega) rfl
    have k0 := (Drawn.refl hc).next ((Below.refl w4.heap.size w4).alloc (Nat.le_refl _) (.cells #[] 3)) hc.lt
    have hq4 := hc.lt
    clear hO hbp
    go_wp2_with fail
    go_loopw [9, 10, 11] (fun o v i wr => ∃ (n : Nat) (u : Int) (A1 : Option Addr) (c1 : Nat) (ps : List Int), n ≤ ys.length ∧ i = .int .i64 n ∧ v = .int .i64 u ∧ o = .slice A1 ps.length c1 ∧ ps.length = n ∧ -100 ≤ u + 10 * n ∧ u ≤ 10 * n ∧ -n ≤ u ∧
      wr.ownsRow w4.heap.size 3 1 (.slice A1 ps.length c1) ps.length (ps.map (Value.int .i64)) ∧ Drawn w4 wr q A c bs) (fun _ _ i _ => ys.length - (intOf i).toNat)
    case atStart => exact ⟨0, 0, _, _, [], Nat.zero_le _, rfl, rfl, rfl, rfl, by omega, by omega, by omega, own0, k0⟩
    case round =>
      clear own0 k0
      obtain ⟨n, u, A1, c1, ps, hn, rfl, rfl, rfl, hpn, hu1, hu2, hu3, ho, kd⟩ := hrel
      have HPN := Lib.hid hpn
      have hp9 : ps.length ≤ 9 := by omega
      clear hpn
      have hsz := kd.span.size
      rcases Nat.lt_or_ge n ys.length with hlt | hge
      · have l1 : (n : Int) < (ys.length : Int) := by omega
        have e1 : IntKind.i64.wrap (u + 1) = u + 1 := IntWalk.i64_in _ (by omega)
        have HO := Lib.hid (l1Below_any wr q A c bs 3 (by omega) kd.cur)
        go_wp2_with fail
        (with_reducible refine HO.out.mono ?_)
        rintro e w5 ⟨x, rfl, hx, ka⟩
        have hx3 : 0 ≤ x ∧ x ≤ 2 := by have := hx.2.1 (by omega); omega
        have ho := own_drawn ho ka hq4
        have kd := kd.trans ka
        have e2 : IntKind.i64.wrap (u + 1 + x) = u + 1 + x := IntWalk.i64_in _ (by omega)
        have HO := Lib.hid (l1Once_any w5 q A c bs 20 (by omega) kd.cur)
        clear hx ka
        go_wp2_with fail
        (with_reducible refine HO.out.mono ?_)
        rintro e w6 ⟨b, rfl, kb⟩
        have ho := own_drawn ho kb hq4
        have kd := kd.trans kb
        obtain ⟨t, ht⟩ : ∃ y : Int, (if b = true then (1 : Int) else 0) = y := ⟨_, rfl⟩
        have htb : 0 ≤ t ∧ t ≤ 1 := by rcases b with _ | _ <;> simp at ht <;> omega
        have HB := Lib.hid (l1Bit_b b t w6 ht)
        clear HO ht kb
        go_wp2_with fail
        (with_reducible refine HB.out.mono ?_)
        rintro e w7 ⟨rfl, rfl⟩
        have e3 : IntKind.i64.wrap (u + 1 + x - t) = u + 1 + x - t := IntWalk.i64_in _ (by omega)
        have hsz := kd.span.size
        have hop : w6.ownsRow w4.heap.size 3 1 (.slice A1 ps.length c1) ps.length (ps.map (Value.int .i64)) := ho
        go_wp2_with (at_builtin; refine wpList_append_own _ rfl _ _ 24 rfl (w4.heap.size) 3 i0 (.int .i64 0) 1 8 Try.underlying24 hi hz0 hz1 hz2 rfl (by decide) _ _ _ rfl (World.ownsRow.alloc hop _) ⟨w6.heap.size, 0, none⟩ 1 1 [.int .i64 (u + 1 + x - t)] rfl rfl (cell_one_new _ _ _) (by intro u hu; simp at hu; subst hu; rfl) (by unfold maxLen; omega) (by omega) (by simp; omega) ?_; intro v1 w1 hown1 hgrow1 _)
        have hown2 : w1.ownsRow w4.heap.size 3 1 v1 (ps ++ [u + 1 + x - t]).length ((ps ++ [u + 1 + x - t]).map (Value.int .i64)) := by simpa using hown1
        obtain ⟨A2, c2, rfl, _, _⟩ := own_shape hown2
        have hbC := ((Below.refl w4.heap.size w6).alloc hsz (Obj.cells #[Value.int .i64 (u + 1 + x - t)] 3)).grown hgrow1 (by simp; omega) (fun g hg => (hop.lt g hg).1)
        have kd := kd.next hbC hq4
        have HL := Lib.hid (show (ps ++ [u + 1 + x - t]).length = n + 1 by rw [List.length_append, HPN.out]; rfl)
        clear hown1 hgrow1 hbC
        go_wp2_with fail
        go_roundw
        case rel => exact ⟨n + 1, u + 1 + x - t, A2, c2, ps ++ [u + 1 + x - t], by omega, by go_num, rfl, rfl, HL.out, by omega, by omega, by omega, hown2, kd⟩
        case measure => simp [intOf]; omega
      · have l1 : ¬ (n : Int) < (ys.length : Int) := by omega
        have hs4 := kd.span.size
        have rx := (rx.drawn kd hq (by omega)).more (B' := wr.heap.size) (by omega)
        have ry := (ry.drawn kd hq (by omega)).more (B' := wr.heap.size) (by omega)
        have ip := In.of_own ho (by omega)
        have hb := hb.trans (kd.below (by omega) hb.size)
        clear ho
        go_wp2_with fail
        refine bodyPost_ret (v := .tuple #[.slice D xs.length k, .slice E ys.length m, .slice A1 ps.length c1]) (by simp [results, Try.results7, go_sem]) rfl ?_
        exact ⟨D, E, A1, k, m, c1, xs, ys, ps, rfl, ⟨by omega, cx, rx⟩, ⟨by omega, cy, ry⟩, ip, hb⟩
  · have hr0 := hbp rfl
    have hl0 : 0 < (rs.length : Int) := by omega
    have hc0 : Cur w4.drew q A c bs := hc.dr (Dr.refl w4).drew
    have hO := hO.dr (Dr.refl w4).drew
    have rx := rx.dr (Dr.refl w4).drew
    have ry := ry.dr (Dr.refl w4).drew
    have hb := below_dr hb (Dr.refl w4).drew
    have hsd : w4.drew.heap.size = w4.heap.size := rfl
    go_wp2_with fail
    refine wp_region_held_drew (S := (fun _ => True)) (by kernel_rfl) trivial (fun hHeld => ?_)
    refine wpAnyH_take (i := 0) (oi := _) (v := ?_) rfl (by kernel_rfl) (by kernel_rfl) (by kernel_rfl) (fun _ _ _ h => h) (Or.inl ⟨by rfl, ?_⟩) (by assumption) ?_
    rotate_left
    · intro w hSw
      try dsimp only at hSw
      go_simp
      all_goals with_reducible rfl
    try simp only [Act.put, List.setIfInBounds_toArray, List.set_cons_zero, List.set_cons_succ, List.getElem_toArray, List.getElem_cons_succ, List.getElem_cons_zero]
    refine wpAnyH_take (i := 1) (oi := _) (v := ?_) rfl (by kernel_rfl) (by kernel_rfl) (by kernel_rfl) (fun _ _ _ h => h) (Or.inl ⟨by rfl, ?_⟩) (by assumption) ?_
    rotate_left
    · intro w hSw
      try dsimp only at hSw
      go_simp
      all_goals with_reducible rfl
    try simp only [Act.put, List.setIfInBounds_toArray, List.set_cons_zero, List.set_cons_succ, List.getElem_toArray, List.getElem_cons_succ, List.getElem_cons_zero]
    refine wpAnyH_take (i := 2) (oi := _) (v := ?_) rfl (by kernel_rfl) (by kernel_rfl) (by kernel_rfl) (fun _ _ _ h => h) (Or.inl ⟨by rfl, ?_⟩) (by assumption) ?_
    rotate_left
    · intro w hSw
      try dsimp only at hSw
      go_simp
      all_goals with_reducible rfl
    try simp only [Act.put, List.setIfInBounds_toArray, List.set_cons_zero, List.set_cons_succ, List.getElem_toArray, List.getElem_cons_succ, List.getElem_cons_zero]
    refine wpAnyH_take (i := 3) (oi := _) (v := ?_) rfl (by kernel_rfl) (by kernel_rfl) (by kernel_rfl) (fun _ _ _ h => h) (Or.inl ⟨by rfl, ?_⟩) (by assumption) ?_
    rotate_left
    · intro w hSw
      try dsimp only at hSw
      go_simp
      all_goals with_reducible rfl
    try simp only [Act.put, List.setIfInBounds_toArray, List.set_cons_zero, List.set_cons_succ, List.getElem_toArray, List.getElem_cons_succ, List.getElem_cons_zero]
    refine wpAnyH_take (i := 4) (oi := _) (v := ?_) rfl (by kernel_rfl) (by kernel_rfl) (by kernel_rfl) (fun _ _ _ h => h) (Or.inl ⟨by rfl, ?_⟩) (by assumption) ?_
    rotate_left
    · intro w hSw
      try dsimp only at hSw
      go_simp
      all_goals with_reducible rfl
    try simp only [Act.put, List.setIfInBounds_toArray, List.set_cons_zero, List.set_cons_succ, List.getElem_toArray, List.getElem_cons_succ, List.getElem_cons_zero]
    refine wpAnyH_take (i := 5) (oi := _) (v := ?_) rfl (by kernel_rfl) (by kernel_rfl) (by kernel_rfl) (fun _ _ _ h => h) (Or.inl ⟨by rfl, ?_⟩) (by assumption) ?_
    rotate_left
    · intro w hSw
      try dsimp only at hSw
      go_simp
      all_goals with_reducible rfl
    try simp only [Act.put, List.setIfInBounds_toArray, List.set_cons_zero, List.set_cons_succ, List.getElem_toArray, List.getElem_cons_succ, List.getElem_cons_zero]
    refine wpAnyH_ready (rs := [6]) (by kernel_rfl) (by simp) ?_
    refine AllReadyH.cons (o := _) rfl (fun K hK => ?_) AllReadyH.nil
    go_simp
    refine Calls.mono (l1Below_any _ q A c bs (rs.length : Int) (by omega) hc0) ?_
    rintro e w5 ⟨x, rfl, hx, ka⟩
    obtain ⟨n, rfl⟩ := Int.eq_ofNat_of_zero_le hx.1
    have hn : n < rs.length := by have := hx.2.1 (by omega); omega
    have hO := hO.span ka.span (.inr (by omega))
    have hs5 := ka.span.size
    have rx := (rx.drawn ka hq (by omega)).more (B' := w5.heap.size) (by omega)
    have ry := (ry.drawn ka hq (by omega)).more (B' := w5.heap.size) (by omega)
    have hb := hb.trans (ka.below (by omega) hb.size)
    obtain ⟨pb, cap, hv, hpb, hlp⟩ := hO.out.form (by simp; omega)
    have hv : L = some ⟨pb, 0, none⟩ := by injection hv
    subst hv
    have hcell := hO.read.cellAt n hn
    have hrow := own_row hO (r := rs[n]) (List.getElem_mem hn) (by omega)
    have h8 : rs[n].xs.length ≤ 8 := ooG_8 (p := xs) (q := ys) (by rw [← HX.out]; exact List.mem_map.2 ⟨rs[n], List.getElem_mem hn, rfl⟩)
    generalize rs[n] = r1 at hcell hrow h8
    obtain ⟨rA, rc, rx1⟩ := r1
    simp only [Nat.zero_add] at hcell hrow h8
    have hni : (n : Int) < (rs.length : Int) := by omega
    have hn0 : (0 : Int) ≤ (n : Int) := Int.natCast_nonneg _
    clear hx ka
    go_wp2_with fail
    refine hK.out _ _ (trivial) (fun hHeld => ?_)
    clear hK K
    try simp only [Act.put, List.setIfInBounds_toArray, List.set_cons_zero, List.set_cons_succ, List.getElem_toArray, List.getElem_cons_succ, List.getElem_cons_zero]
    refine wpAnyH_take (i := 7) (oi := _) (v := ?_) rfl (by kernel_rfl) (by kernel_rfl) (by kernel_rfl) (fun _ _ _ h => h) (Or.inl ⟨by rfl, ?_⟩) (by assumption) ?_
    rotate_left
    · intro w hSw
      try dsimp only at hSw
      go_simp
      all_goals with_reducible rfl
    try simp only [Act.put, List.setIfInBounds_toArray, List.set_cons_zero, List.set_cons_succ, List.getElem_toArray, List.getElem_cons_succ, List.getElem_cons_zero]
    refine wpAnyH_take (i := 9) (oi := _) (v := ?_) rfl (by kernel_rfl) (by kernel_rfl) (by kernel_rfl) (fun _ _ _ h => h) (Or.inl ⟨by rfl, ?_⟩) (by assumption) ?_
    rotate_left
    · intro w hSw
      try dsimp only at hSw
      go_simp
      all_goals with_reducible rfl
    try simp only [Act.put, List.setIfInBounds_toArray, List.set_cons_zero, List.set_cons_succ, List.getElem_toArray, List.getElem_cons_succ, List.getElem_cons_zero]
    refine wpAnyH_take (i := 10) (oi := _) (v := ?_) rfl (by kernel_rfl) (by kernel_rfl) (by kernel_rfl) (fun _ _ _ h => h) (Or.inl ⟨by rfl, ?_⟩) (by assumption) ?_
    rotate_left
    · intro w hSw
      try dsimp only at hSw
      go_simp
      all_goals with_reducible rfl
    try simp only [Act.put, List.setIfInBounds_toArray, List.set_cons_zero, List.set_cons_succ, List.getElem_toArray, List.getElem_cons_succ, List.getElem_cons_zero]
    refine wpAnyH_ready (rs := [8]) (by kernel_rfl) (by simp) ?_
    refine AllReadyH.cons (o := _) rfl (fun K hK => ?_) AllReadyH.nil
    go_simp
    refine hK.out _ _ (trivial) (fun hHeld => ?_)
    clear hK K
    try simp only [Act.put, List.setIfInBounds_toArray, List.set_cons_zero, List.set_cons_succ, List.getElem_toArray, List.getElem_cons_succ, List.getElem_cons_zero]
    refine wpAnyH_take (i := 11) (oi := _) (v := ?_) rfl (by kernel_rfl) (by kernel_rfl) (by kernel_rfl) (fun _ _ _ h => h) (Or.inl ⟨by rfl, ?_⟩) (by assumption) ?_
    rotate_left
    · intro w hSw
      try dsimp only at hSw
      go_simp
      all_goals with_reducible rfl
    try simp only [Act.put, List.setIfInBounds_toArray, List.set_cons_zero, List.set_cons_succ, List.getElem_toArray, List.getElem_cons_succ, List.getElem_cons_zero]
    refine wpAnyH_done (by kernel_rfl) ?_ _
    go_wp2_with fail
    refine bodyPost_ret (v := .tuple #[.slice D xs.length k, .slice E ys.length m, .slice rA rx1.length rc]) (by simp [results, Try.results7, go_sem]) rfl ?_
    exact ⟨D, E, rA, k, m, rc, xs, ys, rx1, rfl, ⟨by omega, cx, rx⟩, ⟨by omega, cy, ry⟩, ⟨by omega, hrow.1, hrow.2⟩, hb⟩
end Go.Proofs.Ytfcgohhmpgffjaa

/- IsOccurrence, program and reference. Written by gen/genpt2.py. -/
namespace Go.Proofs.Ytfcgohhmpgffjaa
set_option maxRecDepth 100000
open Go Go.RowKit

theorem join_facts {n : Nat} {l : List Int} (h : joinTo (n + 1) l l.length = true) : l.Pairwise (· < ·) ∧ (∀ x ∈ l, 1 ≤ x ∧ x ≤ n) ∧ l.length ≤ n := by
  unfold joinTo at h
  rw [List.all_eq_true] at h
  have hat : ∀ j (hj : j < l.length), 1 ≤ l[j] ∧ l[j] ≤ n ∧ (j = 0 ∨ l[j - 1]?.getD 0 < l[j]) := fun j hj => by
    have := h j (List.mem_range.2 hj)
    unfold joinAt at this
    rw [List.getElem?_eq_getElem hj] at this
    simp only [Option.getD_some, decide_eq_true_eq] at this
    omega
  have hp : l.Pairwise (· < ·) := by
    rw [List.pairwise_iff_getElem]
    intro i j hi hj hij
    induction j with
    | zero => omega
    | succ j ih =>
      have h1 := (hat (j + 1) hj).2.2
      rw [Nat.add_sub_cancel, List.getElem?_eq_getElem (show j < l.length by omega)] at h1
      simp only [Option.getD_some] at h1
      by_cases e : i = j
      · subst e; omega
      · have := ih (by omega) (by omega); omega
  have hr : ∀ x ∈ l, 1 ≤ x ∧ x ≤ n := fun x hx => by
    obtain ⟨j, hj, rfl⟩ := List.mem_iff_getElem.1 hx
    have := hat j hj
    exact ⟨this.1, this.2.1⟩
  refine ⟨hp, hr, ?_⟩
  have := nodup_sub_len l (nums n) (by rw [List.nodup_iff_pairwise_ne]; exact hp.imp fun h => by omega) fun x hx => nums_mem.2 (hr x hx)
  rwa [nums_length] at this
theorem iso_join {p q l : List Int} (h : joinTo (p.length + 1) l l.length = false) : isoB p q l = false := by rw [isoB, h]; simp
theorem iso_p {p q l : List Int} (h : permB p = false) : isoB p q l = false := by rw [isoB, h]; rfl
theorem iso_q {p q l : List Int} (h : permB q = false) : isoB p q l = false := by rw [isoB, h]; simp
theorem iso_yes {p q l : List Int} (hp : permB p = true) (hq : permB q = true) (h : joinTo (p.length + 1) l l.length = true) : isoB p q l = decide (patL (atL p l) = q) := by rw [isoB, hp, hq, h]; simp
set_option maxHeartbeats 2000000 in
theorem l7At_any (A D : Option Addr) (c f : Nat) (p l : List Int) (w : World) (hp : In w A c p) (hl : In w D f l) (hm : ∀ x ∈ l, 1 ≤ x ∧ x ≤ p.length) :
    Calls Try.prog 48 #[.slice A p.length c, .slice D l.length f] w (Ret (Value.int .i64) 3 w (atL p l)) := by
  obtain ⟨i0, hi, hz0, hz1, hz2⟩ := info_parts infoI
  have hlp := hp.len
  have hll := hl.len
  go_enter Try.func48, Try.ntmps48
  go_wp2_with fail
  have hown0 : (w.alloc (.cells #[] 3)).ownsRow w.heap.size 3 1 (.slice (some ⟨w.heap.size, 0, none⟩) 0 0) 0 ((atL p (l.take 0)).map (Value.int .i64)) := World.ownsRow_lit w #[] 0 (Nat.le_refl _) (by unfold maxLen; omega) rfl
  have hb0 := (Below.refl w.heap.size w).alloc (Nat.le_refl _) (.cells #[] 3)
  go_loopw [5, 6] (fun v i wr => ∃ (k : Nat) (A1 : Option Addr) (c1 : Nat), k ≤ l.length ∧ i = .int .i64 k ∧ v = .slice A1 k c1 ∧ wr.ownsRow w.heap.size 3 1 (.slice A1 k c1) k ((atL p (l.take k)).map (Value.int .i64)) ∧ Below w.heap.size w wr) (fun _ i _ => l.length - (intOf i).toNat)
  case atStart => exact ⟨0, _, _, Nat.zero_le _, rfl, rfl, hown0, hb0⟩
  case round =>
    clear hown0 hb0
    obtain ⟨k, A1, c1, hk, rfl, rfl, hown, hb⟩ := hrel
    have hsz := hb.size
    rcases Nat.lt_or_ge k l.length with hlt | hge
    · obtain ⟨bl, ol, rfl, _, hcl⟩ := (hl.next hb).rd (by omega)
      have hxl := hm l[k] (List.getElem_mem hlt)
      obtain ⟨ck, hck⟩ : ∃ ck : Nat, (ck : Int) + 1 = l[k] := ⟨(l[k] - 1).toNat, by omega⟩
      have hckp : ck < p.length := by omega
      obtain ⟨bp, op, rfl, _, hcp⟩ := (hp.next hb).rd (by omega)
      have g1 := hcl k hlt
      have g2 := hcp ck hckp
      rw [← hck] at g1
      have HS := Lib.hid (atL_take p l k hlt ck hck hckp)
      have e1 : IntKind.i64.wrap ((ck : Int) + 1 - 1) = (ck : Int) := by rw [Int.add_sub_cancel]; exact IntWalk.i64_in _ (by omega)
      clear hcl hcp hxl hck
      go_wp2_with (at_builtin; refine wpList_append_own _ rfl _ _ 24 rfl (w.heap.size) 3 i0 (.int .i64 0) 1 8 Try.underlying24 hi hz0 hz1 hz2 rfl (by decide) _ _ _ rfl (World.ownsRow.alloc hown _) ⟨wr.heap.size, 0, none⟩ 1 1 [.int .i64 (p[ck])] rfl rfl (cell_one_new _ _ _) (by intro u hu; simp at hu; subst hu; rfl) (by unfold maxLen; omega) (by omega) (by simp; omega) ?_; intro v1 w1 hown1 hgrow1 _)
      have hS2 : w1.ownsRow w.heap.size 3 1 v1 (k + 1) ((atL p (l.take (k + 1))).map (Value.int .i64)) := by rw [HS.out]; simpa using hown1
      have hb1 := (hb.alloc hsz (Obj.cells #[Value.int .i64 p[ck]] 3)).grown hgrow1 (by simp; omega) (by intro g hg; exact ((hown.lt g hg).1))
      obtain ⟨A2, c2, rfl, _, _⟩ := own_shape hS2
      have H1 := Lib.hid hS2
      have H2 := Lib.hid hb1
      clear hS2 hown1 hgrow1 hb1 hown hb
      go_wp2
      go_roundw
      case rel => exact ⟨k + 1, A2, c2, by omega, by go_num, rfl, H1.out, H2.out⟩
      case measure => simp [intOf]; omega
    · obtain rfl : k = l.length := by omega
      rw [List.take_length] at hown
      have HL := Lib.hid (atL_length p l)
      have hcap := own_caps hown
      go_wp2_with fail
      go_ret
      exact ⟨A1, c1, by rw [HL.out]; rfl, by rw [HL.out]; exact hcap.1, hcap.2, by rw [HL.out]; exact hown, hb⟩
set_option maxHeartbeats 2000000 in
theorem isOccurrence_impl (A B D : Option Addr) (c d f : Nat) (p q ys : List Int) (w : World) (hp : In w A c p) (hq : In w B d q) (hl : In w D f ys) :
    Calls Try.prog 15 #[.slice A p.length c, .slice B q.length d, .slice D ys.length f] w (Rb w (.bool (isoB p q ys))) := by
  have hly := hl.len
  rcases two_perms p q with h | h | h
  · have H1 := Lib.hid h.1
    have H2 := Lib.hid h.2
    have hp8 := (permB_true h.1).1
    clear h
    go_enter Try.func15, Try.ntmps15
    go_wp2_with fail
    (with_reducible refine (isPerm_ib A c p w true hp H1.out).mono ?_)
    rintro e w0 ⟨rfl, hb1⟩
    go_wp2_with fail
    (with_reducible refine (isPerm_ib B d q w0 true (hq.next hb1) H2.out).mono ?_)
    rintro e w1 ⟨rfl, hb2⟩
    have hb := hb1.trans (hb2.mono hb1.size)
    have hy := (hl.next hb).rd
    have hr0 := hb.size
    clear hr0
    go_wp2_with fail
    go_loopw [19] (fun i wr => ∃ j : Nat, j ≤ ys.length ∧ i = .int .i64 j ∧ joinTo (p.length + 1) ys j = true ∧ Dr w1 wr) (fun i _ => ys.length - (intOf i).toNat)
    case atStart => exact ⟨0, Nat.zero_le _, rfl, rfl, Dr.refl _⟩
    case round =>
      obtain ⟨j, hj, rfl, hall, hd⟩ := hrel
      have HA := Lib.hid hall
      clear hall
      by_cases hlt : j < ys.length
      · obtain ⟨b, off, rfl, _, hc⟩ := hy (by omega)
        have c1 : wr.cell? ⟨b, off + j, none⟩ = some (.int .i64 ys[j]) := (hd.cell _).trans (hc j hlt)
        have HTA := Lib.hid (show joinAt (p.length + 1) ys j = decide (1 ≤ ys[j] ∧ ys[j] < ((p.length + 1 : Nat) : Int) ∧ (j = 0 ∨ ys[j - 1]?.getD 0 < ys[j])) by unfold joinAt; rw [List.getElem?_eq_getElem hlt]; rfl)
        by_cases h1 : ys[j] < 1
        · have d1 : decide (ys[j] < 1) = true := decide_eq_true h1
          have HT := Lib.hid (show joinAt (p.length + 1) ys j = false by rw [HTA.out, decide_eq_false_iff_not]; omega)
          clear hc h1
          go_wp2
          go_ret
          exact ⟨ret_bool (iso_join (joinTo_false hlt HT.out)).symm, below_dr hb (by first | with_reducible assumption | with_reducible exact hd | with_reducible exact Dr.drewN hd _ | with_reducible exact Dr.drewN (Dr.drewN hd _) _ | with_reducible exact Dr.drew hd)⟩
        · have d1 : decide (ys[j] < 1) = false := decide_eq_false h1
          by_cases h2 : (p.length : Int) < ys[j]
          · have d2 : decide ((p.length : Int) < ys[j]) = true := decide_eq_true h2
            have d2' : decide (ys[j] > (p.length : Int)) = true := decide_eq_true h2
            have HT := Lib.hid (show joinAt (p.length + 1) ys j = false by rw [HTA.out, decide_eq_false_iff_not]; omega)
            clear hc h1 h2
            go_wp2
            go_ret
            exact ⟨ret_bool (iso_join (joinTo_false hlt HT.out)).symm, below_dr hb (by first | with_reducible assumption | with_reducible exact hd | with_reducible exact Dr.drewN hd _ | with_reducible exact Dr.drewN (Dr.drewN hd _) _ | with_reducible exact Dr.drew hd)⟩
          · have d2 : decide ((p.length : Int) < ys[j]) = false := decide_eq_false h2
            have d2' : decide (ys[j] > (p.length : Int)) = false := decide_eq_false h2
            rcases Nat.eq_zero_or_pos j with h0 | h0
            · subst h0
              have HT := Lib.hid (show joinTo (p.length + 1) ys (0 + 1) = true by rw [joinTo_succ, HA.out, HTA.out, Bool.true_and, decide_eq_true_eq]; omega)
              have c1' : wr.cell? ⟨b, off, none⟩ = some (.int .i64 ys[0]) := c1
              clear hc h1 h2
              go_wp2
              go_roundw
              case rel => exact ⟨1, by omega, rfl, HT.out, (by first | with_reducible assumption | with_reducible exact hd | with_reducible exact Dr.drewN hd _ | with_reducible exact Dr.drewN (Dr.drewN hd _) _ | with_reducible exact Dr.drew hd)⟩
              case measure => simp [intOf]; omega
            · have c2 : wr.cell? ⟨b, off + (j - 1), none⟩ = some (.int .i64 (ys[j - 1]'(by omega))) := (hd.cell _).trans (hc (j - 1) (by omega))
              have e1 : IntKind.i64.wrap ((j : Int) - 1) = (j : Int) - 1 := IntWalk.i64_in _ (by omega)
              have e2 : ((j : Int) - 1).toNat = j - 1 := by omega
              have e3 : 0 ≤ (j : Int) - 1 := by omega
              have e4 : (j : Int) - 1 < (ys.length : Int) := by omega
              have e5 : 1 ≤ (j : Int) := by omega
              have e6 : (j : Int) ≤ (ys.length : Int) := by omega
              have d0 : decide ((j : Int) > 0) = true := decide_eq_true (by omega)
              have d0' : decide (0 < (j : Int)) = true := decide_eq_true (by omega)
              have HJ := Lib.hid (show ys[j - 1]?.getD 0 = ys[j - 1]'(by omega) by rw [List.getElem?_eq_getElem (by omega)]; rfl)
              by_cases h3 : ys[j] ≤ (ys[j - 1]'(by omega))
              · have d3 : decide (ys[j] ≤ (ys[j - 1]'(by omega))) = true := decide_eq_true h3
                have d3' : decide ((ys[j - 1]'(by omega)) ≥ ys[j]) = true := decide_eq_true h3
                have HT := Lib.hid (show joinAt (p.length + 1) ys j = false by rw [HTA.out, HJ.out, decide_eq_false_iff_not]; omega)
                clear hc h1 h2 h3
                go_wp2
                go_ret
                exact ⟨ret_bool (iso_join (joinTo_false hlt HT.out)).symm, below_dr hb (by first | with_reducible assumption | with_reducible exact hd | with_reducible exact Dr.drewN hd _ | with_reducible exact Dr.drewN (Dr.drewN hd _) _ | with_reducible exact Dr.drew hd)⟩
              · have d3 : decide (ys[j] ≤ (ys[j - 1]'(by omega))) = false := decide_eq_false h3
                have d3' : decide ((ys[j - 1]'(by omega)) ≥ ys[j]) = false := decide_eq_false h3
                have HT := Lib.hid (show joinTo (p.length + 1) ys (j + 1) = true by rw [joinTo_succ, HA.out, HTA.out, HJ.out, Bool.true_and, decide_eq_true_eq]; omega)
                clear hc h1 h2 h3
                go_wp2
                go_roundw
                case rel => exact ⟨j + 1, by omega, by go_num, HT.out, (by first | with_reducible assumption | with_reducible exact hd | with_reducible exact Dr.drewN hd _ | with_reducible exact Dr.drewN (Dr.drewN hd _) _ | with_reducible exact Dr.drew hd)⟩
                case measure => simp [intOf]; omega
      · have HE := Lib.hid (show joinTo (p.length + 1) ys ys.length = true by rw [show ys.length = j by omega]; exact HA.out)
        obtain ⟨_, hrg, hln⟩ := join_facts HE.out
        have hbr := below_dr hb hd
        have HC := Lib.hid (isOcc_impl A B D c d f p q ys wr (hp.next hbr) (hq.next hbr) (hl.next hbr) (by omega) hrg)
        clear hln hrg
        go_wp2_with fail
        (with_reducible refine HC.out.mono ?_)
        rintro e w3 ⟨rfl, hb3⟩
        go_wp2_with fail
        go_ret
        exact ⟨ret_bool (iso_yes H1.out H2.out HE.out).symm, hbr.trans (hb3.mono hbr.size)⟩
  · have H1 := Lib.hid h.1
    have H2 := Lib.hid h.2
    have HG := Lib.hid (iso_q (p := p) (l := ys) h.2)
    clear h
    go_enter Try.func15, Try.ntmps15
    go_wp2_with fail
    (with_reducible refine (isPerm_ib A c p w true hp H1.out).mono ?_)
    rintro e w1 ⟨rfl, hb1⟩
    go_wp2_with fail
    (with_reducible refine (isPerm_ib B d q w1 false (hq.next hb1) H2.out).mono ?_)
    rintro e w2 ⟨rfl, hb2⟩
    go_wp2_with fail
    go_ret
    exact ⟨ret_bool HG.out.symm, hb1.trans (hb2.mono hb1.size)⟩
  · have H1 := Lib.hid h
    have HG := Lib.hid (iso_p (q := q) (l := ys) h)
    clear h
    go_enter Try.func15, Try.ntmps15
    go_wp2_with fail
    (with_reducible refine (isPerm_ib A c p w false hp H1.out).mono ?_)
    rintro e w1 ⟨rfl, hb1⟩
    go_wp2_with fail
    go_ret
    exact ⟨ret_bool HG.out.symm, hb1⟩
theorem iso_len {p q l : List Int} (h : l.length ≠ q.length) : isoB p q l = false := by
  rw [isoB, show decide (patL (atL p l) = q) = false from decide_eq_false fun e => h (by rw [← e, patL_length, atL_length])]
  simp
set_option maxHeartbeats 2000000 in
theorem isOccurrence_spec (A B D : Option Addr) (c d f : Nat) (p q ys : List Int) (w : World) (hp : In w A c p) (hq : In w B d q) (hl : In w D f ys) :
    Calls Try.prog 16 #[.slice A p.length c, .slice B q.length d, .slice D ys.length f] w (Rb w (.bool (isoB p q ys))) := by
  have hly := hl.len
  rcases two_perms p q with h | h | h
  · have H1 := Lib.hid h.1
    have H2 := Lib.hid h.2
    have hp8 := (permB_true h.1).1
    clear h
    by_cases hll : ys.length = q.length
    · have hne : ((ys.length : Int) != (q.length : Int)) = false := by simp [hll]
      have HLL := Lib.hid hll
      clear hll
      go_enter Try.func16, Try.ntmps16
      go_wp2_with fail
      (with_reducible refine (isPerm_sb A c p w true hp H1.out).mono ?_)
      rintro e w0 ⟨rfl, hd1⟩
      go_wp2_with fail
      (with_reducible refine (isPerm_sb B d q w0 true (hq.dr hd1) H2.out).mono ?_)
      rintro e w1 ⟨rfl, hd2⟩
      have hb := below_dr (Below.refl w.heap.size w) (hd1.trans hd2)
      have hy := (hl.next hb).rd
      clear hd1 hd2
      go_wp2_with fail
      go_loopw [7] (fun i wr => ∃ j : Nat, j ≤ ys.length ∧ i = .int .i64 j ∧ joinTo (p.length + 1) ys j = true ∧ Dr w1 wr) (fun i _ => ys.length - (intOf i).toNat)
      case atStart => exact ⟨0, Nat.zero_le _, rfl, rfl, Dr.refl _⟩
      case round =>
        obtain ⟨j, hj, rfl, hall, hd⟩ := hrel
        have HA := Lib.hid hall
        clear hall
        by_cases hlt : j < ys.length
        · obtain ⟨b, off, rfl, _, hc⟩ := hy (by omega)
          have c1 : wr.cell? ⟨b, off + j, none⟩ = some (.int .i64 ys[j]) := (hd.cell _).trans (hc j hlt)
          have HTA := Lib.hid (show joinAt (p.length + 1) ys j = decide (1 ≤ ys[j] ∧ ys[j] < ((p.length + 1 : Nat) : Int) ∧ (j = 0 ∨ ys[j - 1]?.getD 0 < ys[j])) by unfold joinAt; rw [List.getElem?_eq_getElem hlt]; rfl)
          by_cases h1 : 1 ≤ ys[j] ∧ ys[j] ≤ (p.length : Int)
          · have d1 : decide (1 ≤ ys[j] ∧ ys[j] ≤ (p.length : Int)) = true := decide_eq_true h1
            rcases Nat.eq_zero_or_pos j with h0 | h0
            · subst h0
              have HT := Lib.hid (show joinTo (p.length + 1) ys (0 + 1) = true by rw [joinTo_succ, HA.out, HTA.out, Bool.true_and, decide_eq_true_eq]; omega)
              have c1' : wr.cell? ⟨b, off, none⟩ = some (.int .i64 ys[0]) := c1
              clear hc h1
              go_wp2
              go_quiet ((go_at_call 42; exact quiet_eq (l1In_b _ _ _ _ true d1)))
              go_wp2
              go_roundw
              case rel => exact ⟨1, by omega, rfl, HT.out, (by first | with_reducible assumption | with_reducible exact hd | with_reducible exact Dr.drewN hd _ | with_reducible exact Dr.drewN (Dr.drewN hd _) _ | with_reducible exact Dr.drew hd)⟩
              case measure => simp [intOf]; omega
            · have c2 : wr.cell? ⟨b, off + (j - 1), none⟩ = some (.int .i64 (ys[j - 1]'(by omega))) := (hd.cell _).trans (hc (j - 1) (by omega))
              have e1 : IntKind.i64.wrap ((j : Int) - 1) = (j : Int) - 1 := IntWalk.i64_in _ (by omega)
              have e2 : ((j : Int) - 1).toNat = j - 1 := by omega
              have e3 : 0 ≤ (j : Int) - 1 := by omega
              have e4 : (j : Int) - 1 < (ys.length : Int) := by omega
              have e5 : 1 ≤ (j : Int) := by omega
              have e6 : (j : Int) ≤ (ys.length : Int) := by omega
              have d0 : decide ((j : Int) > 0) = true := decide_eq_true (by omega)
              have d0' : decide (0 < (j : Int)) = true := decide_eq_true (by omega)
              have HJ := Lib.hid (show ys[j - 1]?.getD 0 = ys[j - 1]'(by omega) by rw [List.getElem?_eq_getElem (by omega)]; rfl)
              by_cases h3 : ys[j] ≤ (ys[j - 1]'(by omega))
              · have d3 : decide (ys[j] ≤ (ys[j - 1]'(by omega))) = true := decide_eq_true h3
                have HT := Lib.hid (show joinAt (p.length + 1) ys j = false by rw [HTA.out, HJ.out, decide_eq_false_iff_not]; omega)
                clear hc h1 h3
                go_wp2
                go_quiet ((go_at_call 42; exact quiet_eq (l1In_b _ _ _ _ true d1)))
                go_wp2
                go_ret
                exact ⟨ret_bool (iso_join (joinTo_false hlt HT.out)).symm, below_dr hb (by first | with_reducible assumption | with_reducible exact hd | with_reducible exact Dr.drewN hd _ | with_reducible exact Dr.drewN (Dr.drewN hd _) _ | with_reducible exact Dr.drew hd)⟩
              · have d3 : decide (ys[j] ≤ (ys[j - 1]'(by omega))) = false := decide_eq_false h3
                have HT := Lib.hid (show joinTo (p.length + 1) ys (j + 1) = true by rw [joinTo_succ, HA.out, HTA.out, HJ.out, Bool.true_and, decide_eq_true_eq]; omega)
                clear hc h1 h3
                go_wp2
                go_quiet ((go_at_call 42; exact quiet_eq (l1In_b _ _ _ _ true d1)))
                go_wp2
                go_roundw
                case rel => exact ⟨j + 1, by omega, by go_num, HT.out, (by first | with_reducible assumption | with_reducible exact hd | with_reducible exact Dr.drewN hd _ | with_reducible exact Dr.drewN (Dr.drewN hd _) _ | with_reducible exact Dr.drew hd)⟩
                case measure => simp [intOf]; omega
          · have d1 : decide (1 ≤ ys[j] ∧ ys[j] ≤ (p.length : Int)) = false := decide_eq_false h1
            have HT := Lib.hid (show joinAt (p.length + 1) ys j = false by rw [HTA.out, decide_eq_false_iff_not]; omega)
            clear hc h1
            go_wp2
            go_quiet ((go_at_call 42; exact quiet_eq (l1In_b _ _ _ _ false d1)))
            go_wp2
            go_ret
            exact ⟨ret_bool (iso_join (joinTo_false hlt HT.out)).symm, below_dr hb (by first | with_reducible assumption | with_reducible exact hd | with_reducible exact Dr.drewN hd _ | with_reducible exact Dr.drewN (Dr.drewN hd _) _ | with_reducible exact Dr.drew hd)⟩
        · have HE := Lib.hid (show joinTo (p.length + 1) ys ys.length = true by rw [show ys.length = j by omega]; exact HA.out)
          obtain ⟨_, hrg, hln⟩ := join_facts HE.out
          have hbr := below_dr hb hd
          have HC := Lib.hid (l7At_any A D c f p ys wr (hp.next hbr) (hl.next hbr) hrg)
          have HL8 := Lib.hid (atL_length p ys)
          clear hrg
          go_wp2_with fail
          (with_reducible refine HC.out.mono ?_)
          rintro e w3 ⟨U, uk, rfl, _, _, ho, hb3⟩
          have hbr3 := hbr.trans (hb3.mono hbr.size)
          have HC := Lib.hid (pattern_spec U uk (atL p ys).length (atL p ys) w3 rfl (by rw [HL8.out]; omega) (Rd.of_own ho))
          go_wp2_with fail
          (with_reducible refine HC.out.mono ?_)
          rintro e w4 ⟨V, vk, rfl, _, _, ho4, hb4⟩
          have hbr4 := hbr3.trans (hb4.mono hbr3.size)
          have HC := Lib.hid (l2Same_b V B vk d _ _ (patL (atL p ys)) q w4 _ rfl rfl (by rw [patL_length, HL8.out]; omega) (Rd.of_own ho4) (hq.next hbr4).rd rfl)
          go_wp2_with fail
          (with_reducible refine HC.out.mono ?_)
          rintro e w5 ⟨rfl, hd5⟩
          go_wp2_with fail
          go_ret
          exact ⟨ret_bool (iso_yes H1.out H2.out HE.out).symm, below_dr hbr4 hd5⟩
    · have hne : ((ys.length : Int) != (q.length : Int)) = true := by simp; omega
      have HG := Lib.hid (iso_len (p := p) hll)
      clear hll
      go_enter Try.func16, Try.ntmps16
      go_wp2_with fail
      (with_reducible refine (isPerm_sb A c p w true hp H1.out).mono ?_)
      rintro e w0 ⟨rfl, hd1⟩
      go_wp2_with fail
      (with_reducible refine (isPerm_sb B d q w0 true (hq.dr hd1) H2.out).mono ?_)
      rintro e w1 ⟨rfl, hd2⟩
      go_wp2_with fail
      go_ret
      exact ⟨ret_bool HG.out.symm, below_dr (Below.refl w.heap.size w) (hd1.trans hd2)⟩
  · have H1 := Lib.hid h.1
    have H2 := Lib.hid h.2
    have HG := Lib.hid (iso_q (p := p) (l := ys) h.2)
    clear h
    go_enter Try.func16, Try.ntmps16
    go_wp2_with fail
    (with_reducible refine (isPerm_sb A c p w true hp H1.out).mono ?_)
    rintro e w1 ⟨rfl, hd1⟩
    go_wp2_with fail
    (with_reducible refine (isPerm_sb B d q w1 false (hq.dr hd1) H2.out).mono ?_)
    rintro e w2 ⟨rfl, hd2⟩
    go_wp2_with fail
    go_ret
    exact ⟨ret_bool HG.out.symm, below_dr (Below.refl w.heap.size w) (hd1.trans hd2)⟩
  · have H1 := Lib.hid h
    have HG := Lib.hid (iso_p (q := q) (l := ys) h)
    clear h
    go_enter Try.func16, Try.ntmps16
    go_wp2_with fail
    (with_reducible refine (isPerm_sb A c p w false hp H1.out).mono ?_)
    rintro e w1 ⟨rfl, hd1⟩
    go_wp2_with fail
    go_ret
    exact ⟨ret_bool HG.out.symm, below_dr (Below.refl w.heap.size w) hd1⟩
end Go.Proofs.Ytfcgohhmpgffjaa
