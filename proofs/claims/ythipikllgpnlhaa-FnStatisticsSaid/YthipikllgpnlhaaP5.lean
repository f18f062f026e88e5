/- Contracts of CountCycles, program and reference. -/
import Derived.Test.YthipikllgpnlhaaP3
namespace Go.Proofs.Ythipikllgpnlhaa
set_option maxRecDepth 100000
open Go Go.RowKit

/-- The places on from k, each marked, till a marked one. -/
def walkC (xs : List Int) : Nat → List Bool → Nat → List Bool
  | 0, s, _ => s
  | f + 1, s, k => if s[k]?.getD true = true then s else walkC xs f (s.set k true) ((xs[k]?.getD 0) - 1).toNat
/-- Marks and count after k places. -/
def cycTo (xs : List Int) : Nat → List Bool × Nat
  | 0 => (List.replicate xs.length false, 0)
  | k + 1 => (walkC xs xs.length (cycTo xs k).1 k, if (cycTo xs k).1[k]?.getD true = true then (cycTo xs k).2 else (cycTo xs k).2 + 1)
def cycG (xs : List Int) : Int := if permB xs = true then ((cycTo xs xs.length).2 : Int) else -1
theorem walkC_length (xs : List Int) (f : Nat) (s : List Bool) (k : Nat) : (walkC xs f s k).length = s.length := by
  induction f generalizing s k with
  | zero => rfl
  | succ f ih => unfold walkC; split <;> simp [ih]
theorem cycTo_length (xs : List Int) (k : Nat) : (cycTo xs k).1.length = xs.length := by
  induction k with
  | zero => simp [cycTo]
  | succ k ih => rw [cycTo, walkC_length, ih]
theorem cycTo_le (xs : List Int) (k : Nat) : (cycTo xs k).2 ≤ k := by
  induction k with
  | zero => exact Nat.le_refl _
  | succ k ih => rw [cycTo]; dsimp only; split <;> omega
/-- How many are not marked. -/
def freeC (s : List Bool) : Nat := (s.filter fun b => !b).length
theorem freeC_le (s : List Bool) : freeC s ≤ s.length := List.length_filter_le _ _
theorem freeC_set (s : List Bool) (k : Nat) (h : k < s.length) (hk : s[k] = false) : freeC s = freeC (s.set k true) + 1 := by
  unfold freeC
  induction s generalizing k with
  | nil => simp at h
  | cons b s ih =>
    cases k with
    | zero => simp at hk; subst hk; simp
    | succ k =>
      simp only [List.set_cons_succ, List.filter_cons]
      have := ih k (by simpa using h) (by simpa using hk)
      cases b <;> simp_all
theorem walkC_stop (xs : List Int) (f : Nat) (s : List Bool) (k : Nat) (h : k < s.length) (hk : s[k] = true) : walkC xs f s k = s := by
  cases f with
  | zero => rfl
  | succ f => unfold walkC; rw [if_pos (by rw [List.getElem?_eq_getElem h]; exact hk)]
theorem walkC_go (xs : List Int) (f : Nat) (s : List Bool) (k : Nat) (h : k < s.length) (hx : k < xs.length) (hk : s[k] = false) : walkC xs (f + 1) s k = walkC xs f (s.set k true) (xs[k] - 1).toNat := by
  conv => lhs; unfold walkC
  rw [if_neg (by rw [List.getElem?_eq_getElem h]; simp [hk]), List.getElem?_eq_getElem hx]
  rfl
theorem infoB2 : (Try.prog.info? 4).map (fun i => (i.zero, i.size, i.bytes)) = some (some (.bool false), 1, 1) := by kernel_rfl

set_option maxHeartbeats 1600000 in
theorem cycles_impl (A : Option Addr) (c : Nat) (xs : List Int) (w : World) (h : In w A c xs) :
    Calls Try.prog 43 #[.slice A xs.length c] w (Rb w (.int .i64 (cycG xs))) := by
  obtain ⟨i0, hi, hz0, hz1, hz2⟩ := info_parts infoB2
  by_cases hp : permB xs = true
  · have HG := Lib.hid (show cycG xs = ((cycTo xs xs.length).2 : Int) by rw [cycG, if_pos hp])
    obtain ⟨h8, hrange, _⟩ := permB_true hp
    have HR := Lib.hid hrange
    go_enter Try.func43, Try.ntmps43
    go_wp2_with fail
    refine (isPerm_impl _ _ _ _ h).mono ?_
    rintro e w1 ⟨rfl, hb1⟩
    skip
    rw [hp]
    clear hp hrange
    have hx := (h.next hb1).rd
    have hsz1 := hb1.size
    obtain ⟨wa, rfl⟩ : ∃ wa : World, wa = w1 := ⟨_, rfl⟩
    go_wp2_with (at_make; refine wpList_make_full _ rfl _ _ 79 rfl (w.heap.size) 4 i0 (.bool false) 1 Try.underlying79 hi hz0 hz1 .i64 .i64 _ _ (xs.length) rfl rfl (by omega) (by omega) (by rw [hz2]; omega) (by unfold maxLen; omega) (by omega) ?_; intro w1 hown1 hgrow1)
    have hown := made_falses hown1
    have hbo := below_none hgrow1
    clear hown1 hgrow1
    go_wp2
    go_loopw [4, 15] (fun n i wr => ∃ k : Nat, k ≤ xs.length ∧ i = .int .i64 k ∧ n = .int .i64 ((cycTo xs k).2 : Int) ∧ wr.ownsRow w.heap.size 4 1 (.slice (some ⟨wa.heap.size, 0, none⟩) xs.length xs.length) xs.length (((cycTo xs k).1).map Value.bool) ∧ Below wa.heap.size wa wr) (fun _ i _ => xs.length - (intOf i).toNat)
    case atStart => exact ⟨0, Nat.zero_le _, rfl, rfl, hown, hbo⟩
    case round =>
      clear hown hbo
      obtain ⟨k, hk, rfl, rfl, hown, hbo⟩ := hrel
      have hcl := cycTo_le xs k
      rcases Nat.lt_or_ge k xs.length with hlt | hge
      · have hlen := cycTo_length xs k
        have HC1 := Lib.hid (show (cycTo xs (k + 1)).1 = walkC xs xs.length (cycTo xs k).1 k from rfl)
        have HC2 := Lib.hid (show (cycTo xs (k + 1)).2 = if (cycTo xs k).1[k]?.getD true = true then (cycTo xs k).2 else (cycTo xs k).2 + 1 from rfl)
        obtain ⟨S, hS⟩ : ∃ S, S = (cycTo xs k).1 := ⟨_, rfl⟩
        obtain ⟨N, hN⟩ : ∃ N, N = (cycTo xs k).2 := ⟨_, rfl⟩
        rw [← hS] at hown hlen HC1 HC2
        rw [← hN] at hcl HC2 ⊢
        clear hS hN
        have hkS : k < S.length := by omega
        have p1 := (own_putB hown k hkS true).1
        by_cases hsk : S[k] = true
        · rw [hsk] at p1
          have HCa := Lib.hid (show (cycTo xs (k + 1)).1 = S by rw [HC1.out, walkC_stop xs _ S k hkS hsk])
          have HCb := Lib.hid (show (cycTo xs (k + 1)).2 = N by rw [HC2.out, List.getElem?_eq_getElem hkS, hsk]; rfl)
          clear hsk hkS
          go_wp2
          refine wp_loop_rounds 1 ?_; rw [rounds_succ]; go_wp2
          go_roundw
          case rel => exact ⟨k + 1, by omega, by go_num, by rw [HCb.out], by rw [HCa.out]; exact hown, hbo⟩
          case measure => simp [intOf]; omega
        · have hskf : S[k] = false := by simpa using hsk
          rw [hskf] at p1
          have HCb := Lib.hid (show (cycTo xs (k + 1)).2 = N + 1 by rw [HC2.out, List.getElem?_eq_getElem hkS, hskf]; rfl)
          clear hsk hskf hkS
          go_wp2
          clear p1
          go_loopg [6] xs.length (fun f q wr => ∃ (q' : Nat) (S' : List Bool), q = .int .i64 q' ∧ q' < xs.length ∧ S'.length = xs.length ∧ freeC S' ≤ f ∧ walkC xs f S' q' = (cycTo xs (k + 1)).1 ∧ wr.ownsRow w.heap.size 4 1 (.slice (some ⟨wa.heap.size, 0, none⟩) xs.length xs.length) xs.length (S'.map Value.bool) ∧ Below wa.heap.size wa wr)
          case atStart => exact ⟨k, S, rfl, hlt, hlen, by rw [← hlen]; exact freeC_le S, by rw [HC1.out], hown, hbo⟩
          case round =>
            clear hown hbo hlen
            obtain ⟨q', S', rfl, hq, hlen, hfr, hw, hown, hbo⟩ := hrel
            have HW := Lib.hid hw
            have HL := Lib.hid hlen
            have hqS : q' < S'.length := by omega
            obtain ⟨p1, p2, p3⟩ := own_putB hown q' hqS true
            clear hw hlen
            by_cases hsq : S'[q'] = true
            · rw [hsq] at p1
              have HCa := Lib.hid (show (cycTo xs (k + 1)).1 = S' by rw [← HW.out, walkC_stop xs _ S' q' hqS hsq])
              clear hsq hqS p2 p3
              go_wp2
              go_roundw
              case rel => exact ⟨k + 1, by omega, by go_num, by rw [HCb.out]; go_num, by rw [HCa.out]; exact hown, hbo⟩
              case measure => simp [intOf]; omega
            · have hsf : S'[q'] = false := by simpa using hsq
              have hfs := freeC_set S' q' hqS hsf
              obtain ⟨g', rfl⟩ : ∃ g', gk = g' + 1 := ⟨gk - 1, by omega⟩
              have HW2 := Lib.hid (show walkC xs g' (S'.set q' true) (xs[q'] - 1).toNat = (cycTo xs (k + 1)).1 by rw [← HW.out, walkC_go xs g' S' q' hqS hq hsf])
              have HF2 := Lib.hid (show freeC (S'.set q' true) ≤ g' by omega)
              have HL2 := Lib.hid (show (S'.set q' true).length = xs.length by rw [List.length_set]; exact HL.out)
              obtain ⟨r1, r2⟩ := HR.out _ (List.getElem_mem hq)
              obtain ⟨b, off, rfl, hbb, hc⟩ := hx (by omega)
              have cq := ((hbo.setCell (p := ⟨wa.heap.size, q', none⟩) (Nat.le_refl _) (.bool true)).cell (p := ⟨b, off + q', none⟩) hbb).trans (hc q' hq)
              obtain ⟨v, hv⟩ := Int.eq_ofNat_of_zero_le (show 0 ≤ xs[q'] - 1 by omega)
              have hvx : xs[q'] = (v : Int) + 1 := by omega
              rw [hvx] at cq
              have HV := Lib.hid (show (xs[q'] - 1).toNat = v by omega)
              have hv1 : v < xs.length := by omega
              have hbo2 := Lib.hid (hbo.setCell (p := ⟨wa.heap.size, q', none⟩) (Nat.le_refl _) (.bool true))
              have P3 := Lib.hid p3
              rw [hsf] at p1
              clear hsq hsf hfs hc r1 r2 hv hvx p3 hown hbo hqS
              go_wp2
              go_roundg g'
              case rel => exact ⟨v, S'.set q' true, by go_num, hv1, HL2.out, HF2.out, by rw [← HV.out]; exact HW2.out, P3.out, hbo2.out⟩
              case measure => omega
      · obtain rfl : k = xs.length := by omega
        go_wp2
        go_ret
        exact ⟨ret_int HG.out.symm, hb1.trans (hbo.mono hsz1)⟩
  · have hpf : permB xs = false := by simpa using hp
    have HG := Lib.hid (show cycG xs = -1 by rw [cycG, if_neg hp])
    go_enter Try.func43, Try.ntmps43
    go_wp2_with fail
    refine (isPerm_impl _ _ _ _ h).mono ?_
    rintro e w1 ⟨rfl, hb1⟩
    rw [hpf]
    clear hp hpf
    go_wp2_with fail
    go_ret
    exact ⟨ret_int HG.out.symm, hb1⟩

set_option maxHeartbeats 1600000 in
theorem cycles_spec (A : Option Addr) (c : Nat) (xs : List Int) (w : World) (h : In w A c xs) :
    Calls Try.prog 44 #[.slice A xs.length c] w (Rb w (.int .i64 (cycG xs))) := by
  obtain ⟨i0, hi, hz0, hz1, hz2⟩ := info_parts infoB2
  by_cases hp : permB xs = true
  · have HG := Lib.hid (show cycG xs = ((cycTo xs xs.length).2 : Int) by rw [cycG, if_pos hp])
    obtain ⟨h8, hrange, _⟩ := permB_true hp
    have HR := Lib.hid hrange
    go_enter Try.func44, Try.ntmps44
    go_wp2_with fail
    refine (isPerm_spec _ _ _ _ h).mono ?_
    rintro e w1 ⟨rfl, hd1⟩
    have hb1 := below_dr (Below.refl w.heap.size w) hd1
    rw [hp]
    clear hp hrange
    have hx := (h.next hb1).rd
    have hsz1 := hb1.size
    obtain ⟨wa, rfl⟩ : ∃ wa : World, wa = w1 := ⟨_, rfl⟩
    go_wp2_with (at_make; refine wpList_make_full _ rfl _ _ 79 rfl (w.heap.size) 4 i0 (.bool false) 1 Try.underlying79 hi hz0 hz1 .i64 .i64 _ _ (xs.length) rfl rfl (by omega) (by omega) (by rw [hz2]; omega) (by unfold maxLen; omega) (by omega) ?_; intro w1 hown1 hgrow1)
    have hown := made_falses hown1
    have hbo := below_none hgrow1
    clear hown1 hgrow1
    go_wp2
    go_loopw [3, 5] (fun n i wr => ∃ k : Nat, k ≤ xs.length ∧ i = .int .i64 k ∧ n = .int .i64 ((cycTo xs k).2 : Int) ∧ wr.ownsRow w.heap.size 4 1 (.slice (some ⟨wa.heap.size, 0, none⟩) xs.length xs.length) xs.length (((cycTo xs k).1).map Value.bool) ∧ Below wa.heap.size wa wr) (fun _ i _ => xs.length - (intOf i).toNat)
    case atStart => exact ⟨0, Nat.zero_le _, rfl, rfl, hown, hbo⟩
    case round =>
      clear hown hbo
      obtain ⟨k, hk, rfl, rfl, hown, hbo⟩ := hrel
      have hcl := cycTo_le xs k
      rcases Nat.lt_or_ge k xs.length with hlt | hge
      · have hlen := cycTo_length xs k
        have HC1 := Lib.hid (show (cycTo xs (k + 1)).1 = walkC xs xs.length (cycTo xs k).1 k from rfl)
        have HC2 := Lib.hid (show (cycTo xs (k + 1)).2 = if (cycTo xs k).1[k]?.getD true = true then (cycTo xs k).2 else (cycTo xs k).2 + 1 from rfl)
        obtain ⟨S, hS⟩ : ∃ S, S = (cycTo xs k).1 := ⟨_, rfl⟩
        obtain ⟨N, hN⟩ : ∃ N, N = (cycTo xs k).2 := ⟨_, rfl⟩
        rw [← hS] at hown hlen HC1 HC2
        rw [← hN] at hcl HC2 ⊢
        clear hS hN
        have hkS : k < S.length := by omega
        have p1 := (own_putB hown k hkS true).1
        by_cases hsk : S[k] = true
        · rw [hsk] at p1
          have HCa := Lib.hid (show (cycTo xs (k + 1)).1 = S by rw [HC1.out, walkC_stop xs _ S k hkS hsk])
          have HCb := Lib.hid (show (cycTo xs (k + 1)).2 = N by rw [HC2.out, List.getElem?_eq_getElem hkS, hsk]; rfl)
          clear hsk hkS
          go_wp2
          skip
          go_roundw
          case rel => exact ⟨k + 1, by omega, by go_num, by rw [HCb.out], by rw [HCa.out]; exact hown, hbo⟩
          case measure => simp [intOf]; omega
        · have hskf : S[k] = false := by simpa using hsk
          rw [hskf] at p1
          have HCb := Lib.hid (show (cycTo xs (k + 1)).2 = N + 1 by rw [HC2.out, List.getElem?_eq_getElem hkS, hskf]; rfl)
          clear hsk hskf hkS
          go_wp2
          clear p1
          go_loopg [6] xs.length (fun f q wr => ∃ (q' : Nat) (S' : List Bool), q = .int .i64 q' ∧ q' < xs.length ∧ S'.length = xs.length ∧ freeC S' ≤ f ∧ walkC xs f S' q' = (cycTo xs (k + 1)).1 ∧ wr.ownsRow w.heap.size 4 1 (.slice (some ⟨wa.heap.size, 0, none⟩) xs.length xs.length) xs.length (S'.map Value.bool) ∧ Below wa.heap.size wa wr)
          case atStart => exact ⟨k, S, rfl, hlt, hlen, by rw [← hlen]; exact freeC_le S, by rw [HC1.out], hown, hbo⟩
          case round =>
            clear hown hbo hlen
            obtain ⟨q', S', rfl, hq, hlen, hfr, hw, hown, hbo⟩ := hrel
            have HW := Lib.hid hw
            have HL := Lib.hid hlen
            have hqS : q' < S'.length := by omega
            obtain ⟨p1, p2, p3⟩ := own_putB hown q' hqS true
            clear hw hlen
            by_cases hsq : S'[q'] = true
            · rw [hsq] at p1
              have HCa := Lib.hid (show (cycTo xs (k + 1)).1 = S' by rw [← HW.out, walkC_stop xs _ S' q' hqS hsq])
              clear hsq hqS p2 p3
              go_wp2
              go_roundw
              case rel => exact ⟨k + 1, by omega, by go_num, by rw [HCb.out]; go_num, by rw [HCa.out]; exact hown, hbo⟩
              case measure => simp [intOf]; omega
            · have hsf : S'[q'] = false := by simpa using hsq
              have hfs := freeC_set S' q' hqS hsf
              obtain ⟨g', rfl⟩ : ∃ g', gk = g' + 1 := ⟨gk - 1, by omega⟩
              have HW2 := Lib.hid (show walkC xs g' (S'.set q' true) (xs[q'] - 1).toNat = (cycTo xs (k + 1)).1 by rw [← HW.out, walkC_go xs g' S' q' hqS hq hsf])
              have HF2 := Lib.hid (show freeC (S'.set q' true) ≤ g' by omega)
              have HL2 := Lib.hid (show (S'.set q' true).length = xs.length by rw [List.length_set]; exact HL.out)
              obtain ⟨r1, r2⟩ := HR.out _ (List.getElem_mem hq)
              obtain ⟨b, off, rfl, hbb, hc⟩ := hx (by omega)
              have cq := ((hbo.setCell (p := ⟨wa.heap.size, q', none⟩) (Nat.le_refl _) (.bool true)).cell (p := ⟨b, off + q', none⟩) hbb).trans (hc q' hq)
              obtain ⟨v, hv⟩ := Int.eq_ofNat_of_zero_le (show 0 ≤ xs[q'] - 1 by omega)
              have hvx : xs[q'] = (v : Int) + 1 := by omega
              rw [hvx] at cq
              have HV := Lib.hid (show (xs[q'] - 1).toNat = v by omega)
              have hv1 : v < xs.length := by omega
              have hbo2 := Lib.hid (hbo.setCell (p := ⟨wa.heap.size, q', none⟩) (Nat.le_refl _) (.bool true))
              have P3 := Lib.hid p3
              rw [hsf] at p1
              clear hsq hsf hfs hc r1 r2 hv hvx p3 hown hbo hqS
              go_wp2
              go_roundg g'
              case rel => exact ⟨v, S'.set q' true, by go_num, hv1, HL2.out, HF2.out, by rw [← HV.out]; exact HW2.out, P3.out, hbo2.out⟩
              case measure => omega
      · obtain rfl : k = xs.length := by omega
        go_wp2
        go_ret
        exact ⟨ret_int HG.out.symm, hb1.trans (hbo.mono hsz1)⟩
  · have hpf : permB xs = false := by simpa using hp
    have HG := Lib.hid (show cycG xs = -1 by rw [cycG, if_neg hp])
    go_enter Try.func44, Try.ntmps44
    go_wp2_with fail
    refine (isPerm_spec _ _ _ _ h).mono ?_
    rintro e w1 ⟨rfl, hd1⟩
    rw [hpf]
    clear hp hpf
    go_wp2_with fail
    go_ret
    exact ⟨ret_int HG.out.symm, below_dr (Below.refl _ _) hd1⟩

end Go.Proofs.Ythipikllgpnlhaa