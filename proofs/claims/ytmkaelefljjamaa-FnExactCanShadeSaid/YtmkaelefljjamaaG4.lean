/- The program's occurrences: all ascending places, those that have the pattern. -/
import Derived.Test.YtmkaelefljjamaaH3
namespace Go.Proofs.Ytmkaelefljjamaa
set_option maxRecDepth 100000
open Go Go.RowKit

theorem pow_eight {n i : Nat} (hn : n ≤ 8) (hi : i ≤ 8) : n ^ i ≤ 16777216 := by
  have h1 : n ^ i ≤ 8 ^ i := Nat.pow_le_pow_left hn i
  have h2 : 8 ^ i ≤ 8 ^ 8 := Nat.pow_le_pow_right (by omega) hi
  omega
def ascTo (l : List Int) (u : Nat) : List (List Int) := (marks (fromI l) u).map fun x => l ++ [x]
theorem ascTo_succ (l : List Int) (u : Nat) : ascTo l (u + 1) = ascTo l u ++ [l ++ [fromI l + u]] := by unfold ascTo; rw [marks_succ, List.map_append]; rfl
theorem ascTo_length (l : List Int) (u : Nat) : (ascTo l u).length = u := by unfold ascTo; rw [List.length_map, marks_len]
theorem ascX_take_le (n : Nat) (ls : List (List Int)) (j : Nat) (h : ∀ l ∈ ls, 1 ≤ fromI l) : (ascX n (ls.take j)).length ≤ ls.length * n := by
  have h1 := flatMap_le (asc1 n) n (ls.take j) (fun p hp => by
    unfold asc1
    rw [List.length_map]
    exact ways_le (h p ((List.take_sublist j ls).subset hp)))
  have h2 : (ls.take j).length ≤ ls.length := by simp; omega
  have h3 := Nat.mul_le_mul_right n h2
  exact Nat.le_trans h1 h3

set_option maxHeartbeats 8000000 in
theorem places_impl (n m : Nat) (w : World) (hn : n ≤ 8) (hm : m ≤ 8) :
    Calls Try.prog 97 #[.int .i64 n, .int .i64 m] w (RetL w (ascI n m)) := by
  obtain ⟨i0, hi, hz0, hz1, hz2⟩ := info_parts infoI
  obtain ⟨j0, hj, hy0, hy1, hy2⟩ := info_parts infoL
  have own0 : (w.alloc (.cells #[] 3)).ownsRow w.heap.size 3 1 (Row.v ⟨some ⟨w.heap.size, 0, none⟩, 0, []⟩) 0 (([] : List Int).map (Value.int .i64)) := World.ownsRow_lit w #[] 0 (Nat.le_refl _) (by unfold maxLen; omega) rfl
  have own1 : ((w.alloc (.cells #[] 3)).alloc (.cells #[.slice (some ⟨w.heap.size, 0, none⟩) 0 0] 22)).ownsRow w.heap.size 22 1 (.slice (some ⟨(w.alloc (.cells #[] 3)).heap.size, 0, none⟩) 1 1) 1 [.slice (some ⟨w.heap.size, 0, none⟩) 0 0] :=
    World.ownsRow_lit (w.alloc (.cells #[] 3)) #[.slice (some ⟨w.heap.size, 0, none⟩) 0 0] 1 (by simp) (by unfold maxLen; omega) rfl
  have hA := (Own.add (os := []) (r := ⟨some ⟨w.heap.size, 0, none⟩, 0, []⟩) (Own.nil_ (w := ((w.alloc (.cells #[] 3)).alloc (.cells #[.slice (some ⟨w.heap.size, 0, none⟩) 0 0] 22))) (lo := w.heap.size) (hi := w.heap.size)) (own0.alloc _) (by simp; omega) (Nat.le_refl _)).with_ (A := some ⟨(w.alloc (.cells #[] 3)).heap.size, 0, none⟩) (c := 1) (vs := [.slice (some ⟨w.heap.size, 0, none⟩) 0 0]) own1 (Nat.le_refl _)
  have hb0 : Below w.heap.size w ((w.alloc (.cells #[] 3)).alloc (.cells #[.slice (some ⟨w.heap.size, 0, none⟩) 0 0] 22)) := ((Below.refl _ _).alloc (Nat.le_refl _) _).alloc (by simp) _
  simp only [List.nil_append] at hA
  clear own0 own1
  go_enter Try.func97, Try.ntmps97
  go_wp2_with fail
  simp only [World.size_alloc] at hA
  go_loopw [5, 14] (fun v i wr => ∃ (k : Nat) (A : Option Addr) (c : Nat) (rs : List Row), k ≤ m ∧ i = .int .i64 k ∧ v = .slice A rs.length c ∧ Hid (rs.map Row.xs = ascI n k) ∧ Own wr w.heap.size wr.heap.size rs [⟨A, c, rs.map Row.v⟩] ∧ Below w.heap.size w wr) (fun _ i _ => m - (intOf i).toNat)
  case atStart => exact ⟨0, _, _, [⟨some ⟨w.heap.size, 0, none⟩, 0, []⟩], Nat.zero_le _, rfl, rfl, Lib.hid rfl, by simpa [Row.v] using hA, hb0⟩
  case round =>
    clear hA hb0
    obtain ⟨k, A, c, rs, hk, rfl, rfl, HX, hO, hb⟩ := hrel
    have hsz := hb.size
    have hlen : rs.length ≤ 16777216 := by
      have h1 := congrArg List.length HX.out
      have h2 := ascI_le n k
      have h3 := pow_eight hn (show k ≤ 8 by omega)
      rw [List.length_map] at h1
      omega
    rcases Nat.lt_or_ge k m with hlt | hge
    · have hRd := hO.read
      have hL0 := Own.lit (lo := wr.heap.size) wr (Nat.le_refl _)
      have hbL := (Below.refl wr.heap.size wr).alloc (Nat.le_refl _) (.cells #[] 22)
      have HFR := Lib.hid (show ∀ l ∈ rs.map Row.xs, 1 ≤ fromI l from fun l hl => by rw [HX.out] at hl; exact (ascI_mem hl).2.from)
      obtain ⟨wo, rfl⟩ : ∃ wo : World, wo = wr := ⟨_, rfl⟩
      clear hO
      go_wp2_with fail
      go_loopw [6, 19] (fun v i wr => ∃ (j : Nat) (A1 : Option Addr) (c1 : Nat) (rs1 : List Row), j ≤ rs.length ∧ i = .int .i64 j ∧ v = .slice A1 rs1.length c1 ∧ Hid (rs1.map Row.xs = ascX n ((rs.map Row.xs).take j)) ∧ Own wr wo.heap.size wr.heap.size rs1 [⟨A1, c1, rs1.map Row.v⟩] ∧ Below wo.heap.size wo wr) (fun _ i _ => rs.length - (intOf i).toNat)
      case atStart => exact ⟨0, _, _, [], Nat.zero_le _, rfl, rfl, Lib.hid rfl, hL0, hbL⟩
      case round =>
        clear hL0 hbL
        obtain ⟨j, A1, c1, rs1, hj1, rfl, rfl, HX1, hO1, hb1⟩ := hrel
        by_cases hlt1 : j < rs.length
        · have hRd1 := hRd.below hb1
          obtain ⟨b, off, rfl, _, hc⟩ := hRd1.at (by omega)
          have c1' := hc j hlt1
          have hp := hRd1.rd rs[j] (List.getElem_mem hlt1)
          have hpc := hRd1.cap rs[j] (List.getElem_mem hlt1)
          have hmem : rs[j].xs ∈ ascI n k := by rw [← HX.out]; exact List.mem_map.2 ⟨rs[j], List.getElem_mem hlt1, rfl⟩
          have hple : rs[j].xs.length ≤ 8 := by have := (ascI_mem hmem).1; omega
          have hasc := (ascI_mem hmem).2
          have hfrom := hasc.from
          have hfromle := hasc.le
          have hel1 : rs1.length ≤ 16777216 * 8 := by
            have h1 := congrArg List.length HX1.out
            have h2 := ascX_take_le n (rs.map Row.xs) j HFR.out
            rw [List.length_map] at h1 h2
            have h3 := Nat.mul_le_mul hlen hn
            omega
          obtain ⟨p, hpe⟩ : ∃ p : Row, p = rs[j] := ⟨_, rfl⟩
          rw [← hpe] at c1' hp hple hpc hasc hfrom hfromle
          obtain ⟨fr, hfr⟩ : ∃ fr : Nat, (fr : Int) = fromI p.xs := ⟨(fromI p.xs).toNat, by omega⟩
          have hfr1 : 1 ≤ fr := by omega
          have hfr2 : fr ≤ n + 1 := by omega
          obtain ⟨mm, hmm⟩ : ∃ mm : Nat, mm = ((n : Int) + 1 - fromI p.xs).toNat := ⟨_, rfl⟩
          have HMU := Lib.hid (show ∀ u : Nat, fr + u ≤ n ↔ u < mm from fun u => by omega)
          have hmn : mm ≤ n := by omega
          have HWA := Lib.hid (show asc1 n p.xs = ascTo p.xs mm by rw [hmm]; rfl)
          have HPE := Lib.hid hpe
          have HFI := Lib.hid hfr
          clear hpe hc hRd1 hmem hfr hmm
          obtain ⟨wi, rfl⟩ : ∃ wi : World, wi = wr := ⟨_, rfl⟩
          rcases Nat.eq_zero_or_pos p.xs.length with h0 | h0
          case' inl =>
            have HF := Lib.hid (show fr = 1 by have := HFI.out; rw [List.eq_nil_of_length_eq_zero h0, fromI_nil] at this; omega)
            have HS0 := Lib.hid (show (1 : Int) = (fr : Int) by rw [HF.out]; rfl)
            have d2 : decide (0 < p.xs.length) = false := decide_eq_false (by omega)
            have d3 : p.xs.length ≤ 0 := by omega
            clear h0
            go_wp2_with fail
            clear d2 d3
          case' inr =>
            obtain ⟨b2, off2, hA2, _, hc2⟩ := hp (by omega)
            have c2 := hc2 (p.xs.length - 1) (by omega)
            have HS0 := Lib.hid (show p.xs[p.xs.length - 1] + 1 = (fr : Int) by
              rw [HFI.out]
              have : p.xs.getLast? = some p.xs[p.xs.length - 1] := by rw [List.getLast?_eq_getElem?, List.getElem?_eq_getElem (by omega)]
              simp only [fromI, this])
            have d2 : decide (0 < p.xs.length) = true := decide_eq_true (by omega)
            have hb9 := hasc.1 p.xs[p.xs.length - 1] (List.getElem_mem (by omega))
            have e0 : 1 ≤ (p.xs.length : Int) := by omega
            have e2 : 0 ≤ (p.xs.length : Int) - 1 := by omega
            have e3 : (p.xs.length : Int) - 1 < p.xs.length := by omega
            have e1 : ((p.xs.length : Int) - 1).toNat = p.xs.length - 1 := by omega
            rw [hA2] at c1'
            clear hc2
            go_wp2_with fail
            clear d2 e0 e1 e2 e3 c2
            rw [← hA2]
            rw [← hA2] at c1'
            clear hA2
          all_goals
            go_loopw [6, 10] (fun v i wr => ∃ (u : Nat) (A2 : Option Addr) (c2 : Nat) (rs2 : List Row), u ≤ mm ∧ i = .int .i64 ((fr : Int) + u) ∧ v = .slice A2 rs2.length c2 ∧ Hid (rs2.map Row.xs = ascX n ((rs.map Row.xs).take j) ++ ascTo p.xs u) ∧ Own wr wo.heap.size wr.heap.size rs2 [⟨A2, c2, rs2.map Row.v⟩] ∧ Below wo.heap.size wo wr) (fun _ i _ => mm - ((intOf i).toNat - fr))
            case atStart => exact ⟨0, _, _, rs1, Nat.zero_le _, by rw [HS0.out]; simp, rfl, Lib.hid (by rw [HX1.out]; simp [ascTo, marks]), hO1, hb1⟩
            case round =>
              obtain ⟨u, A2, c2, rs2, hu, rfl, rfl, HX2, hO2, hb2⟩ := hrel
              have hel2 : rs2.length ≤ 16777216 * 8 + 8 := by
                have h1 := congrArg List.length HX2.out
                have h2 := ascX_take_le n (rs.map Row.xs) j HFR.out
                have h4 := ascTo_length p.xs u
                rw [List.length_append, List.length_map] at h1
                rw [List.length_map] at h2
                have h3 := Nat.mul_le_mul hlen hn
                omega
              rcases Nat.lt_or_ge u mm with hlt2 | hge2
              · have hle : fr + u ≤ n := (HMU.out u).2 hlt2
                have hp2 := (hRd.below hb2).rd p (by rw [HPE.out]; exact List.getElem_mem hlt1)
                have hsz2 := hb2.size
                have HT := Lib.hid (show ascTo p.xs (u + 1) = ascTo p.xs u ++ [p.xs ++ [(fr : Int) + u]] by rw [ascTo_succ, HFI.out])
                go_wp2_with fail
                (with_reducible refine (clone_any p.A p.c p.xs wr ⟨by omega, hpc, hp2.more hsz2⟩).mono ?_)
                rintro e wc ⟨A3, c3, rfl, q1, q2, hown, hbc⟩
                have hszc := hbc.size
                go_wp2_with (first | ((at_builtin; refine wpList_append_own _ rfl _ _ 22 rfl (wr.heap.size) 3 i0 (.int .i64 0) 1 8 Try.underlying22 hi hz0 hz1 hz2 rfl (by decide) _ _ _ rfl (World.ownsRow.alloc hown _) ⟨wc.heap.size, 0, none⟩ 1 1 [.int .i64 ((fr : Int) + u)] rfl rfl (cell_one_new _ _ _) (by intro u hu; simp at hu; subst hu; rfl) (by unfold maxLen; omega) (by omega) (by simp; omega) ?_; intro v1 w1 hown1 hgrow1 _); have hrow : w1.ownsRow wr.heap.size 3 1 v1 (p.xs.length + 1) ((p.xs ++ [(fr : Int) + u]).map (Value.int .i64)) := (by simpa using hown1); obtain ⟨A4, c4, rfl, _, _⟩ := own_shape hrow; have hg1 := grown_trans (World.grownBy_alloc wc (Obj.cells #[Value.int .i64 ((fr : Int) + u)] 3) _) hgrow1; have hsz1 := hg1.size; have hlm := fun g hg => hown.lt g hg; have hO3 := (hO2.below hbc).span (Span.of_grown (lo := wr.heap.size) (hi := wc.heap.size) hg1 hlm) (.inl (Nat.le_refl _)); have hO4 := hO3.add (r := ⟨A4, c4, p.xs ++ [(fr : Int) + u]⟩) (by simpa [Row.v] using hrow) (by omega) hsz2; have hbw := (hb2.trans (hbc.mono hsz2)).grown hg1 (by omega) (fun g hg => by have := hlm g hg; omega); have hown2 := hO4.outN (n := rs2.length) (by simp); clear hO3 hown hown1 hgrow1 hg1 hrow hlm) | (at_builtin; refine wpList_append_own _ rfl _ _ 33 rfl (wo.heap.size) 22 j0 (.slice none 0 0) 1 24 Try.underlying33 hj hy0 hy1 hy2 rfl (by decide) _ _ _ rfl (World.ownsRow.alloc hown2 _) ⟨w1.heap.size, 0, none⟩ 1 1 [Value.slice A4 (p.xs.length + 1) c4] rfl rfl (cell_one_at _ _ (by simp)) (by intro u hu; simp at hu; subst hu; rfl) (by unfold maxLen; omega) (by omega) (by simp; omega) ?_; intro v9 w9 hown9 hgrow9 _))
                obtain ⟨A5, c5, rfl, hO6, hg3⟩ := hO4.grow (Nat.le_refl _) (by simp) hown9 hgrow9
                have hbw3 := hbw.grown hg3 (by omega) (fun g hg => (hO4.olim (by simp) g hg).1)
                have K := Lib.hid (And.intro hO6 hbw3)
                clear hO6 hbw3 hown9 hgrow9 hg3 hO4 hbw hown2
                go_wp2_with fail
                go_roundw
                case rel => exact ⟨u + 1, A5, c5, rs2 ++ [⟨A4, c4, p.xs ++ [(fr : Int) + u]⟩], by omega, by go_num, by rw [List.length_append]; rfl, Lib.hid (by rw [HT.out, List.map_append, HX2.out]; simp), by simpa [Row.v] using K.out.1, K.out.2⟩
                case measure => simp [intOf]; omega
              · have hgt : n < fr + u := by have := (HMU.out u); omega
                obtain rfl : u = mm := by omega
                have HE := Lib.hid (show rs2.map Row.xs = ascX n ((rs.map Row.xs).take (j + 1)) by
                  rw [HX2.out]
                  unfold ascX
                  rw [flatMap_take _ _ _ (by simpa using hlt1)]
                  simp only [List.getElem_map]
                  rw [← HPE.out, HWA.out])
                go_wp2_with fail
                go_roundw
                case rel => exact ⟨j + 1, A2, c2, rs2, by omega, by go_num, rfl, HE, hO2, hb2⟩
                case measure => simp [intOf]; omega
        · obtain rfl : j = rs.length := by omega
          have HE := Lib.hid (show rs1.map Row.xs = ascI n (k + 1) by
            rw [HX1.out, List.take_of_length_le (by simp), HX.out]; rfl)
          go_wp2_with fail
          go_roundw
          case rel => exact ⟨k + 1, A1, c1, rs1, by omega, by go_num, rfl, HE, hO1.wider hsz (Nat.le_refl _), hb.trans (hb1.mono hsz)⟩
          case measure => simp [intOf]; omega
    · obtain rfl : k = m := by omega
      go_wp2_with fail
      go_ret
      exact ⟨A, c, rs, rfl, HX.out, hO, hb⟩
end Go.Proofs.Ytmkaelefljjamaa
