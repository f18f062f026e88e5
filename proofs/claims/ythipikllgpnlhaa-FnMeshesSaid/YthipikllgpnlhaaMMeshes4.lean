/- Several texts in one, each with its own head: R3, R4, M1, M3, L2, S1, OL, K2. No program of ours. -/
import Derived.Test.YthipikllgpnlhaaMMeshes3
/- All permutations of a length, breadth first and depth first. -/
namespace Go.Proofs.Ythipikllgpnlhaa
set_option maxRecDepth 100000
open Go Go.RowKit

theorem pow_six {n i : Nat} (hn : n ≤ 6) (hi : i ≤ 6) : n ^ i ≤ 46656 := by
  have h1 : n ^ i ≤ 6 ^ i := Nat.pow_le_pow_left hn i
  have h2 : 6 ^ i ≤ 6 ^ 6 := Nat.pow_le_pow_right (by omega) hi
  omega
theorem flatMap_take {α β : Type} (f : α → List β) (l : List α) (k : Nat) (h : k < l.length) : (l.take (k + 1)).flatMap f = (l.take k).flatMap f ++ f l[k] := by
  rw [List.take_succ_eq_append_getElem h, List.flatMap_append]; simp
theorem ext_take_le (n : Nat) (ls : List (List Int)) (k : Nat) : (ext n (ls.take k)).length ≤ ls.length * n := by
  have h1 := ext_le n (ls.take k)
  have h2 : (ls.take k).length ≤ ls.length := by simp; omega
  have h3 := Nat.mul_le_mul_right n h2
  omega
/-- What has come of one list's ways at the number v. -/
def extTo (p : List Int) (v : Nat) : List (List Int) := ((nums v).filter fun x => !decide (x ∈ p)).map fun x => p ++ [x]
theorem extTo_succ (p : List Int) (v : Nat) : extTo p (v + 1) = if ((v : Int) + 1) ∈ p then extTo p v else extTo p v ++ [p ++ [(v : Int) + 1]] := by
  unfold extTo
  rw [nums_succ, List.filter_append]
  by_cases h : ((v : Int) + 1) ∈ p <;> simp [h]
theorem extTo_le (p : List Int) (v : Nat) : (extTo p v).length ≤ v := by
  unfold extTo
  have := List.length_filter_le (fun x => !decide (x ∈ p)) (nums v)
  rw [nums_length] at this
  rw [List.length_map]; exact this
theorem ext1_to (n : Nat) (p : List Int) : ext1 n p = extTo p n := rfl

theorem contains_b (A : Option Addr) (c n : Nat) (xs : List Int) (x : Int) (w : World) (b : Bool) (hn : xs.length = n) (hl : n ≤ 4611686018427387904) (hx : Rd (Value.int .i64) w w.heap.size A xs) (hb : decide (x ∈ xs) = b) :
    Calls Try.prog 132 #[.slice A n c, .int .i64 x] w fun e w' => e = .returned (.bool b) ∧ w = w' := by
  subst hb
  exact contains_any A c n xs x w hn hl hx
theorem l2Has_b (A : Option Addr) (c n : Nat) (xs : List Int) (x : Int) (w : World) (b : Bool) (hn : xs.length = n) (hl : n ≤ 4611686018427387904) (hx : Rd (Value.int .i64) w w.heap.size A xs) (hb : decide (x ∈ xs) = b) :
    Calls Try.prog 89 #[.slice A n c, .int .i64 x] w fun e w' => e = .returned (.bool b) ∧ w = w' := by
  subst hb
  exact l2Has_any A c n xs x w hn hl hx
set_option maxHeartbeats 4000000 in
theorem perms_impl (n : Nat) (w : World) (hn : n ≤ 6) :
    Calls Try.prog 118 #[.int .i64 n] w (RetL w (permsL n)) := by
  obtain ⟨i0, hi, hz0, hz1, hz2⟩ := info_parts infoI
  obtain ⟨j0, hj, hy0, hy1, hy2⟩ := info_parts infoL
  have own0 : (w.alloc (.cells #[] 3)).ownsRow w.heap.size 3 1 (Row.v ⟨some ⟨w.heap.size, 0, none⟩, 0, []⟩) 0 (([] : List Int).map (Value.int .i64)) := World.ownsRow_lit w #[] 0 (Nat.le_refl _) (by unfold maxLen; omega) rfl
  have own1 : ((w.alloc (.cells #[] 3)).alloc (.cells #[.slice (some ⟨w.heap.size, 0, none⟩) 0 0] 24)).ownsRow w.heap.size 24 1 (.slice (some ⟨(w.alloc (.cells #[] 3)).heap.size, 0, none⟩) 1 1) 1 [.slice (some ⟨w.heap.size, 0, none⟩) 0 0] :=
    World.ownsRow_lit (w.alloc (.cells #[] 3)) #[.slice (some ⟨w.heap.size, 0, none⟩) 0 0] 1 (by simp) (by unfold maxLen; omega) rfl
  have hA := (Own.add (os := []) (r := ⟨some ⟨w.heap.size, 0, none⟩, 0, []⟩) (Own.nil_ (w := ((w.alloc (.cells #[] 3)).alloc (.cells #[.slice (some ⟨w.heap.size, 0, none⟩) 0 0] 24))) (lo := w.heap.size) (hi := w.heap.size)) (own0.alloc _) (by simp; omega) (Nat.le_refl _)).with_ (A := some ⟨(w.alloc (.cells #[] 3)).heap.size, 0, none⟩) (c := 1) (vs := [.slice (some ⟨w.heap.size, 0, none⟩) 0 0]) own1 (Nat.le_refl _)
  have hb0 : Below w.heap.size w ((w.alloc (.cells #[] 3)).alloc (.cells #[.slice (some ⟨w.heap.size, 0, none⟩) 0 0] 24)) := ((Below.refl _ _).alloc (Nat.le_refl _) _).alloc (by simp) _
  simp only [List.nil_append] at hA
  clear own0 own1
  go_enter Try.func118, Try.ntmps118
  go_wp2_with fail
  simp only [World.size_alloc] at hA
  go_loopw [3, 11] (fun v i wr => ∃ (k : Nat) (A : Option Addr) (c : Nat) (rs : List Row), k ≤ n ∧ i = .int .i64 k ∧ v = .slice A rs.length c ∧ Hid (rs.map Row.xs = permsI n k) ∧ Own wr w.heap.size wr.heap.size rs [⟨A, c, rs.map Row.v⟩] ∧ Below w.heap.size w wr) (fun _ i _ => n - (intOf i).toNat)
  case atStart => exact ⟨0, _, _, [⟨some ⟨w.heap.size, 0, none⟩, 0, []⟩], Nat.zero_le _, rfl, rfl, Lib.hid rfl, by simpa [Row.v] using hA, hb0⟩
  case round =>
    clear hA hb0
    obtain ⟨k, A, c, rs, hk, rfl, rfl, HX, hO, hb⟩ := hrel
    have hsz := hb.size
    have hlen : rs.length ≤ 46656 := by
      have h1 := congrArg List.length HX.out
      have h2 := permsI_le n k
      have h3 := pow_six hn (show k ≤ 6 by omega)
      rw [List.length_map] at h1
      omega
    rcases Nat.lt_or_ge k n with hlt | hge
    · have hRd := hO.read
      have hL0 := Own.lit (lo := wr.heap.size) wr (Nat.le_refl _)
      have hbL := (Below.refl wr.heap.size wr).alloc (Nat.le_refl _) (.cells #[] 24)
      obtain ⟨wo, rfl⟩ : ∃ wo : World, wo = wr := ⟨_, rfl⟩
      clear hO
      go_wp2_with fail
      go_loopw [4, 16] (fun v i wr => ∃ (j : Nat) (A1 : Option Addr) (c1 : Nat) (rs1 : List Row), j ≤ rs.length ∧ i = .int .i64 j ∧ v = .slice A1 rs1.length c1 ∧ Hid (rs1.map Row.xs = ext n ((rs.map Row.xs).take j)) ∧ Own wr wo.heap.size wr.heap.size rs1 [⟨A1, c1, rs1.map Row.v⟩] ∧ Below wo.heap.size wo wr) (fun _ i _ => rs.length - (intOf i).toNat)
      case atStart => exact ⟨0, _, _, [], Nat.zero_le _, rfl, rfl, Lib.hid rfl, hL0, hbL⟩
      case round =>
        clear hL0 hbL
        obtain ⟨j, A1, c1, rs1, hj1, rfl, rfl, HX1, hO1, hb1⟩ := hrel
        by_cases hlt1 : j < rs.length
        · have hRd1 := hRd.below hb1
          obtain ⟨b, off, rfl, _, hc⟩ := hRd1.at (by omega)
          have c1' := hc j hlt1
          have hp := hRd1.rd rs[j] (List.getElem_mem hlt1)
          have hpc := hRd1.cap rs[j] (List.getElem_mem hlt1)
          have hple : rs[j].xs.length ≤ 6 := by
            have h1 : rs[j].xs ∈ permsI n k := by rw [← HX.out]; exact List.mem_map.2 ⟨rs[j], List.getElem_mem hlt1, rfl⟩
            have := (permsI_mem h1).1
            omega
          have hel1 : rs1.length ≤ 46656 * 6 := by
            have h1 := congrArg List.length HX1.out
            have h2 := ext_take_le n (rs.map Row.xs) j
            rw [List.length_map] at h1 h2
            have h3 := Nat.mul_le_mul hlen hn
            omega
          obtain ⟨p, hpe⟩ : ∃ p : Row, p = rs[j] := ⟨_, rfl⟩
          rw [← hpe] at c1' hp hple hpc
          have HPE := Lib.hid hpe
          clear hpe hc hRd1
          obtain ⟨wi, rfl⟩ : ∃ wi : World, wi = wr := ⟨_, rfl⟩
          go_wp2_with fail
          go_loopw [4, 7] (fun v i wr => ∃ (u : Nat) (A2 : Option Addr) (c2 : Nat) (rs2 : List Row), u ≤ n ∧ i = .int .i64 ((u : Int) + 1) ∧ v = .slice A2 rs2.length c2 ∧ Hid (rs2.map Row.xs = ext n ((rs.map Row.xs).take j) ++ extTo p.xs u) ∧ Own wr wo.heap.size wr.heap.size rs2 [⟨A2, c2, rs2.map Row.v⟩] ∧ Below wo.heap.size wo wr) (fun _ i _ => n + 1 - (intOf i).toNat)
          case atStart => exact ⟨0, _, _, rs1, Nat.zero_le _, rfl, rfl, Lib.hid (by rw [HX1.out]; simp [extTo, nums]), hO1, hb1⟩
          case round =>
            obtain ⟨u, A2, c2, rs2, hu, rfl, rfl, HX2, hO2, hb2⟩ := hrel
            have hel2 : rs2.length ≤ 46656 * 6 + 6 := by
              have h1 := congrArg List.length HX2.out
              have h2 := ext_take_le n (rs.map Row.xs) j
              have h4 := extTo_le p.xs u
              rw [List.length_append, List.length_map] at h1
              rw [List.length_map] at h2
              have h3 := Nat.mul_le_mul hlen hn
              omega
            rcases Nat.lt_or_ge u n with hlt2 | hge2
            · have hp2 := (hRd.below hb2).rd p (by rw [HPE.out]; exact List.getElem_mem hlt1)
              have hsz2 := hb2.size
              by_cases hm : ((u : Int) + 1) ∈ p.xs
              · have HM := Lib.hid (decide_eq_true hm)
                have HT := Lib.hid (show extTo p.xs (u + 1) = extTo p.xs u by rw [extTo_succ, if_pos hm])
                clear hm
                go_wp2_with fail
                (with_reducible refine (contains_b p.A p.c p.xs.length p.xs ((u : Int) + 1) wr true rfl (by omega) (hp2.more hsz2) HM.out).mono ?_)
                rintro e w' ⟨rfl, rfl⟩
                go_wp2_with fail
                go_roundw
                case rel => exact ⟨u + 1, A2, c2, rs2, by omega, by go_num, rfl, Lib.hid (by rw [HT.out]; exact HX2.out), hO2, hb2⟩
                case measure => simp [intOf]; omega
              · have HM := Lib.hid (decide_eq_false hm)
                have HT := Lib.hid (show extTo p.xs (u + 1) = extTo p.xs u ++ [p.xs ++ [(u : Int) + 1]] by rw [extTo_succ, if_neg hm])
                clear hm
                go_wp2_with fail
                (with_reducible refine (contains_b p.A p.c p.xs.length p.xs ((u : Int) + 1) wr false rfl (by omega) (hp2.more hsz2) HM.out).mono ?_)
                rintro e w' ⟨rfl, rfl⟩
                go_wp2_with fail
                (with_reducible refine (clone_any p.A p.c p.xs wr ⟨by omega, hpc, hp2.more hsz2⟩).mono ?_)
                rintro e wc ⟨A3, c3, rfl, q1, q2, hown, hbc⟩
                have hszc := hbc.size
                go_wp2_with (first | ((at_builtin; refine wpList_append_own _ rfl _ _ 24 rfl (wr.heap.size) 3 i0 (.int .i64 0) 1 8 Try.underlying24 hi hz0 hz1 hz2 rfl (by decide) _ _ _ rfl (World.ownsRow.alloc hown _) ⟨wc.heap.size, 0, none⟩ 1 1 [.int .i64 ((u : Int) + 1)] rfl rfl (cell_one_new _ _ _) (by intro u hu; simp at hu; subst hu; rfl) (by unfold maxLen; omega) (by omega) (by simp; omega) ?_; intro v1 w1 hown1 hgrow1 _); have hrow : w1.ownsRow wr.heap.size 3 1 v1 (p.xs.length + 1) ((p.xs ++ [(u : Int) + 1]).map (Value.int .i64)) := (by simpa using hown1); obtain ⟨A4, c4, rfl, _, _⟩ := own_shape hrow; have hg1 := grown_trans (World.grownBy_alloc wc (Obj.cells #[Value.int .i64 ((u : Int) + 1)] 3) _) hgrow1; have hsz1 := hg1.size; have hlm := fun g hg => hown.lt g hg; have hO3 := (hO2.below hbc).span (Span.of_grown (lo := wr.heap.size) (hi := wc.heap.size) hg1 hlm) (.inl (Nat.le_refl _)); have hO4 := hO3.add (r := ⟨A4, c4, p.xs ++ [(u : Int) + 1]⟩) (by simpa [Row.v] using hrow) (by omega) hsz2; have hbw := (hb2.trans (hbc.mono hsz2)).grown hg1 (by omega) (fun g hg => by have := hlm g hg; omega); have hown2 := hO4.outN (n := rs2.length) (by simp); clear hO3 hown hown1 hgrow1 hg1 hrow hlm) | (at_builtin; refine wpList_append_own _ rfl _ _ 25 rfl (wo.heap.size) 24 j0 (.slice none 0 0) 1 24 Try.underlying25 hj hy0 hy1 hy2 rfl (by decide) _ _ _ rfl (World.ownsRow.alloc hown2 _) ⟨w1.heap.size, 0, none⟩ 1 1 [Value.slice A4 (p.xs.length + 1) c4] rfl rfl (cell_one_at _ _ (by simp)) (by intro u hu; simp at hu; subst hu; rfl) (by unfold maxLen; omega) (by omega) (by simp; omega) ?_; intro v9 w9 hown9 hgrow9 _))
                obtain ⟨A5, c5, rfl, hO6, hg3⟩ := hO4.grow (Nat.le_refl _) (by simp) hown9 hgrow9
                have hbw3 := hbw.grown hg3 (by omega) (fun g hg => (hO4.olim (by simp) g hg).1)
                have K := Lib.hid (And.intro hO6 hbw3)
                clear hO6 hbw3 hown9 hgrow9 hg3 hO4 hbw hown2
                go_wp2_with fail
                go_roundw
                case rel => exact ⟨u + 1, A5, c5, rs2 ++ [⟨A4, c4, p.xs ++ [(u : Int) + 1]⟩], by omega, by go_num, by rw [List.length_append]; rfl, Lib.hid (by rw [HT.out, List.map_append, HX2.out]; simp), by simpa [Row.v] using K.out.1, K.out.2⟩
                case measure => simp [intOf]; omega
            · obtain rfl : u = n := by omega
              have HE := Lib.hid (show rs2.map Row.xs = ext u ((rs.map Row.xs).take (j + 1)) by
                rw [HX2.out]
                unfold ext
                rw [flatMap_take _ _ _ (by simpa using hlt1)]
                simp [ext1_to, HPE.out])
              go_wp2_with fail
              go_roundw
              case rel => exact ⟨j + 1, A2, c2, rs2, by omega, by go_num, rfl, HE, hO2, hb2⟩
              case measure => simp [intOf]; omega
        · obtain rfl : j = rs.length := by omega
          have HE := Lib.hid (show rs1.map Row.xs = permsI n (k + 1) by
            rw [HX1.out, List.take_of_length_le (by simp), HX.out]; rfl)
          go_wp2_with fail
          go_roundw
          case rel => exact ⟨k + 1, A1, c1, rs1, by omega, by go_num, rfl, HE, hO1.wider hsz (Nat.le_refl _), hb.trans (hb1.mono hsz)⟩
          case measure => simp [intOf]; omega
    · obtain rfl : k = n := by omega
      go_wp2_with fail
      go_ret
      exact ⟨A, c, rs, rfl, HX.out, hO, hb⟩
end Go.Proofs.Ythipikllgpnlhaa

/- The reference's permutations, depth first. -/
namespace Go.Proofs.Ythipikllgpnlhaa
set_option maxRecDepth 100000
open Go Go.RowKit

/-- What a call that fills a list leaves: the rows that came, behind those that were there; the rows F beside them are kept. -/
def Filled (w : World) (lo : Nat) (F rs : List Row) (L : List (List Int)) (e : Ending) (w' : World) : Prop :=
  ∃ A' c' rs', e = .returned (.slice A' (rs.length + rs'.length) c') ∧ rs'.map Row.xs = L ∧ Own w' lo w'.heap.size (F ++ (rs ++ rs')) [⟨A', c', (rs ++ rs').map Row.v⟩] ∧ Below lo w w'
theorem own_row {w : World} {lo hi : Nat} {rs : List Row} {os : List Outer} (h : Own w lo hi rs os) {r : Row} (hr : r ∈ rs) (hh : hi ≤ w.heap.size) : r.xs.length ≤ r.c ∧ Rd (Value.int .i64) w w.heap.size r.A r.xs :=
  ⟨h.read.cap r hr, (h.read.rd r hr).more hh⟩

def fillTo (n k : Nat) (p : List Int) (u : Nat) : List (List Int) := ((nums u).filter fun v => !decide (v ∈ p)).flatMap fun v => fillF n k (p ++ [v])
theorem fillTo_succ (n k : Nat) (p : List Int) (u : Nat) : fillTo n k p (u + 1) = if ((u : Int) + 1) ∈ p then fillTo n k p u else fillTo n k p u ++ fillF n k (p ++ [(u : Int) + 1]) := by
  unfold fillTo
  rw [nums_succ, List.filter_append]
  by_cases h : ((u : Int) + 1) ∈ p <;> simp [h]
theorem fillTo_le (n k : Nat) (p : List Int) (u : Nat) : (fillTo n k p u).length ≤ u * n ^ k := by
  have h := flatMap_le (fun v => fillF n k (p ++ [v])) (n ^ k) ((nums u).filter fun v => !decide (v ∈ p)) (fun v _ => fillF_le n k _)
  have h1 := List.length_filter_le (fun v => !decide (v ∈ p)) (nums u)
  rw [nums_length] at h1
  exact Nat.le_trans h (Nat.mul_le_mul_right _ h1)
theorem fillTo_all (n k : Nat) (p : List Int) : fillTo n k p n = fillF n (k + 1) p := rfl

set_option maxHeartbeats 4000000 in
theorem fill_spec (n : Nat) (hn : n ≤ 6) : ∀ (k : Nat) (F rs : List Row) (r : Row) (A : Option Addr) (c lo : Nat) (w : World), r.xs.length + k = n → lo ≤ w.heap.size → rs.length + n ^ k ≤ 1000000 →
    Own w lo w.heap.size (F ++ rs ++ [r]) [⟨A, c, rs.map Row.v⟩] →
    Calls Try.prog 101 #[.int .i64 n, .slice r.A r.xs.length r.c, .slice A rs.length c] w (Filled w lo F rs (fillF n k r.xs)) := by
  obtain ⟨i0, hi, hz0, hz1, hz2⟩ := info_parts infoI
  obtain ⟨j0, hj, hy0, hy1, hy2⟩ := info_parts infoL
  intro k
  induction k with
  | zero =>
    intro F rs r A c lo w hr hlo hcount hO
    have hcount : rs.length + 1 ≤ 1000000 := by simpa using hcount
    have d1 : ((r.xs.length : Int) == (n : Int)) = true := by simp; omega
    have ho := hO.outN (n := rs.length) (by simp)
    have HR := Lib.hid hr
    clear hr
    go_enter Try.func101, Try.ntmps101
    go_wp2_with (at_builtin; refine wpList_append_own _ rfl _ _ 25 rfl (lo) 24 j0 (.slice none 0 0) 1 24 Try.underlying25 hj hy0 hy1 hy2 rfl (by decide) _ _ _ rfl (World.ownsRow.alloc ho _) ⟨w.heap.size, 0, none⟩ 1 1 [Value.slice r.A r.xs.length r.c] rfl rfl (cell_one_at _ _ (by simp)) (by intro u hu; simp at hu; subst hu; rfl) (by unfold maxLen; omega) (by omega) (by simp; omega) ?_; intro v9 w9 hown9 hgrow9 _)
    obtain ⟨A5, c5, rfl, hO6, hg3⟩ := hO.grow (Nat.le_refl _) (by simp) hown9 hgrow9
    have hbw := (Below.refl lo w).grown hg3 hlo (fun g hg => (hO.olim (by simp) g hg).1)
    have K := Lib.hid (And.intro hO6 hbw)
    clear hO6 hbw hown9 hgrow9 hg3 hO ho
    go_wp2
    go_ret
    exact ⟨A5, c5, [r], rfl, rfl, by simpa [Row.v, List.append_assoc] using K.out.1, K.out.2⟩
  | succ k ih =>
    intro F rs r A c lo w hr hlo hcount hO
    have d1 : ((r.xs.length : Int) == (n : Int)) = false := by simp; omega
    have hrl : r.xs.length ≤ 6 := by omega
    have hpow : ∀ u, u + 1 ≤ n → u * n ^ k + n ^ k ≤ n ^ (k + 1) := fun u hu => by
      have := Nat.mul_le_mul_right (n ^ k) hu
      rw [Nat.add_mul, Nat.one_mul] at this
      rw [Nat.pow_succ, Nat.mul_comm (n ^ k)]
      exact this
    have hpe := hpow
    have HP := Lib.hid hpow
    have HR := Lib.hid hr
    have HC := Lib.hid hcount
    have hO0 : Own w lo w.heap.size (F ++ [r] ++ (rs ++ [])) [⟨A, c, (rs ++ []).map Row.v⟩] := by
      rw [List.append_nil]
      refine hO.perm ?_
      rw [List.append_assoc, List.append_assoc]
      exact List.Perm.append_left F List.perm_append_comm
    clear hr hcount hpow hpe hO
    go_enter Try.func101, Try.ntmps101
    go_wp2_with fail
    go_loopw [2, 7] (fun o i wr => ∃ (u : Nat) (A1 : Option Addr) (c1 : Nat) (rs1 : List Row), u ≤ n ∧ i = .int .i64 ((u : Int) + 1) ∧ o = .slice A1 (rs.length + rs1.length) c1 ∧ Hid (rs1.map Row.xs = fillTo n k r.xs u) ∧
      Own wr lo wr.heap.size (F ++ [r] ++ (rs ++ rs1)) [⟨A1, c1, (rs ++ rs1).map Row.v⟩] ∧ Below lo w wr ∧ lo ≤ wr.heap.size) (fun _ i _ => n + 1 - (intOf i).toNat)
    case atStart => exact ⟨0, A, c, [], Nat.zero_le _, rfl, rfl, Lib.hid rfl, hO0, Below.refl _ _, hlo⟩
    case round =>
      clear hO0
      obtain ⟨u, A1, c1, rs1, hu, rfl, rfl, HX, hO, hb, hlo1⟩ := hrel
      have hrd := own_row hO (r := r) (by simp) (Nat.le_refl _)
      rcases Nat.lt_or_ge u n with hlt | hge
      · by_cases hm : ((u : Int) + 1) ∈ r.xs
        · have HM := Lib.hid (decide_eq_true hm)
          have HT := Lib.hid (show fillTo n k r.xs (u + 1) = fillTo n k r.xs u by rw [fillTo_succ, if_pos hm])
          clear hm
          go_wp2_with fail
          (with_reducible refine (l2Has_b r.A r.c r.xs.length r.xs ((u : Int) + 1) wr true rfl (by omega) hrd.2 HM.out).mono ?_)
          rintro e w' ⟨rfl, rfl⟩
          go_wp2_with fail
          go_roundw
          case rel => exact ⟨u + 1, A1, c1, rs1, by omega, by go_num, rfl, Lib.hid (by rw [HT.out]; exact HX.out), hO, hb, hlo1⟩
          case measure => simp [intOf]; omega
        · have HM := Lib.hid (decide_eq_false hm)
          have HT := Lib.hid (show fillTo n k r.xs (u + 1) = fillTo n k r.xs u ++ fillF n k (r.xs ++ [(u : Int) + 1]) by rw [fillTo_succ, if_neg hm])
          have hcnt : (rs ++ rs1).length + n ^ k ≤ 1000000 := by
            have h1 := congrArg List.length HX.out
            have h2 := fillTo_le n k r.xs u
            have h3 := HP.out u hlt
            have h4 := HC.out
            rw [List.length_map] at h1
            rw [List.length_append]
            omega
          clear hm
          go_wp2_with fail
          (with_reducible refine (l2Has_b r.A r.c r.xs.length r.xs ((u : Int) + 1) wr false rfl (by omega) hrd.2 HM.out).mono ?_)
          rintro e w' ⟨rfl, rfl⟩
          have own0 : (wr.alloc (.cells #[] 3)).ownsRow wr.heap.size 3 1 (.slice (some ⟨wr.heap.size, 0, none⟩) 0 0) 0 [] := World.ownsRow_lit wr #[] 0 (Nat.le_refl _) (by unfold maxLen; omega) rfl
          have hx0 := hrd.2.alloc (Nat.le_refl _) (.cells #[] 3)
          have hbA := (Below.refl wr.heap.size wr).alloc (Nat.le_refl _) (.cells #[] 3)
          go_wp2_with (first | ((at_builtin; refine wpList_append_rd _ rfl _ _ 24 rfl (wr.heap.size) 3 i0 (.int .i64 0) 8 Try.underlying24 hi hz0 hz1 hz2 rfl _ _ _ rfl own0 _ _ _ _ (r.xs) rfl rfl hx0 (fun _ => rfl) (by unfold maxLen; omega) (by omega) (by first | omega | (simp; done) | (simp; omega)) ?_; intro v1 w1 hown1 hgrow1); simp only [Nat.zero_add, List.nil_append] at hown1; obtain ⟨A3, c3, rfl, _, _⟩ := own_shape hown1; have hbB := hbA.grown hgrow1 (by simp) (fun g hg => (own0.lt g hg).1); have hszB := hbB.size) | (at_builtin; refine wpList_append_own _ rfl _ _ 24 rfl (wr.heap.size) 3 i0 (.int .i64 0) 1 8 Try.underlying24 hi hz0 hz1 hz2 rfl (by decide) _ _ _ rfl (World.ownsRow.alloc hown1 _) ⟨w1.heap.size, 0, none⟩ 1 1 [.int .i64 ((u : Int) + 1)] rfl rfl (cell_one_new _ _ _) (by intro u hu; simp at hu; subst hu; rfl) (by unfold maxLen; omega) (by omega) (by simp; omega) ?_; intro v2 w2 hown2 hgrow2 _))
          have hbC := (hbB.alloc hszB (Obj.cells #[Value.int .i64 ((u : Int) + 1)] 3)).grown hgrow2 (by simp; omega) (fun g hg => (hown1.lt g hg).1)
          have hrow : w2.ownsRow wr.heap.size 3 1 v2 (r.xs.length + 1) ((r.xs ++ [(u : Int) + 1]).map (Value.int .i64)) := by simpa using hown2
          obtain ⟨A4, c4, rfl, _, _⟩ := own_shape hrow
          have hszC := hbC.size
          have hO2 := (hO.below hbC).add (r := ⟨A4, c4, r.xs ++ [(u : Int) + 1]⟩) (by simpa [Row.v] using hrow) hszC hlo1
          have HRL := Lib.hid (show (r.xs ++ [(u : Int) + 1]).length + k = n by rw [List.length_append, List.length_singleton]; have := HR.out; omega)
          have hb2 := hb.trans (hbC.mono hlo1)
          clear hown1 hown2 hgrow1 hgrow2 hbA hbB hrow hx0 own0 hO
          have hlo2 : lo ≤ w2.heap.size := by omega
          have IH := ih (F ++ [r]) (rs ++ rs1) ⟨A4, c4, r.xs ++ [(u : Int) + 1]⟩ A1 c1 lo w2 HRL.out hlo2 hcnt hO2
          rw [show (Row.mk A4 c4 (r.xs ++ [(u : Int) + 1])).xs.length = r.xs.length + 1 by simp, List.length_append] at IH
          have IHH := Lib.hid IH
          clear IH hO2
          go_wp2_with fail
          (with_reducible refine IHH.out.mono ?_)
          rintro e w4 ⟨A5, c5, rs2, rfl, hxs, hO4, hb4⟩
          have K := Lib.hid (And.intro hxs (And.intro hO4 (hb2.trans hb4)))
          have hlo4 : lo ≤ w4.heap.size := by have := hb4.size; omega
          clear hxs hO4 hb4 IHH hb2
          go_wp2_with fail
          go_roundw
          case rel => exact ⟨u + 1, A5, c5, rs1 ++ rs2, by omega, by go_num, by rw [List.length_append]; go_num, Lib.hid (by rw [HT.out, List.map_append, HX.out, K.out.1]), by rw [← List.append_assoc rs]; exact K.out.2.1, K.out.2.2, hlo4⟩
          case measure => simp [intOf]; omega
      · obtain rfl : u = n := by omega
        have hO2 : Own wr lo wr.heap.size (F ++ (rs ++ rs1)) [⟨A1, c1, (rs ++ rs1).map Row.v⟩] := hO.sub (by
          rw [List.append_assoc F]
          exact List.Sublist.append_left (List.sublist_append_right _ _) F)
        go_wp2_with fail
        go_ret
        exact ⟨A1, c1, rs1, rfl, HX.out, hO2, hb⟩

def permsG (n : Int) : List (List Int) := if 0 ≤ n ∧ n ≤ 6 then permsL n.toNat else []
set_option maxHeartbeats 1000000 in
theorem permsOf_spec (n : Int) (w : World) : Calls Try.prog 47 #[.int .i64 n] w (RetL w (permsG n)) := by
  by_cases h : 0 ≤ n ∧ n ≤ 6
  · obtain ⟨m, rfl⟩ := Int.eq_ofNat_of_zero_le h.1
    have hm : m ≤ 6 := by omega
    have HG := Lib.hid (show permsG m = permsL m by unfold permsG; rw [if_pos h]; rfl)
    have HD := Lib.hid (decide_eq_true h)
    have own0 : (w.alloc (.cells #[] 3)).ownsRow w.heap.size 3 1 (Row.v ⟨some ⟨w.heap.size, 0, none⟩, 0, []⟩) 0 (([] : List Int).map (Value.int .i64)) := World.ownsRow_lit w #[] 0 (Nat.le_refl _) (by unfold maxLen; omega) rfl
    have hA : Own (w.alloc (.cells #[] 3)) w.heap.size (w.heap.size + 1) [⟨some ⟨w.heap.size, 0, none⟩, 0, []⟩] [] := by
      have := Own.add (os := []) (r := ⟨some ⟨w.heap.size, 0, none⟩, 0, []⟩) (Own.nil_ (w := w.alloc (.cells #[] 3)) (lo := w.heap.size) (hi := w.heap.size)) own0 (by simp) (Nat.le_refl _)
      simpa using this
    have hB : Own ((w.alloc (.cells #[] 3)).alloc (.cells #[] 24)) w.heap.size (w.heap.size + 1 + 1) [⟨some ⟨w.heap.size, 0, none⟩, 0, []⟩] [⟨some ⟨w.heap.size + 1, 0, none⟩, 0, []⟩] := by
      have h1 := hA.below ((Below.refl _ _).alloc (Nat.le_refl _) (.cells #[] 24))
      have h2 := (h1.wider (Nat.le_refl _) (Nat.le_succ _)).with_ (A := some ⟨w.heap.size + 1, 0, none⟩) (c := 0) (vs := []) (by
        have := World.ownsRow_lit (base := w.heap.size) (e := 24) (size := 1) (w.alloc (.cells #[] 3)) #[] 0 (by simp) (by unfold maxLen; omega) rfl
        simpa using this) (by simp)
      exact h2
    have hb0 : Below w.heap.size w ((w.alloc (.cells #[] 3)).alloc (.cells #[] 24)) := ((Below.refl _ _).alloc (Nat.le_refl _) _).alloc (by simp) _
    have hp := pow_six hm hm
    have FSc := Lib.hid (show Calls Try.prog 101 #[.int .i64 m, .slice (some ⟨w.heap.size, 0, none⟩) 0 0, .slice (some ⟨w.heap.size + 1, 0, none⟩) 0 0] ((w.alloc (.cells #[] 3)).alloc (.cells #[] 24)) (Filled _ w.heap.size [] [] (fillF m m [])) from
      fill_spec m hm m [] [] ⟨some ⟨w.heap.size, 0, none⟩, 0, []⟩ (some ⟨w.heap.size + 1, 0, none⟩) 0 w.heap.size ((w.alloc (.cells #[] 3)).alloc (.cells #[] 24)) (by simp) (by simp; omega) (by simp; omega) (by simpa using hB))
    clear h own0 hA
    go_enter Try.func47, Try.ntmps47
    go_wp2_with fail
    (with_reducible refine (l1In_b (m : Int) 0 6 w true HD.out).mono ?_)
    rintro e w' ⟨rfl, rfl⟩
    go_wp2_with fail
    (with_reducible refine FSc.out.mono ?_)
    rintro e w1 ⟨A5, c5, rs2, rfl, hxs, hO4, hb4⟩
    have K := Lib.hid hxs
    clear hxs
    go_wp2_with fail
    go_ret
    rw [HG.out]
    exact ⟨A5, c5, rs2, by simp, by rw [K.out, fill_perms], by simpa using hO4, hb0.trans hb4⟩
  · have HG := Lib.hid (show permsG n = [] by unfold permsG; rw [if_neg h])
    have HD := Lib.hid (decide_eq_false h)
    have hB := Own.lit (lo := w.heap.size) w (Nat.le_refl _)
    have hb0 := (Below.refl w.heap.size w).alloc (Nat.le_refl _) (.cells #[] 24)
    clear h
    go_enter Try.func47, Try.ntmps47
    go_wp2_with fail
    (with_reducible refine (l1In_b n 0 6 w false HD.out).mono ?_)
    rintro e w' ⟨rfl, rfl⟩
    go_wp2_with fail
    go_ret
    rw [HG.out]
    exact ⟨_, _, [], rfl, rfl, hB, hb0⟩
end Go.Proofs.Ythipikllgpnlhaa

/- Plain: permutations as lists: how many there can be in a range; a permutation is its own pattern. -/
namespace Go.Proofs.Ythipikllgpnlhaa
set_option maxRecDepth 100000
open Go

theorem nodup_len_le : ∀ (k : Nat) (l : List Int) (lo : Int), l.Nodup → (∀ y ∈ l, lo ≤ y ∧ y < lo + k) → l.length ≤ k
  | 0, l, lo, _, h => by
    cases l with
    | nil => simp
    | cons y l => have := h y (by simp); omega
  | k + 1, l, lo, hn, h => by
    have h1 := nodup_len_le k (l.erase (lo + k)) lo (hn.erase _) (fun y hy => by
      have hm := List.mem_of_mem_erase hy
      have hne : y ≠ lo + k := fun e => by
        subst e
        exact (hn.mem_erase_iff.1 hy).1 rfl
      have := h y hm
      omega)
    have h2 := List.length_erase (a := lo + k) (l := l)
    split at h2 <;> omega

theorem belowN_eq {l : List Int} {m : Nat} (hn : l.Nodup) (hr : ∀ y ∈ l, 1 ≤ y ∧ y ≤ m) (hl : l.length = m) (x : Int) (hx : 1 ≤ x ∧ x ≤ m) : (belowN l x : Int) = x - 1 := by
  have h1 := nodup_len_le (x - 1).toNat (l.filter fun y => decide (y < x)) 1 (hn.filter _) (fun y hy => by
    have := List.mem_filter.1 hy
    have h := hr y this.1
    have h2 : y < x := by simpa using this.2
    omega)
  have h2 := nodup_len_le (m + 1 - x).toNat (l.filter fun y => !decide (y < x)) x (hn.filter _) (fun y hy => by
    have := List.mem_filter.1 hy
    have h := hr y this.1
    have h2 : ¬ y < x := by simpa using this.2
    omega)
  have h3 : (l.filter fun y => decide (y < x)).length + (l.filter fun y => !decide (y < x)).length = l.length := by
    clear h1 h2 hn hr hl
    induction l with
    | nil => rfl
    | cons y l ih => by_cases h : y < x <;> simp [h] <;> omega
  unfold belowN
  omega

theorem patL_self {l : List Int} {m : Nat} (hn : l.Nodup) (hr : ∀ y ∈ l, 1 ≤ y ∧ y ≤ m) (hl : l.length = m) : patL l = l := by
  unfold patL
  conv => rhs; rw [← List.map_id l]
  exact List.map_congr_left fun x hx => by rw [belowN_eq hn hr hl x (hr x hx)]; simp

/-- In a permutation of n each number up to n occurs. -/
theorem perm_mem {l : List Int} {m : Nat} (hn : l.Nodup) (hr : ∀ y ∈ l, 1 ≤ y ∧ y ≤ m) (hl : l.length = m) (x : Int) (hx : 1 ≤ x ∧ x ≤ m) : x ∈ l := by
  refine Classical.byContradiction fun hno => ?_
  have h1 := nodup_len_le (x - 1).toNat (l.filter fun y => decide (y < x)) 1 (hn.filter _) (fun y hy => by
    have := List.mem_filter.1 hy
    have h := hr y this.1
    have h2 : y < x := by simpa using this.2
    omega)
  have h2 := nodup_len_le (m - x).toNat (l.filter fun y => !decide (y < x)) (x + 1) (hn.filter _) (fun y hy => by
    have := List.mem_filter.1 hy
    have h := hr y this.1
    have h2 : ¬ y < x := by simpa using this.2
    have h3 : y ≠ x := fun e => hno (by subst e; exact this.1)
    omega)
  have h3 : (l.filter fun y => decide (y < x)).length + (l.filter fun y => !decide (y < x)).length = l.length := by
    clear h1 h2 hn hr hl hno
    induction l with
    | nil => rfl
    | cons y l ih => by_cases h : y < x <;> simp [h] <;> omega
  omega

def cutAt (xs : List Int) (i : Nat) : List Int := xs.take i ++ xs.drop (i + 1)
theorem cutAt_length (xs : List Int) (i : Nat) (h : i < xs.length) : (cutAt xs i).length = xs.length - 1 := by simp [cutAt]; omega
theorem cutAt_split {xs : List Int} {i : Nat} (h : i < xs.length) : xs = xs.take i ++ (xs[i] :: xs.drop (i + 1)) := by
  rw [← List.drop_eq_getElem_cons h, List.take_append_drop]
/-- The greatest number cut out of a permutation leaves the lesser ones, a permutation. -/
theorem parent_eq {xs : List Int} {i : Nat} (hp : permB xs = true) (hi : i < xs.length) (hx : xs[i] = (xs.length : Int)) : patL (cutAt xs i) = xs.filter fun y => decide (y < (xs.length : Int)) := by
  obtain ⟨_, hr, hn⟩ := permB_true hp
  have hs := cutAt_split hi
  have hf : (xs.filter fun y => decide (y < (xs.length : Int))) = cutAt xs i := by
    have key : ∀ l : List Int, (∀ y ∈ l, y ≠ (xs.length : Int)) → (∀ y ∈ l, 1 ≤ y ∧ y ≤ (xs.length : Int)) → l.filter (fun y => decide (y < (xs.length : Int))) = l := fun l h1 h2 => List.filter_eq_self.2 fun y hy => by
      have a := h1 y hy
      have b := (h2 y hy).2
      simp; omega
    have hn' := hn
    rw [hs, List.nodup_append] at hn'
    obtain ⟨_, hn2, hn3⟩ := hn'
    rw [List.nodup_cons] at hn2
    conv => lhs; arg 2; rw [hs]
    rw [List.filter_append, List.filter_cons, if_neg (by rw [hx]; simp)]
    rw [key _ (fun y hy e => hn3 y hy _ (List.mem_cons_self) (by rw [hx]; exact e)) (fun y hy => hr y (List.mem_of_mem_take hy)), key _ (fun y hy e => hn2.1 (by rw [hx, ← e]; exact hy)) (fun y hy => hr y (List.mem_of_mem_drop hy))]
    rfl
  rw [hf]
  refine patL_self (m := xs.length - 1) ?_ ?_ (cutAt_length xs i hi)
  · rw [← hf]; exact hn.filter _
  · intro y hy
    rw [← hf] at hy
    have h1 := List.mem_filter.1 hy
    have h2 := hr y h1.1
    have h3 : y < (xs.length : Int) := by simpa using h1.2
    omega
end Go.Proofs.Ythipikllgpnlhaa

/- Plain maths: ascending lists of places, occurrences of a pattern, breadth first and depth first. -/
namespace Go.Proofs.Ythipikllgpnlhaa
set_option maxRecDepth 100000

/-- The place behind the last one. -/
def fromI (l : List Int) : Int := match l.getLast? with
  | none => 1
  | some x => x + 1
theorem fromI_nil : fromI [] = 1 := rfl
theorem fromI_snoc (l : List Int) (x : Int) : fromI (l ++ [x]) = x + 1 := by simp [fromI]
def ways (n : Nat) (l : List Int) : List Int := marks (fromI l) ((n : Int) + 1 - fromI l).toNat
theorem ways_mem {n : Nat} {l : List Int} {x : Int} : x ∈ ways n l ↔ fromI l ≤ x ∧ x ≤ n := by
  unfold ways marks
  rw [List.mem_map]
  constructor
  · rintro ⟨i, hi, rfl⟩
    have := List.mem_range.1 hi
    omega
  · rintro ⟨h1, h2⟩
    exact ⟨(x - fromI l).toNat, List.mem_range.2 (by omega), by omega⟩
def asc1 (n : Nat) (l : List Int) : List (List Int) := (ways n l).map fun x => l ++ [x]
def ascX (n : Nat) (ls : List (List Int)) : List (List Int) := ls.flatMap (asc1 n)
def ascI (n : Nat) : Nat → List (List Int)
  | 0 => [[]]
  | k + 1 => ascX n (ascI n k)
def ascF (n : Nat) : Nat → List Int → List (List Int)
  | 0, l => [l]
  | k + 1, l => (ways n l).flatMap fun x => ascF n k (l ++ [x])
theorem asc_iter (n : Nat) : ∀ (k i : Nat), ascI n (i + k) = (ascI n i).flatMap (ascF n k) := by
  intro k
  induction k with
  | zero => intro i; simp [ascF]
  | succ k ih =>
    intro i
    have h := ih (i + 1)
    rw [show i + (k + 1) = i + 1 + k by omega, h]
    show (ascX n (ascI n i)).flatMap (ascF n k) = _
    unfold ascX
    rw [List.flatMap_assoc]
    congr 1
    funext p
    unfold asc1
    rw [List.flatMap_map]
    rfl
theorem asc_fill (n k : Nat) : ascF n k [] = ascI n k := by
  have h := asc_iter n k 0
  rw [Nat.zero_add] at h
  rw [h]
  simp [ascI]
/-- Ascending, from 1 to n. -/
def Asc (n : Nat) (l : List Int) : Prop := (∀ x ∈ l, 1 ≤ x ∧ x ≤ n ∧ x < fromI l) ∧ l.Nodup
theorem Asc.nil (n : Nat) : Asc n [] := ⟨by simp, by simp⟩
theorem Asc.from {n : Nat} {l : List Int} (h : Asc n l) : 1 ≤ fromI l := by
  rcases hl : l.getLast? with _ | x
  · simp [fromI, hl]
  · have hm : x ∈ l := List.mem_of_getLast? hl
    have := h.1 x hm
    simp only [fromI, hl]
    omega
theorem Asc.snoc {n : Nat} {l : List Int} (h : Asc n l) {x : Int} (hx : x ∈ ways n l) : Asc n (l ++ [x]) := by
  obtain ⟨h1, h2⟩ := ways_mem.1 hx
  have hf := h.from
  refine ⟨fun y hy => ?_, (nodup_snoc l x).2 ⟨h.2, fun hm => by have := h.1 x hm; omega⟩⟩
  rw [fromI_snoc]
  rcases List.mem_append.1 hy with hy | hy
  · have := h.1 y hy
    omega
  · obtain rfl := List.mem_singleton.1 hy
    omega
theorem ascI_mem {n : Nat} : ∀ {k : Nat} {l : List Int}, l ∈ ascI n k → l.length = k ∧ Asc n l := by
  intro k
  induction k with
  | zero =>
    intro l h
    have : l = [] := by simpa [ascI] using h
    subst this
    exact ⟨rfl, Asc.nil n⟩
  | succ k ih =>
    intro l h
    obtain ⟨m, hm, hl⟩ := List.mem_flatMap.1 h
    obtain ⟨x, hx, rfl⟩ := List.mem_map.1 hl
    obtain ⟨h1, h2⟩ := ih hm
    exact ⟨by simp [h1], h2.snoc hx⟩
theorem marks_len (k : Int) (n : Nat) : (marks k n).length = n := by simp [marks]
theorem ways_le {n : Nat} {l : List Int} (h : 1 ≤ fromI l) : (ways n l).length ≤ n := by
  unfold ways
  rw [marks_len]
  omega
theorem ascI_le (n k : Nat) : (ascI n k).length ≤ n ^ k := by
  induction k with
  | zero => simp [ascI]
  | succ k ih =>
    have h := flatMap_le (asc1 n) n (ascI n k) (fun p hp => by
      unfold asc1
      rw [List.length_map]
      exact ways_le (ascI_mem hp).2.from)
    have h2 := Nat.mul_le_mul_right n ih
    rw [Nat.pow_succ]
    exact Nat.le_trans h h2

/-- The numbers at places. -/
def atL (p l : List Int) : List Int := l.map fun x => p[(x - 1).toNat]?.getD 0
theorem atL_length (p l : List Int) : (atL p l).length = l.length := by simp [atL]
def nth (p : List Int) (i : Int) : Int := p[i.toNat]?.getD 0
/-- The last place agrees with all before it. -/
def fitsB (p q l : List Int) : Bool := (List.range (l.length - 1)).all fun k => decide (q[k]?.getD 0 < q[l.length - 1]?.getD 0) == decide ((atL p l)[k]?.getD 0 < (atL p l)[l.length - 1]?.getD 0)
def occF (p q : List Int) : Nat → List Int → List (List Int)
  | 0, l => [l]
  | k + 1, l => ((ways p.length l).filter fun x => fitsB p q (l ++ [x])).flatMap fun x => occF p q k (l ++ [x])
def occI (p q : List Int) : List (List Int) := (ascI p.length q.length).filter fun l => decide (patL (atL p l) = q)
def occL (p q : List Int) : List (List Int) := occF p q q.length []
def allfits (p q l : List Int) : Bool := (List.range l.length).all fun j => fitsB p q (l.take (j + 1))
theorem allfits_snoc (p q l : List Int) (x : Int) : allfits p q (l ++ [x]) = (allfits p q l && fitsB p q (l ++ [x])) := by
  unfold allfits
  rw [List.length_append, List.length_singleton, List.range_succ, List.all_append]
  have h1 : ((List.range l.length).all fun j => fitsB p q ((l ++ [x]).take (j + 1))) = (List.range l.length).all fun j => fitsB p q (l.take (j + 1)) := by
    rw [Bool.eq_iff_iff, List.all_eq_true, List.all_eq_true]
    constructor
    · intro h j hj
      have h2 := h j hj
      have := List.mem_range.1 hj
      rwa [List.take_append_of_le_length (by omega)] at h2
    · intro h j hj
      have := List.mem_range.1 hj
      rw [List.take_append_of_le_length (by omega)]
      exact h j hj
  rw [h1]
  simp only [List.all_cons, List.all_nil, Bool.and_true]
  rw [List.take_of_length_le (by simp)]
theorem ascF_mem {n : Nat} : ∀ {k : Nat} {l m : List Int}, m ∈ ascF n k l → ∃ t, m = l ++ t ∧ t.length = k := by
  intro k
  induction k with
  | zero =>
    intro l m h
    have : m = l := by simpa [ascF] using h
    subst this
    exact ⟨[], by simp, rfl⟩
  | succ k ih =>
    intro l m h
    obtain ⟨x, _, hm⟩ := List.mem_flatMap.1 h
    obtain ⟨t, rfl, ht⟩ := ih hm
    exact ⟨x :: t, by simp, by simp [ht]⟩
theorem allfits_prefix {p q l t : List Int} (h : allfits p q (l ++ t) = true) : allfits p q l = true := by
  induction t generalizing l with
  | nil => simpa using h
  | cons x t ih =>
    have h2 : allfits p q ((l ++ [x]) ++ t) = true := by simpa using h
    have h3 := ih h2
    rw [allfits_snoc] at h3
    simp only [Bool.and_eq_true] at h3
    exact h3.1
theorem occF_filter (p q : List Int) : ∀ (k : Nat) (l : List Int), allfits p q l = true → occF p q k l = (ascF p.length k l).filter (allfits p q) := by
  intro k
  induction k with
  | zero => intro l h; simp [occF, ascF, h]
  | succ k ih =>
    intro l h
    show ((ways p.length l).filter fun x => fitsB p q (l ++ [x])).flatMap (fun x => occF p q k (l ++ [x])) = ((ways p.length l).flatMap fun x => ascF p.length k (l ++ [x])).filter (allfits p q)
    rw [List.filter_flatMap]
    generalize ways p.length l = W
    induction W with
    | nil => rfl
    | cons x W ihW =>
      rw [List.flatMap_cons, ← ihW]
      by_cases hf : fitsB p q (l ++ [x]) = true
      · rw [List.filter_cons_of_pos (by simpa using hf), List.flatMap_cons, ih (l ++ [x]) (by rw [allfits_snoc, h, hf]; rfl)]
      · rw [List.filter_cons_of_neg (by simpa using hf)]
        have : (ascF p.length k (l ++ [x])).filter (allfits p q) = [] := by
          rw [List.filter_eq_nil_iff]
          intro m hm ha
          obtain ⟨t, rfl, _⟩ := ascF_mem hm
          have h2 := allfits_prefix ha
          rw [allfits_snoc] at h2
          simp only [Bool.and_eq_true] at h2
          exact hf h2.2
        rw [this]
        rfl

theorem nodup_inj {l : List Int} (h : l.Nodup) {i j : Nat} (hi : i < l.length) (hj : j < l.length) (e : l[i] = l[j]) : i = j := by
  rw [List.nodup_iff_pairwise_ne] at h
  rcases Nat.lt_trichotomy i j with a | a | a
  · exact absurd e (List.pairwise_iff_getElem.1 h i j hi hj a)
  · exact a
  · exact absurd e.symm (List.pairwise_iff_getElem.1 h j i hj hi a)
theorem filter_len {L q : List Int} (P Q : Int → Bool) (hl : L.length = q.length) (h : ∀ j (h1 : j < L.length) (h2 : j < q.length), P L[j] = Q q[j]) : (L.filter P).length = (q.filter Q).length := by
  induction L generalizing q with
  | nil => cases q with
    | nil => rfl
    | cons a t => simp at hl
  | cons a t ih => cases q with
    | nil => simp at hl
    | cons b u =>
      have h0 := h 0 (by simp) (by simp)
      have h1 := ih (q := u) (by simpa using hl) (fun j h1 h2 => h (j + 1) (by simpa using h1) (by simpa using h2))
      simp only [List.getElem_cons_zero] at h0
      rw [List.filter_cons, List.filter_cons, h0]
      split <;> simp [h1]
theorem belowN_lt {L : List Int} {x y : Int} (hm : x ∈ L) (h : x < y) : belowN L x < belowN L y := by
  unfold belowN
  have h1 : ((L.filter fun z => decide (z < y)).filter fun z => decide (z < x)) = L.filter fun z => decide (z < x) := by
    rw [List.filter_filter]
    congr 1
    funext z
    by_cases hz : z < x
    · simp [hz, show z < y by omega]
    · simp [hz]
  rw [← h1]
  apply List.length_filter_lt_length_iff_exists.2
  exact ⟨x, List.mem_filter.2 ⟨hm, by simpa using h⟩, by simp⟩
theorem belowN_mono {L : List Int} {x y : Int} (h : x ≤ y) : belowN L x ≤ belowN L y := by
  unfold belowN
  have h1 : ((L.filter fun z => decide (z < y)).filter fun z => decide (z < x)) = L.filter fun z => decide (z < x) := by
    rw [List.filter_filter]
    congr 1
    funext z
    by_cases hz : z < x
    · simp [hz, show z < y by omega]
    · simp [hz]
  rw [← h1]
  exact List.length_filter_le _ _
theorem patL_lt {L : List Int} {i j : Nat} (hi : i < L.length) (hj : j < L.length) : ((patL L)[i]'(by rw [patL_length]; exact hi) < (patL L)[j]'(by rw [patL_length]; exact hj)) ↔ L[i] < L[j] := by
  simp only [patL, List.getElem_map]
  constructor
  · intro h
    rcases Int.lt_or_le L[i] L[j] with h1 | h1
    · exact h1
    · have := belowN_mono (L := L) h1
      omega
  · intro h
    have := belowN_lt (List.getElem_mem hi) h
    omega
/-- A list has a pattern where both rise and fall alike. -/
theorem patL_iff {L q : List Int} (hl : L.length = q.length) (hL : L.Nodup) (hq : permB q = true) :
    patL L = q ↔ ∀ i j (hi : i < L.length) (hj : j < L.length), i < j → (q[i]'(by omega) < q[j]'(by omega) ↔ L[i] < L[j]) := by
  obtain ⟨_, hr, hn⟩ := permB_true hq
  have hself := patL_self hn (m := q.length) hr rfl
  constructor
  · intro h i j hi hj hij
    subst h
    exact patL_lt hi hj
  · intro h
    rw [← hself]
    apply List.ext_getElem
    · rw [patL_length, patL_length, hl]
    · intro i h1 h2
      rw [patL_length] at h1 h2
      simp only [patL, List.getElem_map]
      have : belowN L L[i] = belowN q q[i] := by
        apply filter_len _ _ hl
        intro j h3 h4
        rw [decide_eq_decide]
        rcases Nat.lt_trichotomy j i with hlt | rfl | hgt
        · exact (h j i h3 h1 hlt).symm
        · constructor <;> intro hh <;> omega
        · have h5 := h i j h1 h3 hgt
          have e1 : L[i] ≠ L[j] := fun e => by have := nodup_inj hL _ _ e; omega
          have e2 : q[i] ≠ q[j] := fun e => by have := nodup_inj hn _ _ e; omega
          omega
      rw [this]
theorem nth_inj {p : List Int} (hp : p.Nodup) {x y : Int} (hx : 1 ≤ x ∧ x ≤ p.length) (hy : 1 ≤ y ∧ y ≤ p.length) (h : p[(x - 1).toNat]?.getD 0 = p[(y - 1).toNat]?.getD 0) : x = y := by
  have h1 : (x - 1).toNat < p.length := by omega
  have h2 : (y - 1).toNat < p.length := by omega
  rw [List.getElem?_eq_getElem h1, List.getElem?_eq_getElem h2] at h
  simp only [Option.getD_some] at h
  have := nodup_inj hp _ _ h
  omega
theorem atL_nodup {p l : List Int} (hp : p.Nodup) (hl : Asc p.length l) : (atL p l).Nodup := by
  unfold atL
  rw [List.nodup_iff_pairwise_ne, List.pairwise_map]
  have h := hl.2
  rw [List.nodup_iff_pairwise_ne] at h
  refine h.imp_of_mem fun {a b} ha hb hab e => hab ?_
  have h1 := hl.1 a ha
  have h2 := hl.1 b hb
  exact nth_inj hp ⟨h1.1, h1.2.1⟩ ⟨h2.1, h2.2.1⟩ e
theorem fitsB_iff {p q l : List Int} {n : Nat} (hl : l.length = n + 1) (hq : n < q.length) : fitsB p q l = true ↔ ∀ k (hk : k < n), (q[k] < q[n] ↔ (atL p l)[k]'(by rw [atL_length]; omega) < (atL p l)[n]'(by rw [atL_length]; omega)) := by
  unfold fitsB
  rw [List.all_eq_true]
  have hn : l.length - 1 = n := by omega
  rw [hn]
  constructor
  · intro h k hk
    have h1 := h k (List.mem_range.2 hk)
    rw [List.getElem?_eq_getElem (show k < q.length by omega), List.getElem?_eq_getElem hq, List.getElem?_eq_getElem (show k < (atL p l).length by rw [atL_length]; omega), List.getElem?_eq_getElem (show n < (atL p l).length by rw [atL_length]; omega)] at h1
    simpa using h1
  · intro h k hk
    have hk := List.mem_range.1 hk
    have h1 := h k hk
    rw [List.getElem?_eq_getElem (show k < q.length by omega), List.getElem?_eq_getElem hq, List.getElem?_eq_getElem (show k < (atL p l).length by rw [atL_length]; omega), List.getElem?_eq_getElem (show n < (atL p l).length by rw [atL_length]; omega)]
    simpa using h1
theorem allfits_iff {p q l : List Int} (hl : l.length = q.length) : allfits p q l = true ↔ ∀ i j (hi : i < l.length) (hj : j < l.length), i < j → (q[i]'(by omega) < q[j]'(by omega) ↔ (atL p l)[i]'(by rw [atL_length]; omega) < (atL p l)[j]'(by rw [atL_length]; omega)) := by
  unfold allfits
  rw [List.all_eq_true]
  have key : ∀ (j : Nat) (hj : j < l.length) (k : Nat) (hk : k < j + 1), (atL p (l.take (j + 1)))[k]'(by rw [atL_length, List.length_take]; omega) = (atL p l)[k]'(by rw [atL_length]; omega) := by
    intro j hj k hk
    simp [atL]
  constructor
  · intro h i j hi hj hij
    have h1 := (fitsB_iff (p := p) (q := q) (n := j) (by rw [List.length_take]; omega) (by omega)).1 (h j (List.mem_range.2 hj)) i hij
    rw [key j hj i (by omega), key j hj j (by omega)] at h1
    exact h1
  · intro h j hj
    have hj := List.mem_range.1 hj
    rw [fitsB_iff (n := j) (by rw [List.length_take]; omega) (by omega)]
    intro k hk
    rw [key j hj k (by omega), key j hj j (by omega)]
    exact h k j (by omega) hj hk
theorem allfits_pat {p q l : List Int} (hp : permB p = true) (hq : permB q = true) (hl : l ∈ ascI p.length q.length) : allfits p q l = decide (patL (atL p l) = q) := by
  obtain ⟨h1, h2⟩ := ascI_mem hl
  have hn := atL_nodup (permB_true hp).2.2 h2
  have hi := patL_iff (L := atL p l) (q := q) (by rw [atL_length, h1]) hn hq
  rw [Bool.eq_iff_iff, allfits_iff h1, decide_eq_true_eq, hi]
  constructor
  · intro h i j hi hj hij
    rw [atL_length] at hi hj
    exact h i j hi hj hij
  · intro h i j hi hj hij
    exact h i j (by rw [atL_length]; exact hi) (by rw [atL_length]; exact hj) hij
theorem occ_eq {p q : List Int} (hp : permB p = true) (hq : permB q = true) : occL p q = occI p q := by
  unfold occL occI
  rw [occF_filter p q q.length [] rfl, asc_fill]
  exact List.filter_congr fun l hl => allfits_pat hp hq hl
theorem occF_le (p q : List Int) : ∀ (k : Nat) (l : List Int), 1 ≤ fromI l → (occF p q k l).length ≤ p.length ^ k := by
  intro k
  induction k with
  | zero => intro l _; simp [occF]
  | succ k ih =>
    intro l hl
    have hm : ∀ x ∈ (ways p.length l).filter fun x => fitsB p q (l ++ [x]), (occF p q k (l ++ [x])).length ≤ p.length ^ k := fun x hx => by
      have := (ways_mem.1 (List.mem_filter.1 hx).1).1
      exact ih _ (by rw [fromI_snoc]; omega)
    have h := flatMap_le (fun x => occF p q k (l ++ [x])) (p.length ^ k) _ hm
    have h1 : ((ways p.length l).filter fun x => fitsB p q (l ++ [x])).length ≤ p.length := Nat.le_trans (List.length_filter_le _ _) (ways_le hl)
    have h2 := Nat.mul_le_mul_right (p.length ^ k) h1
    rw [Nat.pow_succ, Nat.mul_comm]
    exact Nat.le_trans h h2

/-- Does the pattern occur? -/
def hasB (p q : List Int) : Bool := !(occL p q).isEmpty
/-- Places counted from 0, as the program counts them. -/
def from0 (l : List Int) : Int := match l.getLast? with
  | none => 0
  | some x => x + 1
theorem from0_up (l : List Int) : fromI (l.map (· + 1)) = from0 l + 1 := by
  unfold fromI from0
  rw [List.getLast?_map]
  cases l.getLast? <;> rfl
def up (l : List Int) : List Int := l.map (· + 1)
def hasF (p q : List Int) : Nat → List Int → Bool
  | 0, _ => true
  | k + 1, l => (marks (from0 l) ((p.length : Int) - (k + 1) + 1 - from0 l).toNat).any fun i => fitsB p q (up (l ++ [i])) && hasF p q k (l ++ [i])
theorem occF_none (p q : List Int) : ∀ (k : Nat) (l : List Int), (p.length : Int) + 1 < fromI l + k → 1 ≤ k → occF p q k l = [] := by
  intro k
  induction k with
  | zero => intro l _ h; omega
  | succ k ih =>
    intro l h _
    show ((ways p.length l).filter fun x => fitsB p q (l ++ [x])).flatMap (fun x => occF p q k (l ++ [x])) = []
    rw [List.flatMap_eq_nil_iff]
    intro x hx
    obtain ⟨h1, h2⟩ := ways_mem.1 (List.mem_filter.1 hx).1
    rcases Nat.eq_zero_or_pos k with rfl | hk
    · exfalso; simp at h; omega
    · exact ih _ (by rw [fromI_snoc]; push_cast at h; omega) hk
theorem hasF_eq (p q : List Int) : ∀ (k : Nat) (l : List Int), hasF p q k l = !(occF p q k (up l)).isEmpty := by
  intro k
  induction k with
  | zero => intro l; simp [hasF, occF]
  | succ k ih =>
    intro l
    have hup : ∀ x, up l ++ [x + 1] = up (l ++ [x]) := fun x => by simp [up]
    rw [Bool.eq_iff_iff]
    constructor
    · intro h
      obtain ⟨i, hi, h1⟩ := List.any_eq_true.1 h
      simp only [Bool.and_eq_true] at h1
      rw [ih] at h1
      obtain ⟨m, hm, rfl⟩ := List.mem_map.1 hi
      have hm := List.mem_range.1 hm
      rw [Bool.not_eq_true', List.isEmpty_eq_false_iff] at h1 ⊢
      intro he
      have h2 : (from0 l + m + 1) ∈ (ways p.length (up l)).filter fun x => fitsB p q (up l ++ [x]) := by
        refine List.mem_filter.2 ⟨ways_mem.2 ?_, by rw [hup]; exact h1.1⟩
        rw [show fromI (up l) = from0 l + 1 from from0_up l]
        push_cast at hm
        omega
      have h3 := List.flatMap_eq_nil_iff.1 he _ h2
      rw [hup] at h3
      exact h1.2 h3
    · intro h
      rw [Bool.not_eq_true', List.isEmpty_eq_false_iff] at h
      have hne : ∃ x, x ∈ ((ways p.length (up l)).filter fun x => fitsB p q (up l ++ [x])) ∧ occF p q k (up l ++ [x]) ≠ [] := by
        apply Classical.byContradiction
        intro hno
        apply h
        show ((ways p.length (up l)).filter fun x => fitsB p q (up l ++ [x])).flatMap (fun x => occF p q k (up l ++ [x])) = []
        rw [List.flatMap_eq_nil_iff]
        intro x hx
        apply Classical.byContradiction
        intro hc
        exact hno ⟨x, hx, hc⟩
      obtain ⟨x, hx, hc⟩ := hne
      obtain ⟨hx1, hx2⟩ := List.mem_filter.1 hx
      obtain ⟨h1, h2⟩ := ways_mem.1 hx1
      rw [show fromI (up l) = from0 l + 1 from from0_up l] at h1
      obtain ⟨i, rfl⟩ : ∃ i, x = i + 1 := ⟨x - 1, by omega⟩
      rw [hup] at hx2 hc
      refine List.any_eq_true.2 ⟨i, List.mem_map.2 ⟨(i - from0 l).toNat, List.mem_range.2 ?_, by omega⟩, ?_⟩
      · rcases Nat.eq_zero_or_pos k with rfl | hk
        · simp; omega
        · have : ¬ ((p.length : Int) + 1 < fromI (up (l ++ [i])) + k) := fun h => hc (occF_none p q k _ h hk)
          rw [show fromI (up (l ++ [i])) = from0 (l ++ [i]) + 1 from from0_up _] at this
          have e : from0 (l ++ [i]) = i + 1 := by simp [from0]
          rw [e] at this
          push_cast
          omega
      · simp only [Bool.and_eq_true]
        rw [ih, Bool.not_eq_true', List.isEmpty_eq_false_iff]
        exact ⟨hx2, hc⟩
theorem hasF_all (p q : List Int) : hasF p q q.length [] = hasB p q := hasF_eq p q q.length []
end Go.Proofs.Ythipikllgpnlhaa

/- The laws' own helpers for meshes: turned from N2. -/
namespace Go.Proofs.Ythipikllgpnlhaa
set_option maxRecDepth 100000
open Go Go.RowKit

structure InM (w : World) (A : Option Addr) (c : Nat) (xs : List Int) (B : Option Addr) (k : Nat) (rs : List Row) : Prop where
  fst : In w A c xs
  snd : InL w B k rs
theorem InM.next {w w' : World} {A : Option Addr} {c : Nat} {xs : List Int} {B : Option Addr} {k : Nat} {rs : List Row} (h : InM w A c xs B k rs) (hb : Below w.heap.size w w') : InM w' A c xs B k rs := ⟨h.1.next hb, h.2.next hb⟩
theorem Read.tail {w : World} {B : Nat} {r : Row} {rs : List Row} {os : List Outer} (h : Read w B (r :: rs) os) : Read w B rs os := ⟨fun s hs => h.cap s (List.mem_cons_of_mem _ hs), fun s hs => h.rd s (List.mem_cons_of_mem _ hs), h.ocap, h.ord⟩
theorem Read.toM {w : World} {hi : Nat} {A B : Option Addr} {c k : Nat} {xs : List Int} {rs : List Row} (h : Read w hi (⟨A, c, xs⟩ :: rs) [⟨B, k, rs.map Row.v⟩]) (hl : xs.length ≤ 1048576) (hl' : rs.length + sizeR rs ≤ 1048576) (hB : hi ≤ w.heap.size) : InM w A c xs B k rs :=
  ⟨h.mem (r := ⟨A, c, xs⟩) List.mem_cons_self hl hB, h.tail.toL hl' hB⟩





end Go.Proofs.Ythipikllgpnlhaa

/- A list of rows that is sifted: some of its rows go into another list. -/
namespace Go.Proofs.Ythipikllgpnlhaa
set_option maxRecDepth 100000
open Go Go.RowKit

/-- The rows of a list (blocks from a to b), and another outer slice beside them. -/
structure Sift (w : World) (lo a b : Nat) (rs : List Row) (o : Outer) (A : Option Addr) (c : Nat) (vs : List Value) : Prop where
  rows : Own w a b rs [o]
  out : w.ownsRow lo 24 1 (.slice A vs.length c) vs.length vs
  off : ∀ g, (Value.slice A vs.length c).ownBlock = some g → g < a ∨ b ≤ g

section
variable {w w' : World} {lo a b : Nat} {rs : List Row} {o : Outer} {A : Option Addr} {c : Nat} {vs : List Value}
theorem Sift.below (h : Sift w lo a b rs o A c vs) (hb : Below w.heap.size w w') : Sift w' lo a b rs o A c vs := ⟨h.rows.below hb, own_below h.out hb, h.off⟩
theorem Sift.dr (h : Sift w lo a b rs o A c vs) (hd : Dr w w') : Sift w' lo a b rs o A c vs := ⟨h.rows.dr hd, hd.own h.out, h.off⟩
theorem Sift.outN {n : Nat} (h : Sift w lo a b rs o A c vs) (hn : vs.length = n) : w.ownsRow lo 24 1 (.slice A n c) n vs := by subst hn; exact h.out
theorem Sift.grow {n : Nat} {u v1 : Value} {ob : Obj} (h : Sift w lo a b rs o A c vs) (hb : b ≤ w.heap.size) (hn : vs.length = n)
    (h1 : w'.ownsRow lo 24 1 v1 (n + 1) (vs ++ [u])) (hg : (w.alloc ob).grownBy w' (Value.slice A n c).ownBlock) (hat : v1.ownBlock = (Value.slice A n c).ownBlock ∨ v1.ownBlock = some (w.alloc ob).heap.size) :
    ∃ A1 c1, v1 = .slice A1 (n + 1) c1 ∧ Sift w' lo a b rs o A1 c1 (vs ++ [u]) ∧ w.grownBy w' (Value.slice A n c).ownBlock := by
  subst hn
  obtain ⟨A1, c1, rfl, _, _⟩ := own_shape h1
  have hg2 : w.grownBy w' (Value.slice A vs.length c).ownBlock := grown_trans (World.grownBy_alloc w ob _) hg
  refine ⟨A1, c1, rfl, ⟨?_, by simpa using h1, fun g hgg => ?_⟩, hg2⟩
  · rcases hv : (Value.slice A vs.length c).ownBlock with _ | g
    · rw [hv] at hg2
      exact h.rows.below (below_none hg2)
    · rw [hv] at hg2
      have hoff := h.off g hv
      exact h.rows.span (Span.of_grown (lo := g) (hi := g + 1) hg2 (fun q hq => by injection hq with hq; omega)) (by omega)
  · have hgg' : (Value.slice A1 (vs.length + 1) c1).ownBlock = some g := by simpa [Value.ownBlock] using hgg
    rcases hat with e | e
    · rw [e] at hgg'; exact h.off g hgg'
    · rw [e] at hgg'
      injection hgg' with hgg'
      simp at hgg'
      exact .inr (by omega)
theorem Sift.olim {n : Nat} (h : Sift w lo a b rs o A c vs) (hn : vs.length = n) : ∀ g, (Value.slice A n c).ownBlock = some g → lo ≤ g := fun g hg => by
  subst hn
  exact (h.out.lt g hg).1
theorem Sift.done {rs' : List Row} (h : Sift w lo a b rs o A c vs) (hv : vs = rs'.map Row.v) (hs : rs'.Sublist rs) (hlo : lo ≤ a) (hb : b ≤ w.heap.size) : Own w lo w.heap.size rs' [⟨A, c, rs'.map Row.v⟩] := by
  subst hv
  exact ((h.rows.bare.sub hs).wider hlo hb).with_ h.out (Nat.le_refl _)
/-- The list is there; the other one is the empty literal that lay before it. -/
theorem Sift.start {w0 : World} (h : Own w a b rs [o]) (ho : w0.ownsRow lo 24 1 (.slice A 0 c) 0 []) (hb : Below w0.heap.size w0 w) (ha : w0.heap.size ≤ a) : Sift w lo a b rs o A c [] :=
  ⟨h, own_below ho hb, fun g hg => .inl (by have := (ho.lt g hg).2; omega)⟩
end
end Go.Proofs.Ythipikllgpnlhaa

/- An outer slice of a call's own whose rows are only read, or are the call's own: it grows by append. -/
namespace Go.Proofs.Ythipikllgpnlhaa
set_option maxRecDepth 100000
open Go Go.RowKit

/-- A row that lies below lo, or is owned. -/
def RowOk (w : World) (lo : Nat) (r : Row) : Prop := r.xs.length ≤ r.c ∧ (Rd (Value.int .i64) w lo r.A r.xs ∨ w.ownsRow lo 3 1 r.v r.xs.length (r.xs.map (Value.int .i64)))
structure OutL (w : World) (lo : Nat) (A : Option Addr) (c : Nat) (rs : List Row) : Prop where
  out : w.ownsRow lo 24 1 (.slice A rs.length c) rs.length (rs.map Row.v)
  rows : ∀ r ∈ rs, RowOk w lo r
theorem own_typesO {w : World} {b1 e1 n1 b2 e2 n2 : Nat} {v1 v2 : Value} {x1 x2 : List Value} (h1 : w.ownsRow b1 e1 1 v1 n1 x1) (h2 : w.ownsRow b2 e2 1 v2 n2 x2) (he : e1 ≠ e2) : v1.ownBlock = none ∨ v1.ownBlock ≠ v2.ownBlock := by
  rcases h1.2 with ⟨e, _⟩ | ⟨g1, c1, cur1, e1', _, hh1, _⟩
  · exact .inl (by rw [e]; rfl)
  · refine .inr fun h => ?_
    rcases h2.2 with ⟨e, _⟩ | ⟨g2, c2, cur2, e2', _, hh2, _⟩
    · rw [e, e1'] at h; cases h
    · rw [e1', e2'] at h
      injection h with h
      simp only at h
      subst h
      rw [hh1] at hh2
      injection hh2 with hh2
      injection hh2 with _ ht _
      exact he ht
section
variable {w w' : World} {lo : Nat} {A : Option Addr} {c : Nat} {rs : List Row} {r : Row}
theorem RowOk.in_ (h : RowOk w lo r) (hl : r.xs.length ≤ 1048576) (hlo : lo ≤ w.heap.size) : In w r.A r.c r.xs := ⟨hl, h.1, by
  rcases h.2 with h2 | h2
  · exact h2.more hlo
  · exact Rd.of_own (c := r.c) h2⟩
theorem RowOk.of_in {A : Option Addr} {c : Nat} {xs : List Int} (h : In w A c xs) (hlo : w.heap.size ≤ lo) : RowOk w lo ⟨A, c, xs⟩ := ⟨h.cap, .inl (h.rd.more hlo)⟩
theorem RowOk.below (h : RowOk w lo r) (hb : Below w.heap.size w w') (hlo : lo ≤ w.heap.size) : RowOk w' lo r := ⟨h.1, by
  rcases h.2 with h2 | h2
  · exact .inl (h2.below (hb.mono hlo))
  · exact .inr (own_below h2 hb)⟩
theorem RowOk.dr (h : RowOk w lo r) (hd : Dr w w') : RowOk w' lo r := ⟨h.1, h.2.imp (fun h => h.dr hd) fun h => hd.own h⟩
/-- A cell of another kind is written. -/
theorem RowOk.span {a b : Nat} (h : RowOk w lo r) (hs : Span a b w w') (ha : lo ≤ a) (hlo : lo ≤ w.heap.size) (hg : ∀ g, r.v.ownBlock = some g → g < a ∨ b ≤ g) : RowOk w' lo r := ⟨h.1, by
  rcases h.2 with h2 | h2
  · exact .inl (h2.below (hs.below ha hlo))
  · exact .inr (own_span h2 hs hg)⟩
theorem OutL.below (h : OutL w lo A c rs) (hb : Below w.heap.size w w') (hlo : lo ≤ w.heap.size) : OutL w' lo A c rs := ⟨own_below h.out hb, fun r hr => (h.rows r hr).below hb hlo⟩
theorem OutL.dr (h : OutL w lo A c rs) (hd : Dr w w') : OutL w' lo A c rs := ⟨hd.own h.out, fun r hr => (h.rows r hr).dr hd⟩
/-- A block that is no row of whole numbers and not the outer slice's is written. -/
theorem OutL.box {g i : Nat} {cs : Array Value} {t : TypeId} (h : OutL w lo A c rs) (hlo : lo ≤ g) (hls : lo ≤ w.heap.size) (ho : w.heap[g]? = some (Obj.cells cs t (0, 0))) (h1 : t ≠ 3) (h2 : t ≠ 24) (v : Value) : OutL (w.setCell ⟨g, i, none⟩ v) lo A c rs := by
  have hs : Span g (g + 1) w (w.setCell ⟨g, i, none⟩ v) := Span.set (p := ⟨g, i, none⟩) (Nat.le_refl _) (Nat.lt_succ_self _) _
  have key : ∀ {b e n : Nat} {u : Value} {xs : List Value}, w.ownsRow b e 1 u n xs → t ≠ e → ∀ q, u.ownBlock = some q → q < g ∨ g + 1 ≤ q := by
    intro b e n u xs ho2 hne q hq
    rcases ho2.2 with ⟨e1, _⟩ | ⟨g1, c1, cur1, e1', _, hh1, _⟩
    · rw [e1] at hq; cases hq
    · rw [e1'] at hq
      injection hq with hq
      have hq : g1 = q := hq
      subst hq
      by_cases hgq : g1 = g
      · subst hgq
        rw [ho] at hh1
        injection hh1 with hh1
        injection hh1 with _ ht _
        exact absurd ht hne
      · omega
  refine ⟨own_span h.out hs (key h.out h2), fun r hr => ?_⟩
  have hr := h.rows r hr
  refine ⟨hr.1, ?_⟩
  rcases hr.2 with h3 | h3
  · exact .inl (h3.below (hs.below hlo hls))
  · exact .inr (own_span h3 hs (key h3 h1))
theorem OutL.inL (h : OutL w lo A c rs) (hlo : lo ≤ w.heap.size) (hs : rs.length + sizeR rs ≤ 1048576) : InL w A c rs := by
  refine ⟨hs, ⟨fun r hr => (h.rows r hr).1, fun r hr => ((h.rows r hr).in_ (by have := sizeR_mem hr; omega) hlo).rd, fun o ho => ?_, fun o ho => ?_⟩⟩
  · obtain rfl := List.mem_singleton.1 ho
    have := (own_caps (A := A) (n := rs.length) (c := c) h.out).1
    simpa using this
  · obtain rfl := List.mem_singleton.1 ho
    exact Rd.of_own (f := id) (e := 24) (c := c) (by rw [List.map_id, List.length_map]; exact h.out)
/-- append of a row's header. -/
theorem OutL.push {o : Obj} {v1 : Value} {n : Nat} (h : OutL w lo A c rs) (hn : rs.length = n) (hlo : lo ≤ w.heap.size) (hr : RowOk w lo r)
    (h1 : w'.ownsRow lo 24 1 v1 (n + 1) (rs.map Row.v ++ [r.v])) (hg : (w.alloc o).grownBy w' (Value.slice A n c).ownBlock) :
    ∃ A1 c1, v1 = .slice A1 (n + 1) c1 ∧ OutL w' lo A1 c1 (rs ++ [r]) ∧ w.grownBy w' (Value.slice A n c).ownBlock ∧ w.heap.size < w'.heap.size := by
  subst hn
  obtain ⟨A1, c1, rfl, _, _⟩ := own_shape h1
  have hgg := grown_trans (World.grownBy_alloc w o _) hg
  have hsz : w.heap.size < w'.heap.size := by have := hg.size; simp at this; omega
  have key : ∀ s, RowOk w lo s → RowOk w' lo s := fun s hs => by
    refine ⟨hs.1, ?_⟩
    rcases hs.2 with h3 | h3
    · exact .inl (h3.grown hgg hlo fun g hgq => (h.out.lt g hgq).1)
    · exact .inr (h3.kept hgg (own_typesO h3 h.out (by decide)))
  refine ⟨A1, c1, rfl, ⟨by simpa using h1, fun s hs => ?_⟩, hgg, hsz⟩
  rcases List.mem_append.1 hs with hs | hs
  · exact key s (h.rows s hs)
  · obtain rfl := List.mem_singleton.1 hs
    exact key _ hr
/-- append of rows' headers. -/
theorem OutL.pushes {v1 : Value} {n m : Nat} {qs : List Row} (h : OutL w lo A c rs) (hn : rs.length = n) (hm : qs.length = m) (hlo : lo ≤ w.heap.size) (hr : ∀ r ∈ qs, RowOk w lo r)
    (h1 : w'.ownsRow lo 24 1 v1 (n + m) (rs.map Row.v ++ qs.map Row.v)) (hgg : w.grownBy w' (Value.slice A n c).ownBlock) :
    ∃ A1 c1, v1 = .slice A1 (n + m) c1 ∧ OutL w' lo A1 c1 (rs ++ qs) := by
  subst hn hm
  obtain ⟨A1, c1, rfl, _, _⟩ := own_shape h1
  have key : ∀ s, RowOk w lo s → RowOk w' lo s := fun s hs => by
    refine ⟨hs.1, ?_⟩
    rcases hs.2 with h3 | h3
    · exact .inl (h3.grown hgg hlo fun g hgq => (h.out.lt g hgq).1)
    · exact .inr (h3.kept hgg (own_typesO h3 h.out (by decide)))
  refine ⟨A1, c1, rfl, ⟨by simpa using h1, fun s hs => ?_⟩⟩
  rcases List.mem_append.1 hs with hs | hs
  · exact key s (h.rows s hs)
  · exact key s (hr s hs)
theorem OutL.nil (w : World) (lo : Nat) : OutL w lo none 0 [] := ⟨⟨rfl, .inl ⟨rfl, rfl⟩⟩, fun _ hr => (List.not_mem_nil hr).elim⟩
theorem OutL.lt (h : OutL w lo A c rs) {n : Nat} (hn : rs.length = n) : ∀ g, (Value.slice A n c).ownBlock = some g → lo ≤ g ∧ g < w.heap.size := fun g hg => by subst hn; exact h.out.lt g hg
end
/-- The row [x, y] that was laid down by a literal. -/
theorem RowOk.two {w : World} {lo bl : Nat} {x y : Int} (h : w.heap[bl]? = some (Obj.cells #[.int .i64 x, .int .i64 y] 3 (0, 0))) (hl : lo ≤ bl) : RowOk w lo ⟨some ⟨bl, 0, none⟩, 2, [x, y]⟩ := by
  exact ⟨Nat.le_refl _, .inr ⟨rfl, .inr ⟨bl, 2, #[.int .i64 x, .int .i64 y], rfl, hl, h, Nat.le_refl _, by unfold maxLen; omega, rfl, rfl⟩⟩⟩
end Go.Proofs.Ythipikllgpnlhaa

/- IsMesh, program and reference. -/
namespace Go.Proofs.Ythipikllgpnlhaa
set_option maxRecDepth 100000
open Go Go.RowKit

/-- A box over a permutation of length n. -/
def boxOk (n : Nat) (s : List Int) : Bool := match s with
  | [a, b] => decide (0 ≤ a ∧ a ≤ n ∧ 0 ≤ b ∧ b ≤ n)
  | _ => false
/-- The box at k is right, and behind the one ahead of it. -/
def meshAt (n : Nat) (X : List (List Int)) (k : Nat) : Bool := boxOk n (X[k]?.getD []) && (decide (k = 0) || decide (cmpL (X[k - 1]?.getD []) (X[k]?.getD []) < 0))
def meshTo (n : Nat) (X : List (List Int)) (k : Nat) : Bool := (List.range k).all (meshAt n X)
theorem boxOk_two {n : Nat} {s : List Int} (h : boxOk n s = true) : s.length = 2 := by
  match s with
  | [a, b] => rfl
  | [] => simp [boxOk] at h
  | [_] => simp [boxOk] at h
  | _ :: _ :: _ :: _ => simp [boxOk] at h
theorem meshTo_succ (n : Nat) (X : List (List Int)) (k : Nat) : meshTo n X (k + 1) = (meshTo n X k && meshAt n X k) := by simp [meshTo, List.range_succ]
theorem meshTo_false {n : Nat} {X : List (List Int)} {k m : Nat} (h : k < m) (ht : meshAt n X k = false) : meshTo n X m = false := by
  unfold meshTo
  rw [List.all_eq_false]
  exact ⟨k, List.mem_range.2 h, by simp [ht]⟩
def meshB (xs : List Int) (X : List (List Int)) : Bool := permB xs && decide (xs.length ≤ 4) && meshTo xs.length X X.length

set_option maxHeartbeats 2000000 in
theorem mesh_impl (A B : Option Addr) (c k : Nat) (xs : List Int) (rs : List Row) (w : World) (h : InM w A c xs B k rs) :
    Calls Try.prog 17 #[.agg #[.slice A xs.length c, .slice B rs.length k]] w (Rb w (.bool (meshB xs (rs.map Row.xs)))) := by
  have hlx := h.1.len
  have hly := h.2.len
  by_cases hp : permB xs = true
  · have HP := Lib.hid hp
    go_enter Try.func17, Try.ntmps17
    have hb0 : Below w.heap.size w (w.alloc (Obj.cells #[Value.slice A xs.length c, Value.slice B rs.length k] 27)) := (Below.refl _ _).alloc (Nat.le_refl _) _
    have ob := obj_new w (Obj.cells #[Value.slice A xs.length c, Value.slice B rs.length k] 27)
    go_wp2_with fail
    generalize (w.alloc (Obj.cells #[Value.slice A xs.length c, Value.slice B rs.length k] 27)) = w0 at hb0 ob ⊢
    (with_reducible refine (isPerm_impl A c xs _ (h.1.next hb0)).mono ?_)
    rintro e w1 ⟨rfl, hb1⟩
    rw [hp]
    clear hp
    have hb := hb0.trans (hb1.mono hb0.size)
    have ob := obj_below ob hb1 (obj_lt ob)
    have f0 : w1.cell? ⟨w.heap.size, 0, none⟩ = some (Value.slice A xs.length c) := (obj_cell ob).trans rfl
    have f1 : w1.cell? ⟨w.heap.size, 1, none⟩ = some (Value.slice B rs.length k) := (obj_cell ob).trans rfl
    by_cases h4 : xs.length ≤ 4
    · have H4 := Lib.hid (show decide (xs.length ≤ 4) = true from decide_eq_true h4)
      go_wp2
      go_loopw [18] (fun i wr => ∃ j : Nat, j ≤ rs.length ∧ i = .int .i64 j ∧ meshTo xs.length (rs.map Row.xs) j = true ∧ Dr w1 wr) (fun i _ => rs.length - (intOf i).toNat)
      case atStart => exact ⟨0, Nat.zero_le _, rfl, rfl, Dr.refl _⟩
      case round =>
        obtain ⟨j, hj, rfl, hall, hd⟩ := hrel
        have HA := Lib.hid hall
        clear hall
        have g0 : wr.cell? ⟨w.heap.size, 0, none⟩ = some (Value.slice A xs.length c) := (hd.cell _).trans f0
        have g1 : wr.cell? ⟨w.heap.size, 1, none⟩ = some (Value.slice B rs.length k) := (hd.cell _).trans f1
        by_cases hlt : j < rs.length
        · have hL := (h.2.next hb).dr hd
          obtain ⟨b, off, rfl, _, hc⟩ := hL.read.at (by omega)
          have c1 := hc j hlt
          have hX : (rs.map Row.xs)[j]?.getD [] = rs[j].xs := by simp [hlt]
          by_cases h2 : rs[j].xs.length = 2
          · obtain ⟨a, bb, hab⟩ : ∃ a bb, rs[j].xs = [a, bb] := by
              match hq : rs[j].xs, h2 with
              | [a, bb], _ => exact ⟨a, bb, rfl⟩
            have hrow := (hL.row (List.getElem_mem hlt)).rd
            rw [hab] at hrow
            obtain ⟨rb, ro, hA', _, hcc⟩ := hrow (by simp)
            have e0 : wr.cell? ⟨rb, ro, none⟩ = some (.int .i64 a) := hcc 0 (by simp)
            have e1 : wr.cell? ⟨rb, ro + 1, none⟩ = some (.int .i64 bb) := hcc 1 (by simp)
            rw [hA', h2] at c1
            have hB : boxOk xs.length rs[j].xs = decide (0 ≤ a ∧ a ≤ (xs.length : Int) ∧ 0 ≤ bb ∧ bb ≤ (xs.length : Int)) := by rw [hab]; rfl
            by_cases hm : (if bb < a then bb else a) < 0
            · have dm : decide ((if bb < a then bb else a) < 0) = true := decide_eq_true hm
              have HT := Lib.hid (show meshAt xs.length (rs.map Row.xs) j = false by unfold meshAt; rw [hX, Bool.and_eq_false_iff, hB]; exact .inl (decide_eq_false (by split at hm <;> omega)))
              clear hc h2 hX hB hm hab hcc
              go_wp2
              go_quiet (fail)
              all_goals go_wp2
              all_goals (go_ret; exact ⟨ret_bool (by rw [meshB, meshTo_false (by simpa using hlt) HT.out, Bool.and_false]), below_dr hb (by first | with_reducible assumption | with_reducible exact hd | with_reducible exact Dr.drewN hd _ | with_reducible exact Dr.drewN (Dr.drewN hd _) _ | with_reducible exact Dr.drew hd)⟩)
            · have dm : decide ((if bb < a then bb else a) < 0) = false := decide_eq_false hm
              by_cases hM : (xs.length : Int) < (if a < bb then bb else a)
              · have dM : decide ((xs.length : Int) < (if a < bb then bb else a)) = true := decide_eq_true hM
                have HT := Lib.hid (show meshAt xs.length (rs.map Row.xs) j = false by unfold meshAt; rw [hX, Bool.and_eq_false_iff, hB]; exact .inl (decide_eq_false (by split at hM <;> omega)))
                clear hc h2 hX hB hm hM hab hcc
                go_wp2
                go_quiet (fail)
                all_goals go_wp2
                all_goals (go_ret; exact ⟨ret_bool (by rw [meshB, meshTo_false (by simpa using hlt) HT.out, Bool.and_false]), below_dr hb (by first | with_reducible assumption | with_reducible exact hd | with_reducible exact Dr.drewN hd _ | with_reducible exact Dr.drewN (Dr.drewN hd _) _ | with_reducible exact Dr.drew hd)⟩)
              · have dM : decide ((xs.length : Int) < (if a < bb then bb else a)) = false := decide_eq_false hM
                have hOK : boxOk xs.length rs[j].xs = true := by rw [hB]; exact decide_eq_true (by split at hm <;> split at hM <;> omega)
                clear hm hM hB
                rcases Nat.eq_zero_or_pos j with h0 | h0
                · subst h0
                  have HT := Lib.hid (show meshTo xs.length (rs.map Row.xs) (0 + 1) = true by rw [meshTo_succ, HA.out]; unfold meshAt; rw [hX, hOK]; rfl)
                  have c1' : wr.cell? ⟨b, off, none⟩ = some (Value.slice (some ⟨rb, ro, none⟩) 2 rs[0].c) := c1
                  clear hc h2 hX hab hcc hOK
                  go_wp2
                  go_quiet (fail)
                  all_goals go_wp2
                  all_goals go_roundw
                  all_goals first | exact ⟨1, by omega, rfl, HT.out, (by first | with_reducible assumption | with_reducible exact hd | with_reducible exact Dr.drewN hd _ | with_reducible exact Dr.drewN (Dr.drewN hd _) _ | with_reducible exact Dr.drew hd)⟩ | (simp [intOf]; omega)
                · have c2 := hc (j - 1) (by omega)
                  have hX1 : (rs.map Row.xs)[j - 1]?.getD [] = (rs[j - 1]'(by omega)).xs := by simp [show j - 1 < rs.length by omega]
                  have rp := (hL.row (List.getElem_mem (show j - 1 < rs.length by omega))).rd
                  have q0 := (hL.row (List.getElem_mem (show j - 1 < rs.length by omega))).len
                  have q1 : (rs[j - 1]'(by omega)).xs.length ≤ 4611686018427387904 := by omega
                  have rq := (hL.row (List.getElem_mem hlt)).rd
                  rw [hA'] at rq
                  have E1 : IntKind.i64.wrap ((j : Int) - 1) = (j : Int) - 1 := IntWalk.i64_in _ (by omega)
                  have E2 : ((j : Int) - 1).toNat = j - 1 := by omega
                  have E3 : 0 ≤ (j : Int) - 1 := by omega
                  have E4 : (j : Int) - 1 < (rs.length : Int) := by omega
                  have E5 : 1 ≤ (j : Int) := by omega
                  have E6 : (j : Int) ≤ (rs.length : Int) := by omega
                  have d0 : decide ((j : Int) > 0) = true := decide_eq_true (by omega)
                  have d0' : decide (0 < (j : Int)) = true := decide_eq_true (by omega)
                  have H2 := Lib.hid h2
                  have q2 : (2 : Nat) ≤ 4611686018427387904 := by omega
                  by_cases hC : cmpL (rs[j - 1]'(by omega)).xs rs[j].xs < 0
                  · have dC : decide (cmpL (rs[j - 1]'(by omega)).xs rs[j].xs ≥ 0) = false := decide_eq_false (by omega)
                    have dC' : decide (0 ≤ cmpL (rs[j - 1]'(by omega)).xs rs[j].xs) = false := decide_eq_false (by omega)
                    have HT := Lib.hid (show meshTo xs.length (rs.map Row.xs) (j + 1) = true by rw [meshTo_succ, HA.out]; unfold meshAt; rw [hX, hX1, hOK, decide_eq_true hC, Bool.or_true]; rfl)
                    clear hc h2 hX hX1 hab hcc hOK hC q0 E5 E6
                    go_wp2
                    go_quiet ((go_at_call 82; exact quiet_rq (compareS_q _ _ _ _ _ _ (rs[j - 1]'(by omega)).xs rs[j].xs _ rfl H2.out q1 q2 (rp.drewN _) (rq.drewN _))))
                    all_goals go_wp2
                    all_goals go_roundw
                    all_goals first | exact ⟨j + 1, by omega, by go_num, HT.out, (by first | with_reducible assumption | with_reducible exact hd | with_reducible exact Dr.drewN hd _ | with_reducible exact Dr.drewN (Dr.drewN hd _) _ | with_reducible exact Dr.drew hd)⟩ | (simp [intOf]; omega)
                  · have dC : decide (cmpL (rs[j - 1]'(by omega)).xs rs[j].xs ≥ 0) = true := decide_eq_true (by omega)
                    have dC' : decide (0 ≤ cmpL (rs[j - 1]'(by omega)).xs rs[j].xs) = true := decide_eq_true (by omega)
                    have HT := Lib.hid (show meshAt xs.length (rs.map Row.xs) j = false by unfold meshAt; rw [hX, hX1, decide_eq_false hC, decide_eq_false (show ¬ j = 0 by omega)]; simp)
                    clear hc h2 hX hX1 hab hcc hOK hC q0 E5 E6
                    go_wp2
                    go_quiet ((go_at_call 82; exact quiet_rq (compareS_q _ _ _ _ _ _ (rs[j - 1]'(by omega)).xs rs[j].xs _ rfl H2.out q1 q2 (rp.drewN _) (rq.drewN _))))
                    all_goals go_wp2
                    all_goals (go_ret; exact ⟨ret_bool (by rw [meshB, meshTo_false (by simpa using hlt) HT.out, Bool.and_false]), below_dr hb (by first | with_reducible assumption | with_reducible exact hd | with_reducible exact Dr.drewN hd _ | with_reducible exact Dr.drewN (Dr.drewN hd _) _ | with_reducible exact Dr.drew hd)⟩)
          · have d2 : ((rs[j].xs.length : Int) != 2) = true := by simp; omega
            have HT := Lib.hid (show meshAt xs.length (rs.map Row.xs) j = false by unfold meshAt; rw [hX, Bool.and_eq_false_iff]; exact .inl (by rcases hq : boxOk xs.length rs[j].xs with _ | _ <;> first | rfl | exact absurd (boxOk_two hq) h2))
            clear hc h2 hX
            go_wp2
            go_quiet (fail)
            go_wp2
            go_ret
            exact ⟨ret_bool (by rw [meshB, meshTo_false (by simpa using hlt) HT.out, Bool.and_false]), below_dr hb (by first | with_reducible assumption | with_reducible exact hd | with_reducible exact Dr.drewN hd _ | with_reducible exact Dr.drewN (Dr.drewN hd _) _ | with_reducible exact Dr.drew hd)⟩
        · have HE := Lib.hid (show meshTo xs.length (rs.map Row.xs) (rs.map Row.xs).length = true by rw [List.length_map, show rs.length = j by omega]; exact HA.out)
          go_wp2
          go_ret
          exact ⟨ret_bool (by rw [meshB, HP.out, H4.out, HE.out]; rfl), below_dr hb (by first | with_reducible assumption | with_reducible exact hd | with_reducible exact Dr.drewN hd _ | with_reducible exact Dr.drewN (Dr.drewN hd _) _ | with_reducible exact Dr.drew hd)⟩
    · have H4 := Lib.hid (show decide (xs.length ≤ 4) = false from decide_eq_false h4)
      go_wp2
      go_ret
      exact ⟨ret_bool (by rw [meshB, H4.out, Bool.and_false, Bool.false_and]), hb⟩
  · have hpf : permB xs = false := by simpa using hp
    have HG := Lib.hid (show meshB xs (rs.map Row.xs) = false by rw [meshB, hpf, Bool.false_and, Bool.false_and])
    go_enter Try.func17, Try.ntmps17
    have hb0 : Below w.heap.size w (w.alloc (Obj.cells #[Value.slice A xs.length c, Value.slice B rs.length k] 27)) := (Below.refl _ _).alloc (Nat.le_refl _) _
    go_wp2_with fail
    (with_reducible refine (isPerm_impl A c xs _ (h.1.next hb0)).mono ?_)
    rintro e w1 ⟨rfl, hb1⟩
    rw [hpf]
    go_wp2
    go_ret
    exact ⟨ret_bool HG.out.symm, hb0.trans (hb1.mono hb0.size)⟩

set_option maxHeartbeats 2000000 in
theorem mesh_spec (A B : Option Addr) (c k : Nat) (xs : List Int) (rs : List Row) (w : World) (h : InM w A c xs B k rs) :
    Calls Try.prog 18 #[.agg #[.slice A xs.length c, .slice B rs.length k]] w (Rb w (.bool (meshB xs (rs.map Row.xs)))) := by
  have hlx := h.1.len
  have hly := h.2.len
  go_enter Try.func18, Try.ntmps18
  have hb : Below w.heap.size w (w.alloc (Obj.cells #[Value.slice A xs.length c, Value.slice B rs.length k] 27)) := (Below.refl _ _).alloc (Nat.le_refl _) _
  have ob := obj_new w (Obj.cells #[Value.slice A xs.length c, Value.slice B rs.length k] 27)
  go_wp2_with fail
  generalize (w.alloc (Obj.cells #[Value.slice A xs.length c, Value.slice B rs.length k] 27)) = w1 at hb ob ⊢
  have f0 : w1.cell? ⟨w.heap.size, 0, none⟩ = some (Value.slice A xs.length c) := (obj_cell ob).trans rfl
  have f1 : w1.cell? ⟨w.heap.size, 1, none⟩ = some (Value.slice B rs.length k) := (obj_cell ob).trans rfl
  go_loopw [3] (fun i wr => ∃ j : Nat, j ≤ rs.length ∧ i = .int .i64 j ∧ meshTo xs.length (rs.map Row.xs) j = true ∧ Dr w1 wr) (fun i _ => rs.length - (intOf i).toNat)
  case atStart => exact ⟨0, Nat.zero_le _, rfl, rfl, Dr.refl _⟩
  case round =>
    obtain ⟨j, hj, rfl, hall, hd⟩ := hrel
    have HA := Lib.hid hall
    have g0 : wr.cell? ⟨w.heap.size, 0, none⟩ = some (Value.slice A xs.length c) := (hd.cell _).trans f0
    have g1 : wr.cell? ⟨w.heap.size, 1, none⟩ = some (Value.slice B rs.length k) := (hd.cell _).trans f1
    by_cases hlt : j < rs.length
    · have hL := (h.2.next hb).dr hd
      obtain ⟨b, off, rfl, _, hc⟩ := hL.read.at (by omega)
      have c1 := hc j hlt
      have hX : (rs.map Row.xs)[j]?.getD [] = rs[j].xs := by simp [hlt]
      by_cases h2 : rs[j].xs.length = 2
      · obtain ⟨a, bb, hab⟩ : ∃ a bb, rs[j].xs = [a, bb] := by
          match hq : rs[j].xs, h2 with
          | [a, bb], _ => exact ⟨a, bb, rfl⟩
        have hrow := (hL.row (List.getElem_mem hlt)).rd
        rw [hab] at hrow
        obtain ⟨rb, ro, hA', _, hcc⟩ := hrow (by simp)
        have e0 : wr.cell? ⟨rb, ro, none⟩ = some (.int .i64 a) := hcc 0 (by simp)
        have e1 : wr.cell? ⟨rb, ro + 1, none⟩ = some (.int .i64 bb) := hcc 1 (by simp)
        rw [hA', h2] at c1
        have hB : boxOk xs.length rs[j].xs = decide (0 ≤ a ∧ a ≤ (xs.length : Int) ∧ 0 ≤ bb ∧ bb ≤ (xs.length : Int)) := by rw [hab]; rfl
        by_cases ha : 0 ≤ a ∧ a ≤ (xs.length : Int)
        · have da : decide (0 ≤ a ∧ a ≤ (xs.length : Int)) = true := decide_eq_true ha
          by_cases hbx : 0 ≤ bb ∧ bb ≤ (xs.length : Int)
          · have db : decide (0 ≤ bb ∧ bb ≤ (xs.length : Int)) = true := decide_eq_true hbx
            have hOK : boxOk xs.length rs[j].xs = true := by rw [hB]; exact decide_eq_true (by omega)
            have Ha := Lib.hid da
            have Hb := Lib.hid db
            rcases Nat.eq_zero_or_pos j with h0 | h0
            · subst h0
              have HT := Lib.hid (show meshTo xs.length (rs.map Row.xs) (0 + 1) = true by rw [meshTo_succ, HA.out]; unfold meshAt; rw [hX, hOK]; rfl)
              have c1' : wr.cell? ⟨b, off, none⟩ = some (Value.slice (some ⟨rb, ro, none⟩) 2 rs[0].c) := c1
              clear hc h2 hX hB hab hcc hOK ha hbx da db hall
              go_wp2
              go_quiet ((first | (go_at_call 87; with_reducible show Calls _ _ #[Value.int IntKind.i64 a, _, _] _ _; exact quiet_eq (l1In_b a 0 (xs.length : Int) _ true Ha.out)) | (go_at_call 87; exact quiet_eq (l1In_b bb 0 (xs.length : Int) _ true Hb.out))))
              go_wp2
              go_roundw
              case rel => exact ⟨1, by omega, rfl, HT.out, (by first | with_reducible assumption | with_reducible exact hd | with_reducible exact Dr.drewN hd _ | with_reducible exact Dr.drewN (Dr.drewN hd _) _ | with_reducible exact Dr.drew hd)⟩
              case measure => simp [intOf]; omega
            · have c2 := hc (j - 1) (by omega)
              have hX1 : (rs.map Row.xs)[j - 1]?.getD [] = (rs[j - 1]'(by omega)).xs := by simp [show j - 1 < rs.length by omega]
              have hp2 : (rs[j - 1]'(by omega)).xs.length = 2 := by
                rw [show j = j - 1 + 1 by omega, meshTo_succ, Bool.and_eq_true] at hall
                have := hall.2
                unfold meshAt at this
                rw [hX1, Bool.and_eq_true] at this
                exact boxOk_two this.1
              have hbf : before (rs[j - 1]'(by omega)).xs rs[j].xs = decide (cmpL (rs[j - 1]'(by omega)).xs rs[j].xs < 0) := by unfold before; rw [if_pos (hp2.trans h2.symm)]
              have rp := (hL.row (List.getElem_mem (show j - 1 < rs.length by omega))).rd
              have q1 : (rs[j - 1]'(by omega)).xs.length ≤ 4611686018427387904 := by omega
              have rq := (hL.row (List.getElem_mem hlt)).rd
              rw [hA'] at rq
              have E1 : IntKind.i64.wrap ((j : Int) - 1) = (j : Int) - 1 := IntWalk.i64_in _ (by omega)
              have E2 : ((j : Int) - 1).toNat = j - 1 := by omega
              have E3 : 0 ≤ (j : Int) - 1 := by omega
              have E4 : (j : Int) - 1 < (rs.length : Int) := by omega
              have d0 : decide ((j : Int) > 0) = true := decide_eq_true (by omega)
              have d0' : decide (0 < (j : Int)) = true := decide_eq_true (by omega)
              have H2 := Lib.hid h2
              have q2 : (2 : Nat) ≤ 4611686018427387904 := by omega
              by_cases hC : cmpL (rs[j - 1]'(by omega)).xs rs[j].xs < 0
              · have dC : before (rs[j - 1]'(by omega)).xs rs[j].xs = true := by rw [hbf]; exact decide_eq_true hC
                have HT := Lib.hid (show meshTo xs.length (rs.map Row.xs) (j + 1) = true by rw [meshTo_succ, HA.out]; unfold meshAt; rw [hX, hX1, hOK, decide_eq_true hC, Bool.or_true]; rfl)
                clear hc h2 hX hX1 hB hab hcc hOK ha hbx da db hall hC hbf hp2
                go_wp2
                go_quiet ((first | (go_at_call 87; with_reducible show Calls _ _ #[Value.int IntKind.i64 a, _, _] _ _; exact quiet_eq (l1In_b a 0 (xs.length : Int) _ true Ha.out)) | (go_at_call 87; exact quiet_eq (l1In_b bb 0 (xs.length : Int) _ true Hb.out)) | (go_at_call 88; exact quiet_rq (l2Before_any _ _ _ _ _ _ (rs[j - 1]'(by omega)).xs rs[j].xs _ rfl H2.out q1 q2 (rp.drewN _) (rq.drewN _)))))
                go_wp2
                go_roundw
                case rel => exact ⟨j + 1, by omega, by go_num, HT.out, (by first | with_reducible assumption | with_reducible exact hd | with_reducible exact Dr.drewN hd _ | with_reducible exact Dr.drewN (Dr.drewN hd _) _ | with_reducible exact Dr.drew hd)⟩
                case measure => simp [intOf]; omega
              · have dC : before (rs[j - 1]'(by omega)).xs rs[j].xs = false := by rw [hbf]; exact decide_eq_false hC
                have HT := Lib.hid (show meshAt xs.length (rs.map Row.xs) j = false by unfold meshAt; rw [hX, hX1, decide_eq_false hC, decide_eq_false (show ¬ j = 0 by omega)]; simp)
                clear hc h2 hX hX1 hB hab hcc hOK ha hbx da db hall hC hbf hp2
                go_wp2
                go_quiet ((first | (go_at_call 87; with_reducible show Calls _ _ #[Value.int IntKind.i64 a, _, _] _ _; exact quiet_eq (l1In_b a 0 (xs.length : Int) _ true Ha.out)) | (go_at_call 87; exact quiet_eq (l1In_b bb 0 (xs.length : Int) _ true Hb.out)) | (go_at_call 88; exact quiet_rq (l2Before_any _ _ _ _ _ _ (rs[j - 1]'(by omega)).xs rs[j].xs _ rfl H2.out q1 q2 (rp.drewN _) (rq.drewN _)))))
                go_wp2
                go_ret
                exact ⟨ret_bool (by rw [meshB, meshTo_false (by simpa using hlt) HT.out, Bool.and_false]), below_dr hb (by first | with_reducible assumption | with_reducible exact hd | with_reducible exact Dr.drewN hd _ | with_reducible exact Dr.drewN (Dr.drewN hd _) _ | with_reducible exact Dr.drew hd)⟩
          · have db : decide (0 ≤ bb ∧ bb ≤ (xs.length : Int)) = false := decide_eq_false hbx
            have Ha := Lib.hid da
            have Hb := Lib.hid db
            have HT := Lib.hid (show meshAt xs.length (rs.map Row.xs) j = false by unfold meshAt; rw [hX, Bool.and_eq_false_iff, hB]; exact .inl (decide_eq_false (by omega)))
            clear hc h2 hX hB hab hcc ha hbx da db hall
            go_wp2
            go_quiet ((first | (go_at_call 87; with_reducible show Calls _ _ #[Value.int IntKind.i64 a, _, _] _ _; exact quiet_eq (l1In_b a 0 (xs.length : Int) _ true Ha.out)) | (go_at_call 87; exact quiet_eq (l1In_b bb 0 (xs.length : Int) _ false Hb.out))))
            go_wp2
            go_ret
            exact ⟨ret_bool (by rw [meshB, meshTo_false (by simpa using hlt) HT.out, Bool.and_false]), below_dr hb (by first | with_reducible assumption | with_reducible exact hd | with_reducible exact Dr.drewN hd _ | with_reducible exact Dr.drewN (Dr.drewN hd _) _ | with_reducible exact Dr.drew hd)⟩
        · have da : decide (0 ≤ a ∧ a ≤ (xs.length : Int)) = false := decide_eq_false ha
          have Ha := Lib.hid da
          have HT := Lib.hid (show meshAt xs.length (rs.map Row.xs) j = false by unfold meshAt; rw [hX, Bool.and_eq_false_iff, hB]; exact .inl (decide_eq_false (by omega)))
          clear hc h2 hX hB hab hcc ha da hall
          go_wp2
          go_quiet ((go_at_call 87; with_reducible show Calls _ _ #[Value.int IntKind.i64 a, _, _] _ _; exact quiet_eq (l1In_b a 0 (xs.length : Int) _ false Ha.out)))
          go_wp2
          go_ret
          exact ⟨ret_bool (by rw [meshB, meshTo_false (by simpa using hlt) HT.out, Bool.and_false]), below_dr hb (by first | with_reducible assumption | with_reducible exact hd | with_reducible exact Dr.drewN hd _ | with_reducible exact Dr.drewN (Dr.drewN hd _) _ | with_reducible exact Dr.drew hd)⟩
      · have d2 : ((rs[j].xs.length : Int) != 2) = true := by simp; omega
        have HT := Lib.hid (show meshAt xs.length (rs.map Row.xs) j = false by unfold meshAt; rw [hX, Bool.and_eq_false_iff]; exact .inl (by rcases hq : boxOk xs.length rs[j].xs with _ | _ <;> first | rfl | exact absurd (boxOk_two hq) h2))
        clear hc h2 hX hall
        go_wp2
        go_quiet (fail)
        go_wp2
        go_ret
        exact ⟨ret_bool (by rw [meshB, meshTo_false (by simpa using hlt) HT.out, Bool.and_false]), below_dr hb (by first | with_reducible assumption | with_reducible exact hd | with_reducible exact Dr.drewN hd _ | with_reducible exact Dr.drewN (Dr.drewN hd _) _ | with_reducible exact Dr.drew hd)⟩
    · have HE := Lib.hid (show meshTo xs.length (rs.map Row.xs) (rs.map Row.xs).length = true by rw [List.length_map, show rs.length = j by omega]; exact HA.out)
      have hbr := below_dr hb hd
      clear hall
      go_wp2_with fail
      (with_reducible refine (isPerm_spec A c xs _ (h.1.next hbr)).mono ?_)
      rintro e w2 ⟨rfl, hd2⟩
      have gq : w2.cell? ⟨w.heap.size, 0, none⟩ = some (Value.slice A xs.length c) := (hd2.cell _).trans g0
      by_cases hp : permB xs = true
      · have HP := Lib.hid hp
        rw [hp]
        clear hp
        have hD : decide ((xs.length : Int) ≤ 4) = decide (xs.length ≤ 4) := by rw [Bool.eq_iff_iff]; simp; omega
        have HD := Lib.hid hD
        clear hD
        go_wp2
        go_ret
        exact ⟨ret_bool (by rw [meshB, HP.out, HE.out, Bool.true_and, Bool.and_true]; first | exact HD.out | (simp; done) | (simp; omega)), below_dr hbr hd2⟩
      · have hpf : permB xs = false := by simpa using hp
        have HP := Lib.hid hpf
        rw [hpf]
        clear hp hpf
        go_wp2
        go_ret
        exact ⟨ret_bool (by rw [meshB, HP.out, Bool.false_and, Bool.false_and]), below_dr hbr hd2⟩
end Go.Proofs.Ythipikllgpnlhaa
