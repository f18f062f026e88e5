/- Several texts in one, each with its own head: R3, R4, Q2, R5, M1. No program of ours. -/
import Derived.Deep.RegionHeld3
import Derived.Test.YthipikllgpnlhaaMShades3
/- All permutations of a length, breadth first and depth first. -/
namespace Go.Proofs.Ythipikllgpnlhaa
set_option maxRecDepth 100000
open Go Go.RowKit

theorem pow_six {n i : Nat} (hn : n ≤ 6) (hi : i ≤ 6) : n ^ i ≤ 46656 := by
  have h1 : n ^ i ≤ 6 ^ i := Nat.pow_le_pow_left hn i
  have h2 : 6 ^ i ≤ 6 ^ 6 := Nat.pow_le_pow_right (by omega) hi
  omega
theorem flatMap_take {α β : Type} (f : α → List β) (l : List α) (k : Nat) (h : k < l.length) : (l.take (k + 1)).flatMap f = (l.take k).flatMap f ++ f l[k] := by
  rw [List.take_succ_eq_append_getElem h, List.flatMap_append]; simp
theorem ext_take_le (n : Nat) (ls : List (List Int)) (k : Nat) : (ext n (ls.take k)).length ≤ ls.length * n := by
  have h1 := ext_le n (ls.take k)
  have h2 : (ls.take k).length ≤ ls.length := by simp; omega
  have h3 := Nat.mul_le_mul_right n h2
  omega
/-- What has come of one list's ways at the number v. -/
def extTo (p : List Int) (v : Nat) : List (List Int) := ((nums v).filter fun x => !decide (x ∈ p)).map fun x => p ++ [x]
theorem extTo_succ (p : List Int) (v : Nat) : extTo p (v + 1) = if ((v : Int) + 1) ∈ p then extTo p v else extTo p v ++ [p ++ [(v : Int) + 1]] := by
  unfold extTo
  rw [nums_succ, List.filter_append]
  by_cases h : ((v : Int) + 1) ∈ p <;> simp [h]
theorem extTo_le (p : List Int) (v : Nat) : (extTo p v).length ≤ v := by
  unfold extTo
  have := List.length_filter_le (fun x => !decide (x ∈ p)) (nums v)
  rw [nums_length] at this
  rw [List.length_map]; exact this
theorem ext1_to (n : Nat) (p : List Int) : ext1 n p = extTo p n := rfl

theorem contains_b (A : Option Addr) (c n : Nat) (xs : List Int) (x : Int) (w : World) (b : Bool) (hn : xs.length = n) (hl : n ≤ 4611686018427387904) (hx : Rd (Value.int .i64) w w.heap.size A xs) (hb : decide (x ∈ xs) = b) :
    Calls Try.prog 132 #[.slice A n c, .int .i64 x] w fun e w' => e = .returned (.bool b) ∧ w = w' := by
  subst hb
  exact contains_any A c n xs x w hn hl hx
theorem l2Has_b (A : Option Addr) (c n : Nat) (xs : List Int) (x : Int) (w : World) (b : Bool) (hn : xs.length = n) (hl : n ≤ 4611686018427387904) (hx : Rd (Value.int .i64) w w.heap.size A xs) (hb : decide (x ∈ xs) = b) :
    Calls Try.prog 89 #[.slice A n c, .int .i64 x] w fun e w' => e = .returned (.bool b) ∧ w = w' := by
  subst hb
  exact l2Has_any A c n xs x w hn hl hx
set_option maxHeartbeats 4000000 in
theorem perms_impl (n : Nat) (w : World) (hn : n ≤ 6) :
    Calls Try.prog 118 #[.int .i64 n] w (RetL w (permsL n)) := by
  obtain ⟨i0, hi, hz0, hz1, hz2⟩ := info_parts infoI
  obtain ⟨j0, hj, hy0, hy1, hy2⟩ := info_parts infoL
  have own0 : (w.alloc (.cells #[] 3)).ownsRow w.heap.size 3 1 (Row.v ⟨some ⟨w.heap.size, 0, none⟩, 0, []⟩) 0 (([] : List Int).map (Value.int .i64)) := World.ownsRow_lit w #[] 0 (Nat.le_refl _) (by unfold maxLen; omega) rfl
  have own1 : ((w.alloc (.cells #[] 3)).alloc (.cells #[.slice (some ⟨w.heap.size, 0, none⟩) 0 0] 24)).ownsRow w.heap.size 24 1 (.slice (some ⟨(w.alloc (.cells #[] 3)).heap.size, 0, none⟩) 1 1) 1 [.slice (some ⟨w.heap.size, 0, none⟩) 0 0] :=
    World.ownsRow_lit (w.alloc (.cells #[] 3)) #[.slice (some ⟨w.heap.size, 0, none⟩) 0 0] 1 (by simp) (by unfold maxLen; omega) rfl
  have hA := (Own.add (os := []) (r := ⟨some ⟨w.heap.size, 0, none⟩, 0, []⟩) (Own.nil_ (w := ((w.alloc (.cells #[] 3)).alloc (.cells #[.slice (some ⟨w.heap.size, 0, none⟩) 0 0] 24))) (lo := w.heap.size) (hi := w.heap.size)) (own0.alloc _) (by simp; omega) (Nat.le_refl _)).with_ (A := some ⟨(w.alloc (.cells #[] 3)).heap.size, 0, none⟩) (c := 1) (vs := [.slice (some ⟨w.heap.size, 0, none⟩) 0 0]) own1 (Nat.le_refl _)
  have hb0 : Below w.heap.size w ((w.alloc (.cells #[] 3)).alloc (.cells #[.slice (some ⟨w.heap.size, 0, none⟩) 0 0] 24)) := ((Below.refl _ _).alloc (Nat.le_refl _) _).alloc (by simp) _
  simp only [List.nil_append] at hA
  clear own0 own1
  go_enter Try.func118, Try.ntmps118
  go_wp2_with fail
  simp only [World.size_alloc] at hA
  go_loopw [3, 11] (fun v i wr => ∃ (k : Nat) (A : Option Addr) (c : Nat) (rs : List Row), k ≤ n ∧ i = .int .i64 k ∧ v = .slice A rs.length c ∧ Hid (rs.map Row.xs = permsI n k) ∧ Own wr w.heap.size wr.heap.size rs [⟨A, c, rs.map Row.v⟩] ∧ Below w.heap.size w wr) (fun _ i _ => n - (intOf i).toNat)
  case atStart => exact ⟨0, _, _, [⟨some ⟨w.heap.size, 0, none⟩, 0, []⟩], Nat.zero_le _, rfl, rfl, Lib.hid rfl, by simpa [Row.v] using hA, hb0⟩
  case round =>
    clear hA hb0
    obtain ⟨k, A, c, rs, hk, rfl, rfl, HX, hO, hb⟩ := hrel
    have hsz := hb.size
    have hlen : rs.length ≤ 46656 := by
      have h1 := congrArg List.length HX.out
      have h2 := permsI_le n k
      have h3 := pow_six hn (show k ≤ 6 by omega)
      rw [List.length_map] at h1
      omega
    rcases Nat.lt_or_ge k n with hlt | hge
    · have hRd := hO.read
      have hL0 := Own.lit (lo := wr.heap.size) wr (Nat.le_refl _)
      have hbL := (Below.refl wr.heap.size wr).alloc (Nat.le_refl _) (.cells #[] 24)
      obtain ⟨wo, rfl⟩ : ∃ wo : World, wo = wr := ⟨_, rfl⟩
      clear hO
      go_wp2_with fail
      go_loopw [4, 16] (fun v i wr => ∃ (j : Nat) (A1 : Option Addr) (c1 : Nat) (rs1 : List Row), j ≤ rs.length ∧ i = .int .i64 j ∧ v = .slice A1 rs1.length c1 ∧ Hid (rs1.map Row.xs = ext n ((rs.map Row.xs).take j)) ∧ Own wr wo.heap.size wr.heap.size rs1 [⟨A1, c1, rs1.map Row.v⟩] ∧ Below wo.heap.size wo wr) (fun _ i _ => rs.length - (intOf i).toNat)
      case atStart => exact ⟨0, _, _, [], Nat.zero_le _, rfl, rfl, Lib.hid rfl, hL0, hbL⟩
      case round =>
        clear hL0 hbL
        obtain ⟨j, A1, c1, rs1, hj1, rfl, rfl, HX1, hO1, hb1⟩ := hrel
        by_cases hlt1 : j < rs.length
        · have hRd1 := hRd.below hb1
          obtain ⟨b, off, rfl, _, hc⟩ := hRd1.at (by omega)
          have c1' := hc j hlt1
          have hp := hRd1.rd rs[j] (List.getElem_mem hlt1)
          have hpc := hRd1.cap rs[j] (List.getElem_mem hlt1)
          have hple : rs[j].xs.length ≤ 6 := by
            have h1 : rs[j].xs ∈ permsI n k := by rw [← HX.out]; exact List.mem_map.2 ⟨rs[j], List.getElem_mem hlt1, rfl⟩
            have := (permsI_mem h1).1
            omega
          have hel1 : rs1.length ≤ 46656 * 6 := by
            have h1 := congrArg List.length HX1.out
            have h2 := ext_take_le n (rs.map Row.xs) j
            rw [List.length_map] at h1 h2
            have h3 := Nat.mul_le_mul hlen hn
            omega
          obtain ⟨p, hpe⟩ : ∃ p : Row, p = rs[j] := ⟨_, rfl⟩
          rw [← hpe] at c1' hp hple hpc
          have HPE := Lib.hid hpe
          clear hpe hc hRd1
          obtain ⟨wi, rfl⟩ : ∃ wi : World, wi = wr := ⟨_, rfl⟩
          go_wp2_with fail
          go_loopw [4, 7] (fun v i wr => ∃ (u : Nat) (A2 : Option Addr) (c2 : Nat) (rs2 : List Row), u ≤ n ∧ i = .int .i64 ((u : Int) + 1) ∧ v = .slice A2 rs2.length c2 ∧ Hid (rs2.map Row.xs = ext n ((rs.map Row.xs).take j) ++ extTo p.xs u) ∧ Own wr wo.heap.size wr.heap.size rs2 [⟨A2, c2, rs2.map Row.v⟩] ∧ Below wo.heap.size wo wr) (fun _ i _ => n + 1 - (intOf i).toNat)
          case atStart => exact ⟨0, _, _, rs1, Nat.zero_le _, rfl, rfl, Lib.hid (by rw [HX1.out]; simp [extTo, nums]), hO1, hb1⟩
          case round =>
            obtain ⟨u, A2, c2, rs2, hu, rfl, rfl, HX2, hO2, hb2⟩ := hrel
            have hel2 : rs2.length ≤ 46656 * 6 + 6 := by
              have h1 := congrArg List.length HX2.out
              have h2 := ext_take_le n (rs.map Row.xs) j
              have h4 := extTo_le p.xs u
              rw [List.length_append, List.length_map] at h1
              rw [List.length_map] at h2
              have h3 := Nat.mul_le_mul hlen hn
              omega
            rcases Nat.lt_or_ge u n with hlt2 | hge2
            · have hp2 := (hRd.below hb2).rd p (by rw [HPE.out]; exact List.getElem_mem hlt1)
              have hsz2 := hb2.size
              by_cases hm : ((u : Int) + 1) ∈ p.xs
              · have HM := Lib.hid (decide_eq_true hm)
                have HT := Lib.hid (show extTo p.xs (u + 1) = extTo p.xs u by rw [extTo_succ, if_pos hm])
                clear hm
                go_wp2_with fail
                (with_reducible refine (contains_b p.A p.c p.xs.length p.xs ((u : Int) + 1) wr true rfl (by omega) (hp2.more hsz2) HM.out).mono ?_)
                rintro e w' ⟨rfl, rfl⟩
                go_wp2_with fail
                go_roundw
                case rel => exact ⟨u + 1, A2, c2, rs2, by omega, by go_num, rfl, Lib.hid (by rw [HT.out]; exact HX2.out), hO2, hb2⟩
                case measure => simp [intOf]; omega
              · have HM := Lib.hid (decide_eq_false hm)
                have HT := Lib.hid (show extTo p.xs (u + 1) = extTo p.xs u ++ [p.xs ++ [(u : Int) + 1]] by rw [extTo_succ, if_neg hm])
                clear hm
                go_wp2_with fail
                (with_reducible refine (contains_b p.A p.c p.xs.length p.xs ((u : Int) + 1) wr false rfl (by omega) (hp2.more hsz2) HM.out).mono ?_)
                rintro e w' ⟨rfl, rfl⟩
                go_wp2_with fail
                (with_reducible refine (clone_any p.A p.c p.xs wr ⟨by omega, hpc, hp2.more hsz2⟩).mono ?_)
                rintro e wc ⟨A3, c3, rfl, q1, q2, hown, hbc⟩
                have hszc := hbc.size
                go_wp2_with (first | ((at_builtin; refine wpList_append_own _ rfl _ _ 24 rfl (wr.heap.size) 3 i0 (.int .i64 0) 1 8 Try.underlying24 hi hz0 hz1 hz2 rfl (by decide) _ _ _ rfl (World.ownsRow.alloc hown _) ⟨wc.heap.size, 0, none⟩ 1 1 [.int .i64 ((u : Int) + 1)] rfl rfl (cell_one_new _ _ _) (by intro u hu; simp at hu; subst hu; rfl) (by unfold maxLen; omega) (by omega) (by simp; omega) ?_; intro v1 w1 hown1 hgrow1 _); have hrow : w1.ownsRow wr.heap.size 3 1 v1 (p.xs.length + 1) ((p.xs ++ [(u : Int) + 1]).map (Value.int .i64)) := (by simpa using hown1); obtain ⟨A4, c4, rfl, _, _⟩ := own_shape hrow; have hg1 := grown_trans (World.grownBy_alloc wc (Obj.cells #[Value.int .i64 ((u : Int) + 1)] 3) _) hgrow1; have hsz1 := hg1.size; have hlm := fun g hg => hown.lt g hg; have hO3 := (hO2.below hbc).span (Span.of_grown (lo := wr.heap.size) (hi := wc.heap.size) hg1 hlm) (.inl (Nat.le_refl _)); have hO4 := hO3.add (r := ⟨A4, c4, p.xs ++ [(u : Int) + 1]⟩) (by simpa [Row.v] using hrow) (by omega) hsz2; have hbw := (hb2.trans (hbc.mono hsz2)).grown hg1 (by omega) (fun g hg => by have := hlm g hg; omega); have hown2 := hO4.outN (n := rs2.length) (by simp); clear hO3 hown hown1 hgrow1 hg1 hrow hlm) | (at_builtin; refine wpList_append_own _ rfl _ _ 25 rfl (wo.heap.size) 24 j0 (.slice none 0 0) 1 24 Try.underlying25 hj hy0 hy1 hy2 rfl (by decide) _ _ _ rfl (World.ownsRow.alloc hown2 _) ⟨w1.heap.size, 0, none⟩ 1 1 [Value.slice A4 (p.xs.length + 1) c4] rfl rfl (cell_one_at _ _ (by simp)) (by intro u hu; simp at hu; subst hu; rfl) (by unfold maxLen; omega) (by omega) (by simp; omega) ?_; intro v9 w9 hown9 hgrow9 _))
                obtain ⟨A5, c5, rfl, hO6, hg3⟩ := hO4.grow (Nat.le_refl _) (by simp) hown9 hgrow9
                have hbw3 := hbw.grown hg3 (by omega) (fun g hg => (hO4.olim (by simp) g hg).1)
                have K := Lib.hid (And.intro hO6 hbw3)
                clear hO6 hbw3 hown9 hgrow9 hg3 hO4 hbw hown2
                go_wp2_with fail
                go_roundw
                case rel => exact ⟨u + 1, A5, c5, rs2 ++ [⟨A4, c4, p.xs ++ [(u : Int) + 1]⟩], by omega, by go_num, by rw [List.length_append]; rfl, Lib.hid (by rw [HT.out, List.map_append, HX2.out]; simp), by simpa [Row.v] using K.out.1, K.out.2⟩
                case measure => simp [intOf]; omega
            · obtain rfl : u = n := by omega
              have HE := Lib.hid (show rs2.map Row.xs = ext u ((rs.map Row.xs).take (j + 1)) by
                rw [HX2.out]
                unfold ext
                rw [flatMap_take _ _ _ (by simpa using hlt1)]
                simp [ext1_to, HPE.out])
              go_wp2_with fail
              go_roundw
              case rel => exact ⟨j + 1, A2, c2, rs2, by omega, by go_num, rfl, HE, hO2, hb2⟩
              case measure => simp [intOf]; omega
        · obtain rfl : j = rs.length := by omega
          have HE := Lib.hid (show rs1.map Row.xs = permsI n (k + 1) by
            rw [HX1.out, List.take_of_length_le (by simp), HX.out]; rfl)
          go_wp2_with fail
          go_roundw
          case rel => exact ⟨k + 1, A1, c1, rs1, by omega, by go_num, rfl, HE, hO1.wider hsz (Nat.le_refl _), hb.trans (hb1.mono hsz)⟩
          case measure => simp [intOf]; omega
    · obtain rfl : k = n := by omega
      go_wp2_with fail
      go_ret
      exact ⟨A, c, rs, rfl, HX.out, hO, hb⟩
end Go.Proofs.Ythipikllgpnlhaa

/- The reference's permutations, depth first. -/
namespace Go.Proofs.Ythipikllgpnlhaa
set_option maxRecDepth 100000
open Go Go.RowKit

/-- What a call that fills a list leaves: the rows that came, behind those that were there; the rows F beside them are kept. -/
def Filled (w : World) (lo : Nat) (F rs : List Row) (L : List (List Int)) (e : Ending) (w' : World) : Prop :=
  ∃ A' c' rs', e = .returned (.slice A' (rs.length + rs'.length) c') ∧ rs'.map Row.xs = L ∧ Own w' lo w'.heap.size (F ++ (rs ++ rs')) [⟨A', c', (rs ++ rs').map Row.v⟩] ∧ Below lo w w'
theorem own_row {w : World} {lo hi : Nat} {rs : List Row} {os : List Outer} (h : Own w lo hi rs os) {r : Row} (hr : r ∈ rs) (hh : hi ≤ w.heap.size) : r.xs.length ≤ r.c ∧ Rd (Value.int .i64) w w.heap.size r.A r.xs :=
  ⟨h.read.cap r hr, (h.read.rd r hr).more hh⟩

def fillTo (n k : Nat) (p : List Int) (u : Nat) : List (List Int) := ((nums u).filter fun v => !decide (v ∈ p)).flatMap fun v => fillF n k (p ++ [v])
theorem fillTo_succ (n k : Nat) (p : List Int) (u : Nat) : fillTo n k p (u + 1) = if ((u : Int) + 1) ∈ p then fillTo n k p u else fillTo n k p u ++ fillF n k (p ++ [(u : Int) + 1]) := by
  unfold fillTo
  rw [nums_succ, List.filter_append]
  by_cases h : ((u : Int) + 1) ∈ p <;> simp [h]
theorem fillTo_le (n k : Nat) (p : List Int) (u : Nat) : (fillTo n k p u).length ≤ u * n ^ k := by
  have h := flatMap_le (fun v => fillF n k (p ++ [v])) (n ^ k) ((nums u).filter fun v => !decide (v ∈ p)) (fun v _ => fillF_le n k _)
  have h1 := List.length_filter_le (fun v => !decide (v ∈ p)) (nums u)
  rw [nums_length] at h1
  exact Nat.le_trans h (Nat.mul_le_mul_right _ h1)
theorem fillTo_all (n k : Nat) (p : List Int) : fillTo n k p n = fillF n (k + 1) p := rfl

set_option maxHeartbeats 4000000 in
theorem fill_spec (n : Nat) (hn : n ≤ 6) : ∀ (k : Nat) (F rs : List Row) (r : Row) (A : Option Addr) (c lo : Nat) (w : World), r.xs.length + k = n → lo ≤ w.heap.size → rs.length + n ^ k ≤ 1000000 →
    Own w lo w.heap.size (F ++ rs ++ [r]) [⟨A, c, rs.map Row.v⟩] →
    Calls Try.prog 101 #[.int .i64 n, .slice r.A r.xs.length r.c, .slice A rs.length c] w (Filled w lo F rs (fillF n k r.xs)) := by
  obtain ⟨i0, hi, hz0, hz1, hz2⟩ := info_parts infoI
  obtain ⟨j0, hj, hy0, hy1, hy2⟩ := info_parts infoL
  intro k
  induction k with
  | zero =>
    intro F rs r A c lo w hr hlo hcount hO
    have hcount : rs.length + 1 ≤ 1000000 := by simpa using hcount
    have d1 : ((r.xs.length : Int) == (n : Int)) = true := by simp; omega
    have ho := hO.outN (n := rs.length) (by simp)
    have HR := Lib.hid hr
    clear hr
    go_enter Try.func101, Try.ntmps101
    go_wp2_with (at_builtin; refine wpList_append_own _ rfl _ _ 25 rfl (lo) 24 j0 (.slice none 0 0) 1 24 Try.underlying25 hj hy0 hy1 hy2 rfl (by decide) _ _ _ rfl (World.ownsRow.alloc ho _) ⟨w.heap.size, 0, none⟩ 1 1 [Value.slice r.A r.xs.length r.c] rfl rfl (cell_one_at _ _ (by simp)) (by intro u hu; simp at hu; subst hu; rfl) (by unfold maxLen; omega) (by omega) (by simp; omega) ?_; intro v9 w9 hown9 hgrow9 _)
    obtain ⟨A5, c5, rfl, hO6, hg3⟩ := hO.grow (Nat.le_refl _) (by simp) hown9 hgrow9
    have hbw := (Below.refl lo w).grown hg3 hlo (fun g hg => (hO.olim (by simp) g hg).1)
    have K := Lib.hid (And.intro hO6 hbw)
    clear hO6 hbw hown9 hgrow9 hg3 hO ho
    go_wp2
    go_ret
    exact ⟨A5, c5, [r], rfl, rfl, by simpa [Row.v, List.append_assoc] using K.out.1, K.out.2⟩
  | succ k ih =>
    intro F rs r A c lo w hr hlo hcount hO
    have d1 : ((r.xs.length : Int) == (n : Int)) = false := by simp; omega
    have hrl : r.xs.length ≤ 6 := by omega
    have hpow : ∀ u, u + 1 ≤ n → u * n ^ k + n ^ k ≤ n ^ (k + 1) := fun u hu => by
      have := Nat.mul_le_mul_right (n ^ k) hu
      rw [Nat.add_mul, Nat.one_mul] at this
      rw [Nat.pow_succ, Nat.mul_comm (n ^ k)]
      exact this
    have hpe := hpow
    have HP := Lib.hid hpow
    have HR := Lib.hid hr
    have HC := Lib.hid hcount
    have hO0 : Own w lo w.heap.size (F ++ [r] ++ (rs ++ [])) [⟨A, c, (rs ++ []).map Row.v⟩] := by
      rw [List.append_nil]
      refine hO.perm ?_
      rw [List.append_assoc, List.append_assoc]
      exact List.Perm.append_left F List.perm_append_comm
    clear hr hcount hpow hpe hO
    go_enter Try.func101, Try.ntmps101
    go_wp2_with fail
    go_loopw [2, 7] (fun o i wr => ∃ (u : Nat) (A1 : Option Addr) (c1 : Nat) (rs1 : List Row), u ≤ n ∧ i = .int .i64 ((u : Int) + 1) ∧ o = .slice A1 (rs.length + rs1.length) c1 ∧ Hid (rs1.map Row.xs = fillTo n k r.xs u) ∧
      Own wr lo wr.heap.size (F ++ [r] ++ (rs ++ rs1)) [⟨A1, c1, (rs ++ rs1).map Row.v⟩] ∧ Below lo w wr ∧ lo ≤ wr.heap.size) (fun _ i _ => n + 1 - (intOf i).toNat)
    case atStart => exact ⟨0, A, c, [], Nat.zero_le _, rfl, rfl, Lib.hid rfl, hO0, Below.refl _ _, hlo⟩
    case round =>
      clear hO0
      obtain ⟨u, A1, c1, rs1, hu, rfl, rfl, HX, hO, hb, hlo1⟩ := hrel
      have hrd := own_row hO (r := r) (by simp) (Nat.le_refl _)
      rcases Nat.lt_or_ge u n with hlt | hge
      · by_cases hm : ((u : Int) + 1) ∈ r.xs
        · have HM := Lib.hid (decide_eq_true hm)
          have HT := Lib.hid (show fillTo n k r.xs (u + 1) = fillTo n k r.xs u by rw [fillTo_succ, if_pos hm])
          clear hm
          go_wp2_with fail
          (with_reducible refine (l2Has_b r.A r.c r.xs.length r.xs ((u : Int) + 1) wr true rfl (by omega) hrd.2 HM.out).mono ?_)
          rintro e w' ⟨rfl, rfl⟩
          go_wp2_with fail
          go_roundw
          case rel => exact ⟨u + 1, A1, c1, rs1, by omega, by go_num, rfl, Lib.hid (by rw [HT.out]; exact HX.out), hO, hb, hlo1⟩
          case measure => simp [intOf]; omega
        · have HM := Lib.hid (decide_eq_false hm)
          have HT := Lib.hid (show fillTo n k r.xs (u + 1) = fillTo n k r.xs u ++ fillF n k (r.xs ++ [(u : Int) + 1]) by rw [fillTo_succ, if_neg hm])
          have hcnt : (rs ++ rs1).length + n ^ k ≤ 1000000 := by
            have h1 := congrArg List.length HX.out
            have h2 := fillTo_le n k r.xs u
            have h3 := HP.out u hlt
            have h4 := HC.out
            rw [List.length_map] at h1
            rw [List.length_append]
            omega
          clear hm
          go_wp2_with fail
          (with_reducible refine (l2Has_b r.A r.c r.xs.length r.xs ((u : Int) + 1) wr false rfl (by omega) hrd.2 HM.out).mono ?_)
          rintro e w' ⟨rfl, rfl⟩
          have own0 : (wr.alloc (.cells #[] 3)).ownsRow wr.heap.size 3 1 (.slice (some ⟨wr.heap.size, 0, none⟩) 0 0) 0 [] := World.ownsRow_lit wr #[] 0 (Nat.le_refl _) (by unfold maxLen; omega) rfl
          have hx0 := hrd.2.alloc (Nat.le_refl _) (.cells #[] 3)
          have hbA := (Below.refl wr.heap.size wr).alloc (Nat.le_refl _) (.cells #[] 3)
          go_wp2_with (first | ((at_builtin; refine wpList_append_rd _ rfl _ _ 24 rfl (wr.heap.size) 3 i0 (.int .i64 0) 8 Try.underlying24 hi hz0 hz1 hz2 rfl _ _ _ rfl own0 _ _ _ _ (r.xs) rfl rfl hx0 (fun _ => rfl) (by unfold maxLen; omega) (by omega) (by first | omega | (simp; done) | (simp; omega)) ?_; intro v1 w1 hown1 hgrow1); simp only [Nat.zero_add, List.nil_append] at hown1; obtain ⟨A3, c3, rfl, _, _⟩ := own_shape hown1; have hbB := hbA.grown hgrow1 (by simp) (fun g hg => (own0.lt g hg).1); have hszB := hbB.size) | (at_builtin; refine wpList_append_own _ rfl _ _ 24 rfl (wr.heap.size) 3 i0 (.int .i64 0) 1 8 Try.underlying24 hi hz0 hz1 hz2 rfl (by decide) _ _ _ rfl (World.ownsRow.alloc hown1 _) ⟨w1.heap.size, 0, none⟩ 1 1 [.int .i64 ((u : Int) + 1)] rfl rfl (cell_one_new _ _ _) (by intro u hu; simp at hu; subst hu; rfl) (by unfold maxLen; omega) (by omega) (by simp; omega) ?_; intro v2 w2 hown2 hgrow2 _))
          have hbC := (hbB.alloc hszB (Obj.cells #[Value.int .i64 ((u : Int) + 1)] 3)).grown hgrow2 (by simp; omega) (fun g hg => (hown1.lt g hg).1)
          have hrow : w2.ownsRow wr.heap.size 3 1 v2 (r.xs.length + 1) ((r.xs ++ [(u : Int) + 1]).map (Value.int .i64)) := by simpa using hown2
          obtain ⟨A4, c4, rfl, _, _⟩ := own_shape hrow
          have hszC := hbC.size
          have hO2 := (hO.below hbC).add (r := ⟨A4, c4, r.xs ++ [(u : Int) + 1]⟩) (by simpa [Row.v] using hrow) hszC hlo1
          have HRL := Lib.hid (show (r.xs ++ [(u : Int) + 1]).length + k = n by rw [List.length_append, List.length_singleton]; have := HR.out; omega)
          have hb2 := hb.trans (hbC.mono hlo1)
          clear hown1 hown2 hgrow1 hgrow2 hbA hbB hrow hx0 own0 hO
          have hlo2 : lo ≤ w2.heap.size := by omega
          have IH := ih (F ++ [r]) (rs ++ rs1) ⟨A4, c4, r.xs ++ [(u : Int) + 1]⟩ A1 c1 lo w2 HRL.out hlo2 hcnt hO2
          rw [show (Row.mk A4 c4 (r.xs ++ [(u : Int) + 1])).xs.length = r.xs.length + 1 by simp, List.length_append] at IH
          have IHH := Lib.hid IH
          clear IH hO2
          go_wp2_with fail
          (with_reducible refine IHH.out.mono ?_)
          rintro e w4 ⟨A5, c5, rs2, rfl, hxs, hO4, hb4⟩
          have K := Lib.hid (And.intro hxs (And.intro hO4 (hb2.trans hb4)))
          have hlo4 : lo ≤ w4.heap.size := by have := hb4.size; omega
          clear hxs hO4 hb4 IHH hb2
          go_wp2_with fail
          go_roundw
          case rel => exact ⟨u + 1, A5, c5, rs1 ++ rs2, by omega, by go_num, by rw [List.length_append]; go_num, Lib.hid (by rw [HT.out, List.map_append, HX.out, K.out.1]), by rw [← List.append_assoc rs]; exact K.out.2.1, K.out.2.2, hlo4⟩
          case measure => simp [intOf]; omega
      · obtain rfl : u = n := by omega
        have hO2 : Own wr lo wr.heap.size (F ++ (rs ++ rs1)) [⟨A1, c1, (rs ++ rs1).map Row.v⟩] := hO.sub (by
          rw [List.append_assoc F]
          exact List.Sublist.append_left (List.sublist_append_right _ _) F)
        go_wp2_with fail
        go_ret
        exact ⟨A1, c1, rs1, rfl, HX.out, hO2, hb⟩

def permsG (n : Int) : List (List Int) := if 0 ≤ n ∧ n ≤ 6 then permsL n.toNat else []
set_option maxHeartbeats 1000000 in
theorem permsOf_spec (n : Int) (w : World) : Calls Try.prog 47 #[.int .i64 n] w (RetL w (permsG n)) := by
  by_cases h : 0 ≤ n ∧ n ≤ 6
  · obtain ⟨m, rfl⟩ := Int.eq_ofNat_of_zero_le h.1
    have hm : m ≤ 6 := by omega
    have HG := Lib.hid (show permsG m = permsL m by unfold permsG; rw [if_pos h]; rfl)
    have HD := Lib.hid (decide_eq_true h)
    have own0 : (w.alloc (.cells #[] 3)).ownsRow w.heap.size 3 1 (Row.v ⟨some ⟨w.heap.size, 0, none⟩, 0, []⟩) 0 (([] : List Int).map (Value.int .i64)) := World.ownsRow_lit w #[] 0 (Nat.le_refl _) (by unfold maxLen; omega) rfl
    have hA : Own (w.alloc (.cells #[] 3)) w.heap.size (w.heap.size + 1) [⟨some ⟨w.heap.size, 0, none⟩, 0, []⟩] [] := by
      have := Own.add (os := []) (r := ⟨some ⟨w.heap.size, 0, none⟩, 0, []⟩) (Own.nil_ (w := w.alloc (.cells #[] 3)) (lo := w.heap.size) (hi := w.heap.size)) own0 (by simp) (Nat.le_refl _)
      simpa using this
    have hB : Own ((w.alloc (.cells #[] 3)).alloc (.cells #[] 24)) w.heap.size (w.heap.size + 1 + 1) [⟨some ⟨w.heap.size, 0, none⟩, 0, []⟩] [⟨some ⟨w.heap.size + 1, 0, none⟩, 0, []⟩] := by
      have h1 := hA.below ((Below.refl _ _).alloc (Nat.le_refl _) (.cells #[] 24))
      have h2 := (h1.wider (Nat.le_refl _) (Nat.le_succ _)).with_ (A := some ⟨w.heap.size + 1, 0, none⟩) (c := 0) (vs := []) (by
        have := World.ownsRow_lit (base := w.heap.size) (e := 24) (size := 1) (w.alloc (.cells #[] 3)) #[] 0 (by simp) (by unfold maxLen; omega) rfl
        simpa using this) (by simp)
      exact h2
    have hb0 : Below w.heap.size w ((w.alloc (.cells #[] 3)).alloc (.cells #[] 24)) := ((Below.refl _ _).alloc (Nat.le_refl _) _).alloc (by simp) _
    have hp := pow_six hm hm
    have FSc := Lib.hid (show Calls Try.prog 101 #[.int .i64 m, .slice (some ⟨w.heap.size, 0, none⟩) 0 0, .slice (some ⟨w.heap.size + 1, 0, none⟩) 0 0] ((w.alloc (.cells #[] 3)).alloc (.cells #[] 24)) (Filled _ w.heap.size [] [] (fillF m m [])) from
      fill_spec m hm m [] [] ⟨some ⟨w.heap.size, 0, none⟩, 0, []⟩ (some ⟨w.heap.size + 1, 0, none⟩) 0 w.heap.size ((w.alloc (.cells #[] 3)).alloc (.cells #[] 24)) (by simp) (by simp; omega) (by simp; omega) (by simpa using hB))
    clear h own0 hA
    go_enter Try.func47, Try.ntmps47
    go_wp2_with fail
    (with_reducible refine (l1In_b (m : Int) 0 6 w true HD.out).mono ?_)
    rintro e w' ⟨rfl, rfl⟩
    go_wp2_with fail
    (with_reducible refine FSc.out.mono ?_)
    rintro e w1 ⟨A5, c5, rs2, rfl, hxs, hO4, hb4⟩
    have K := Lib.hid hxs
    clear hxs
    go_wp2_with fail
    go_ret
    rw [HG.out]
    exact ⟨A5, c5, rs2, by simp, by rw [K.out, fill_perms], by simpa using hO4, hb0.trans hb4⟩
  · have HG := Lib.hid (show permsG n = [] by unfold permsG; rw [if_neg h])
    have HD := Lib.hid (decide_eq_false h)
    have hB := Own.lit (lo := w.heap.size) w (Nat.le_refl _)
    have hb0 := (Below.refl w.heap.size w).alloc (Nat.le_refl _) (.cells #[] 24)
    clear h
    go_enter Try.func47, Try.ntmps47
    go_wp2_with fail
    (with_reducible refine (l1In_b n 0 6 w false HD.out).mono ?_)
    rintro e w' ⟨rfl, rfl⟩
    go_wp2_with fail
    go_ret
    rw [HG.out]
    exact ⟨_, _, [], rfl, rfl, hB, hb0⟩
end Go.Proofs.Ythipikllgpnlhaa

/- Contracts of OverlapsOf, IsLoose, CountRuns. -/
namespace Go.Proofs.Ythipikllgpnlhaa
set_option maxRecDepth 100000
open Go Go.RowKit

theorem In.own {w : World} {base e c : Nat} {A : Option Addr} {xs : List Int} (h : w.ownsRow base e 1 (.slice A xs.length c) xs.length (xs.map (Value.int .i64))) (hl : xs.length ≤ 1048576) : In w A c xs :=
  ⟨hl, (own_caps h).1, Rd.of_own h⟩
theorem sizeI (w : World) : (sizeOf (Try.prog.elem 24)).run Try.prog w = .ok 1 w := by kernel_rfl

def ovH (xs : List Int) (k : Nat) : Bool := decide (patL (xs.take k) = patL (xs.drop (xs.length - k)))
def ovTo (xs : List Int) (k : Nat) : List Int := ((List.range k).filter fun i => decide (1 ≤ i) && ovH xs i).map fun i : Nat => (i : Int)
theorem ovTo_succ (xs : List Int) (k : Nat) (h : 1 ≤ k) : ovTo xs (k + 1) = if ovH xs k = true then ovTo xs k ++ [(k : Int)] else ovTo xs k := by
  unfold ovTo
  rw [List.range_succ, List.filter_append]
  have : decide (1 ≤ k) = true := by simpa using h
  by_cases hk : ovH xs k = true <;> simp [hk, h]
theorem ovTo_length (xs : List Int) (k : Nat) : (ovTo xs k).length ≤ k := by
  unfold ovTo
  rw [List.length_map]
  exact Nat.le_trans (List.length_filter_le _ _) (by simp)
def ovG (xs : List Int) : List Int := if permB xs = true then ovTo xs xs.length else []
theorem ovG_length (xs : List Int) : (ovG xs).length ≤ 8 := by
  unfold ovG
  split
  · rename_i h
    have := ovTo_length xs xs.length
    have := (permB_true h).1
    omega
  · simp

set_option maxHeartbeats 1600000 in
theorem overlaps_impl (A : Option Addr) (c : Nat) (xs : List Int) (w : World) (h : In w A c xs) :
    Calls Try.prog 51 #[.slice A xs.length c] w (Ret (Value.int .i64) 3 w (ovG xs)) := by
  obtain ⟨i0, hi, hz0, hz1, hz2⟩ := info_parts infoI
  by_cases hp : permB xs = true
  · have HG := Lib.hid (show ovG xs = ovTo xs xs.length by rw [ovG, if_pos hp])
    have HP := Lib.hid hp
    have h8 := (permB_true hp).1
    have hcap := h.cap
    clear hp
    go_enter Try.func51, Try.ntmps51
    go_wp2_with fail
    refine (isPerm_impl _ _ _ _ h).mono ?_
    rintro e w1 ⟨rfl, hb1⟩
    rw [HP.out]
    have hsz1 := hb1.size
    go_wp2_with fail
    have hown0 : (w1.alloc (.cells #[] 3)).ownsRow w.heap.size 3 1 (.slice (some ⟨w1.heap.size, 0, none⟩) 0 0) (ovTo xs 1).length ((ovTo xs 1).map (Value.int .i64)) := World.ownsRow_lit w1 #[] 0 hsz1 (by unfold maxLen; omega) rfl
    have hb2 := hb1.alloc hsz1 (.cells #[] 3)
    go_loopw [3, 4] (fun v i wr => ∃ (k : Nat) (A' : Option Addr) (c' : Nat), 1 ≤ k ∧ (k ≤ xs.length ∨ k = 1) ∧ i = .int .i64 k ∧ v = .slice A' (ovTo xs k).length c' ∧ wr.ownsRow w.heap.size 3 1 (.slice A' (ovTo xs k).length c') (ovTo xs k).length ((ovTo xs k).map (Value.int .i64)) ∧ Below w.heap.size w wr) (fun _ i _ => xs.length - (intOf i).toNat)
    case atStart => exact ⟨1, _, _, Nat.le_refl _, .inr rfl, rfl, rfl, hown0, hb2⟩
    case round =>
      clear hown0 hb2
      obtain ⟨k, A', c', hk1, hk, rfl, rfl, hown, hb⟩ := hrel
      have HK := Lib.hid hk
      have hpl := ovTo_length xs k
      have hIn := h.next hb
      clear hk
      by_cases hlt : k < xs.length
      · have hd1 : decide ((k : Int) < (xs.length : Int)) = true := by simp; omega
        obtain ⟨wp, rfl⟩ : ∃ wp : World, wp = wr := ⟨_, rfl⟩
        have hxr := hIn.rd
        have HS0 := Lib.hid (ovTo_succ xs k hk1)
        have hsl1 := fun w => run_slice_h (P := Try.prog) w 24 A xs.length c Try.underlying24 .i64 k (by omega) (by omega)
        have hsl2 := fun w => run_cut (P := Try.prog) (t := 24) Try.underlying24 sizeI A xs.length c (xs.length - k) ((xs.length : Int) - (k : Int)) (by omega) (by omega) w
        have e1 : IntKind.i64.wrap ((xs.length : Int) - (k : Int)) = (xs.length : Int) - (k : Int) := IntWalk.i64_in _ (by omega)
        have hr1 : Rd (Value.int .i64) wp.drew wp.drew.heap.size A (xs.take k) := hxr.take k
        have hk20 : k ≤ 1048576 := by omega
        have hr2 : Rd (Value.int .i64) wp.drew wp.drew.heap.size (cutA A c (xs.length - k)) (xs.drop (xs.length - k)) := hxr.cut (by omega) hcap
        have HL2 := Lib.hid (List.length_drop (i := xs.length - k) (l := xs))
        have hk21 : xs.length - (xs.length - k) ≤ 1048576 := by omega
        have HLp : (patL (xs.take k)).length ≤ 4611686018427387904 := by rw [patL_length, List.length_take]; omega
        have HL1 := Lib.hid (show (xs.take k).length = k by simp; omega)
        have e3 : 0 ≤ (xs.length : Int) - (k : Int) := by omega
        have e4 : (xs.length : Int) - (k : Int) ≤ (xs.length : Int) := by omega
        by_cases hH : patL (xs.take k) = patL (xs.drop (xs.length - k))
        · have HQ := Lib.hid (show decide (patL (xs.take k) = patL (xs.drop (xs.length - k))) = true by simpa using hH)
          have HS := Lib.hid (show ovTo xs (k + 1) = ovTo xs k ++ [(k : Int)] by rw [HS0.out, if_pos (show ovH xs k = true from HQ.out)])
          clear hH
          go_wp2_with fail
          go_region_held3 (fun _ => True) (trivial) ((first | (go_at_call 106; (with_reducible refine (pattern_impl A c k (xs.take k) _ HL1.out hk20 hr1).mono ?_); rintro e wq ⟨T1, t1, rfl, _, _, o1, b1⟩) | (go_at_call 106; (with_reducible refine (pattern_impl _ _ _ (xs.drop (xs.length - k)) _ HL2.out hk21 (hr2.next b1)).mono ?_); rintro e wq2 ⟨T2, t2, rfl, _, _, o2, b2⟩) | (go_at_call 105; (with_reducible refine (equal_b _ _ _ _ _ _ (patL (xs.take k)) (patL (xs.drop (xs.length - k))) _ true rfl rfl HLp ((Rd.of_own o1).next b2) (Rd.of_own o2) HQ.out).mono ?_); rintro e wr ⟨rfl, d3⟩)))
          have hb0 : Below w.heap.size w wp.drew := below_dr hb (Dr.of _ 1)
          have hszp : w.heap.size ≤ wp.drew.heap.size := hb0.size
          have hb := below_dr ((hb0.trans (b1.mono hszp)).trans (b2.mono (Nat.le_trans hszp b1.size))) d3
          have hown := d3.own (own_below (own_below (show wp.drew.ownsRow w.heap.size 3 1 (.slice A' (ovTo xs k).length c') (ovTo xs k).length ((ovTo xs k).map (Value.int .i64)) from hown) b1) b2)
          have hsz : w.heap.size ≤ wr.heap.size := hb.size
          clear b1 b2 d3 o1 o2 hb0 hszp hr1 hr2 hsl1 hsl2 hxr
          go_wp2_with (at_builtin; refine wpList_append_own _ rfl _ _ 24 rfl (w.heap.size) 3 i0 (.int .i64 0) 1 8 Try.underlying24 hi hz0 hz1 hz2 rfl (by decide) _ _ _ rfl (World.ownsRow.alloc hown _) ⟨wr.heap.size, 0, none⟩ 1 1 [.int .i64 ((k : Int))] rfl rfl (cell_one_new _ _ _) (by intro u hu; simp at hu; subst hu; rfl) (by unfold maxLen; omega) (by omega) (by simp; omega) ?_; intro v1 w1 hown1 hgrow1 _)
          have hb1 := (hb.alloc hsz (Obj.cells #[Value.int .i64 (k : Int)] 3)).grown hgrow1 (by simp; omega) (by intro g hg; exact ((hown.lt g hg).1))
          have hS2 : w1.ownsRow w.heap.size 3 1 v1 (ovTo xs (k + 1)).length ((ovTo xs (k + 1)).map (Value.int .i64)) := by rw [HS.out]; simpa using hown1
          obtain ⟨A1, cc, rfl, _, _⟩ := own_shape hS2
          have hH1 := Lib.hid hS2
          have hH2 := Lib.hid hb1
          clear hS2 hown1 hgrow1 hb1 hown hb
          go_wp2
          go_roundw
          case rel => exact ⟨k + 1, A1, cc, by omega, by omega, by go_num, rfl, hH1.out, hH2.out⟩
          case measure => simp [intOf]; omega
        · have HQ := Lib.hid (show decide (patL (xs.take k) = patL (xs.drop (xs.length - k))) = false by simpa using hH)
          have HS := Lib.hid (show ovTo xs (k + 1) = ovTo xs k by rw [HS0.out, if_neg (by rw [show ovH xs k = false from HQ.out]; simp)])
          clear hH
          go_wp2_with fail
          go_region_held3 (fun _ => True) (trivial) ((first | (go_at_call 106; (with_reducible refine (pattern_impl A c k (xs.take k) _ HL1.out hk20 hr1).mono ?_); rintro e wq ⟨T1, t1, rfl, _, _, o1, b1⟩) | (go_at_call 106; (with_reducible refine (pattern_impl _ _ _ (xs.drop (xs.length - k)) _ HL2.out hk21 (hr2.next b1)).mono ?_); rintro e wq2 ⟨T2, t2, rfl, _, _, o2, b2⟩) | (go_at_call 105; (with_reducible refine (equal_b _ _ _ _ _ _ (patL (xs.take k)) (patL (xs.drop (xs.length - k))) _ false rfl rfl HLp ((Rd.of_own o1).next b2) (Rd.of_own o2) HQ.out).mono ?_); rintro e wr ⟨rfl, d3⟩)))
          have hb0 : Below w.heap.size w wp.drew := below_dr hb (Dr.of _ 1)
          have hszp : w.heap.size ≤ wp.drew.heap.size := hb0.size
          have hb := below_dr ((hb0.trans (b1.mono hszp)).trans (b2.mono (Nat.le_trans hszp b1.size))) d3
          have hown := d3.own (own_below (own_below (show wp.drew.ownsRow w.heap.size 3 1 (.slice A' (ovTo xs k).length c') (ovTo xs k).length ((ovTo xs k).map (Value.int .i64)) from hown) b1) b2)
          have hsz : w.heap.size ≤ wr.heap.size := hb.size
          clear b1 b2 d3 o1 o2 hb0 hszp hr1 hr2 hsl1 hsl2 hxr
          go_wp2
          go_roundw
          case rel => exact ⟨k + 1, A', c', by omega, by omega, by go_num, by rw [HS.out], by rw [HS.out]; exact hown, hb⟩
          case measure => simp [intOf]; omega
      · have hd1 : decide ((k : Int) < (xs.length : Int)) = false := by rw [decide_eq_false_iff_not]; omega
        have HE := Lib.hid (show ovTo xs xs.length = ovTo xs k by
          rcases HK.out with h | h
          · rw [show xs.length = k by omega]
          · subst h
            rcases Nat.eq_zero_or_pos xs.length with h | h
            · rw [h]; rfl
            · rw [show xs.length = 1 by omega])
        go_wp2_with fail
        go_ret
        rw [HG.out, HE.out]
        exact ⟨A', c', rfl, (own_caps hown).1, (own_caps hown).2, hown, hb⟩
  · have hpf : permB xs = false := by simpa using hp
    have HG := Lib.hid (show ovG xs = [] by rw [ovG, if_neg hp])
    go_enter Try.func51, Try.ntmps51
    go_wp2_with fail
    refine (isPerm_impl _ _ _ _ h).mono ?_
    rintro e w1 ⟨rfl, hb1⟩
    rw [hpf]
    clear hp hpf
    go_wp2_with fail
    go_ret
    rw [HG.out]
    exact ⟨none, 0, rfl, Nat.le_refl _, Nat.zero_le _, World.ownsRow_nil _ _ _ _, hb1⟩

set_option maxHeartbeats 1600000 in
theorem overlaps_spec (A : Option Addr) (c : Nat) (xs : List Int) (w : World) (h : In w A c xs) :
    Calls Try.prog 59 #[.slice A xs.length c] w (Ret (Value.int .i64) 3 w (ovG xs)) := by
  obtain ⟨i0, hi, hz0, hz1, hz2⟩ := info_parts infoI
  by_cases hp : permB xs = true
  · have HG := Lib.hid (show ovG xs = ovTo xs xs.length by rw [ovG, if_pos hp])
    have HP := Lib.hid hp
    have h8 := (permB_true hp).1
    have hcap := h.cap
    clear hp
    go_enter Try.func59, Try.ntmps59
    go_wp2_with fail
    have hown0 : (w.alloc (.cells #[] 3)).ownsRow w.heap.size 3 1 (.slice (some ⟨w.heap.size, 0, none⟩) 0 0) (ovTo xs 1).length ((ovTo xs 1).map (Value.int .i64)) := World.ownsRow_lit w #[] 0 (Nat.le_refl _) (by unfold maxLen; omega) rfl
    have hb2 := (Below.refl w.heap.size w).alloc (Nat.le_refl _) (.cells #[] 3)
    go_loopw [3, 4] (fun v i wr => ∃ (k : Nat) (A' : Option Addr) (c' : Nat), 1 ≤ k ∧ (k ≤ xs.length ∨ k = 1) ∧ i = .int .i64 k ∧ v = .slice A' (ovTo xs k).length c' ∧ wr.ownsRow w.heap.size 3 1 (.slice A' (ovTo xs k).length c') (ovTo xs k).length ((ovTo xs k).map (Value.int .i64)) ∧ Below w.heap.size w wr) (fun _ i _ => xs.length - (intOf i).toNat)
    case atStart => exact ⟨1, _, _, Nat.le_refl _, .inr rfl, rfl, rfl, hown0, hb2⟩
    case round =>
      clear hown0 hb2
      obtain ⟨k, A', c', hk1, hk, rfl, rfl, hown, hb⟩ := hrel
      have HK := Lib.hid hk
      have hpl := ovTo_length xs k
      have hIn := h.next hb
      clear hk
      by_cases hlt : k < xs.length
      · have hd1 : decide ((k : Int) < (xs.length : Int)) = true := by simp; omega
        go_wp2_with fail
        refine (isPerm_spec _ _ _ _ hIn).mono ?_
        rintro e wp ⟨rfl, hd⟩
        rw [HP.out]
        have hown := hd.own hown
        have hb := below_dr hb hd
        have hIn := hIn.dr hd
        have hxr := hIn.rd
        have HS0 := Lib.hid (ovTo_succ xs k hk1)
        have hsl1 := fun w => run_slice_h (P := Try.prog) w 24 A xs.length c Try.underlying24 .i64 k (by omega) (by omega)
        have hsl2 := fun w => run_cut (P := Try.prog) (t := 24) Try.underlying24 sizeI A xs.length c (xs.length - k) ((xs.length : Int) - (k : Int)) (by omega) (by omega) w
        have e1 : IntKind.i64.wrap ((xs.length : Int) - (k : Int)) = (xs.length : Int) - (k : Int) := IntWalk.i64_in _ (by omega)
        have hr1 : Rd (Value.int .i64) wp.drew wp.drew.heap.size A (xs.take k) := hxr.take k
        have hk20 : k ≤ 1048576 := by omega
        have hr2 : Rd (Value.int .i64) wp.drew wp.drew.heap.size (cutA A c (xs.length - k)) (xs.drop (xs.length - k)) := hxr.cut (by omega) hcap
        have HL2 := Lib.hid (List.length_drop (i := xs.length - k) (l := xs))
        have hk21 : xs.length - (xs.length - k) ≤ 1048576 := by omega
        have HLp : (patL (xs.take k)).length ≤ 4611686018427387904 := by rw [patL_length, List.length_take]; omega
        have HL1 := Lib.hid (show (xs.take k).length = k by simp; omega)
        have e3 : 0 ≤ (xs.length : Int) - (k : Int) := by omega
        have e4 : (xs.length : Int) - (k : Int) ≤ (xs.length : Int) := by omega
        by_cases hH : patL (xs.take k) = patL (xs.drop (xs.length - k))
        · have HQ := Lib.hid (show decide (patL (xs.take k) = patL (xs.drop (xs.length - k))) = true by simpa using hH)
          have HS := Lib.hid (show ovTo xs (k + 1) = ovTo xs k ++ [(k : Int)] by rw [HS0.out, if_pos (show ovH xs k = true from HQ.out)])
          clear hH
          go_wp2_with fail
          go_region_held3 (fun _ => True) (trivial) ((first | (go_at_call 111; (with_reducible refine (pattern_spec A c k (xs.take k) _ HL1.out hk20 hr1).mono ?_); rintro e wq ⟨T1, t1, rfl, _, _, o1, b1⟩) | (go_at_call 111; (with_reducible refine (pattern_spec _ _ _ (xs.drop (xs.length - k)) _ HL2.out hk21 (hr2.next b1)).mono ?_); rintro e wq2 ⟨T2, t2, rfl, _, _, o2, b2⟩) | (go_at_call 110; (with_reducible refine (l2Same_b _ _ _ _ _ _ (patL (xs.take k)) (patL (xs.drop (xs.length - k))) _ true rfl rfl HLp ((Rd.of_own o1).next b2) (Rd.of_own o2) HQ.out).mono ?_); rintro e wr ⟨rfl, d3⟩)))
          have hb0 : Below w.heap.size w wp.drew := below_dr hb (Dr.of _ 1)
          have hszp : w.heap.size ≤ wp.drew.heap.size := hb0.size
          have hb := below_dr ((hb0.trans (b1.mono hszp)).trans (b2.mono (Nat.le_trans hszp b1.size))) d3
          have hown := d3.own (own_below (own_below (show wp.drew.ownsRow w.heap.size 3 1 (.slice A' (ovTo xs k).length c') (ovTo xs k).length ((ovTo xs k).map (Value.int .i64)) from hown) b1) b2)
          have hsz : w.heap.size ≤ wr.heap.size := hb.size
          clear b1 b2 d3 o1 o2 hb0 hszp hr1 hr2 hsl1 hsl2 hxr
          go_wp2_with (at_builtin; refine wpList_append_own _ rfl _ _ 24 rfl (w.heap.size) 3 i0 (.int .i64 0) 1 8 Try.underlying24 hi hz0 hz1 hz2 rfl (by decide) _ _ _ rfl (World.ownsRow.alloc hown _) ⟨wr.heap.size, 0, none⟩ 1 1 [.int .i64 ((k : Int))] rfl rfl (cell_one_new _ _ _) (by intro u hu; simp at hu; subst hu; rfl) (by unfold maxLen; omega) (by omega) (by simp; omega) ?_; intro v1 w1 hown1 hgrow1 _)
          have hb1 := (hb.alloc hsz (Obj.cells #[Value.int .i64 (k : Int)] 3)).grown hgrow1 (by simp; omega) (by intro g hg; exact ((hown.lt g hg).1))
          have hS2 : w1.ownsRow w.heap.size 3 1 v1 (ovTo xs (k + 1)).length ((ovTo xs (k + 1)).map (Value.int .i64)) := by rw [HS.out]; simpa using hown1
          obtain ⟨A1, cc, rfl, _, _⟩ := own_shape hS2
          have hH1 := Lib.hid hS2
          have hH2 := Lib.hid hb1
          clear hS2 hown1 hgrow1 hb1 hown hb
          go_wp2
          go_roundw
          case rel => exact ⟨k + 1, A1, cc, by omega, by omega, by go_num, rfl, hH1.out, hH2.out⟩
          case measure => simp [intOf]; omega
        · have HQ := Lib.hid (show decide (patL (xs.take k) = patL (xs.drop (xs.length - k))) = false by simpa using hH)
          have HS := Lib.hid (show ovTo xs (k + 1) = ovTo xs k by rw [HS0.out, if_neg (by rw [show ovH xs k = false from HQ.out]; simp)])
          clear hH
          go_wp2_with fail
          go_region_held3 (fun _ => True) (trivial) ((first | (go_at_call 111; (with_reducible refine (pattern_spec A c k (xs.take k) _ HL1.out hk20 hr1).mono ?_); rintro e wq ⟨T1, t1, rfl, _, _, o1, b1⟩) | (go_at_call 111; (with_reducible refine (pattern_spec _ _ _ (xs.drop (xs.length - k)) _ HL2.out hk21 (hr2.next b1)).mono ?_); rintro e wq2 ⟨T2, t2, rfl, _, _, o2, b2⟩) | (go_at_call 110; (with_reducible refine (l2Same_b _ _ _ _ _ _ (patL (xs.take k)) (patL (xs.drop (xs.length - k))) _ false rfl rfl HLp ((Rd.of_own o1).next b2) (Rd.of_own o2) HQ.out).mono ?_); rintro e wr ⟨rfl, d3⟩)))
          have hb0 : Below w.heap.size w wp.drew := below_dr hb (Dr.of _ 1)
          have hszp : w.heap.size ≤ wp.drew.heap.size := hb0.size
          have hb := below_dr ((hb0.trans (b1.mono hszp)).trans (b2.mono (Nat.le_trans hszp b1.size))) d3
          have hown := d3.own (own_below (own_below (show wp.drew.ownsRow w.heap.size 3 1 (.slice A' (ovTo xs k).length c') (ovTo xs k).length ((ovTo xs k).map (Value.int .i64)) from hown) b1) b2)
          have hsz : w.heap.size ≤ wr.heap.size := hb.size
          clear b1 b2 d3 o1 o2 hb0 hszp hr1 hr2 hsl1 hsl2 hxr
          go_wp2
          go_roundw
          case rel => exact ⟨k + 1, A', c', by omega, by omega, by go_num, by rw [HS.out], by rw [HS.out]; exact hown, hb⟩
          case measure => simp [intOf]; omega
      · have hd1 : decide ((k : Int) < (xs.length : Int)) = false := by rw [decide_eq_false_iff_not]; omega
        have HE := Lib.hid (show ovTo xs xs.length = ovTo xs k by
          rcases HK.out with h | h
          · rw [show xs.length = k by omega]
          · subst h
            rcases Nat.eq_zero_or_pos xs.length with h | h
            · rw [h]; rfl
            · rw [show xs.length = 1 by omega])
        go_wp2_with fail
        go_ret
        rw [HG.out, HE.out]
        exact ⟨A', c', rfl, (own_caps hown).1, (own_caps hown).2, hown, hb⟩
  · have hpf : permB xs = false := by simpa using hp
    have HG := Lib.hid (show ovG xs = [] by rw [ovG, if_neg hp])
    go_enter Try.func59, Try.ntmps59
    go_wp2_with fail
    have hb1 := (Below.refl w.heap.size w).alloc (Nat.le_refl _) (.cells #[] 3)
    have h1 := h.next hb1
    refine wp_loop_rounds 1 ?_
    rw [rounds_succ]
    by_cases hlt : 1 < xs.length
    · have hd1 : decide ((1 : Int) < (xs.length : Int)) = true := by simp; omega
      go_wp2_with fail
      refine (isPerm_spec _ _ _ _ h1).mono ?_
      rintro e w1 ⟨rfl, hd⟩
      rw [hpf]
      clear hp hpf
      go_wp2_with fail
      go_ret
      rw [HG.out]
      exact ⟨_, _, rfl, Nat.le_refl _, Nat.zero_le _, hd.own (World.ownsRow_lit w #[] 0 (Nat.le_refl _) (Nat.zero_le _) rfl), below_dr hb1 hd⟩
    · have hd1 : decide ((1 : Int) < (xs.length : Int)) = false := by rw [decide_eq_false_iff_not]; omega
      go_wp2_with fail
      go_ret
      rw [HG.out]
      exact ⟨_, _, rfl, Nat.le_refl _, Nat.zero_le _, World.ownsRow_lit w #[] 0 (Nat.le_refl _) (Nat.zero_le _) rfl, hb1⟩


theorem loose_impl (A : Option Addr) (c : Nat) (xs : List Int) (w : World) (h : In w A c xs) :
    Calls Try.prog 66 #[.slice A xs.length c] w (Rb w (.bool (decide ((ovG xs).length = 1)))) := by
  have hL := ovG_length xs
  go_enter Try.func66, Try.ntmps66
  go_wp2_with fail
  refine (overlaps_impl _ _ _ _ h).mono ?_
  rintro e w1 ⟨T, t, rfl, _, _, _, hb⟩
  have HB : (((ovG xs).length : Int) == 1) = decide ((ovG xs).length = 1) := by rw [Bool.eq_iff_iff]; simp; omega
  have HB2 := Lib.hid HB
  clear HB
  go_wp2_with fail
  go_ret
  exact ⟨ret_bool HB2.out, hb⟩


def runH (p q : List Int) (i : Nat) : Bool := decide (patL ((p.drop i).take q.length) = q)
def runsTo (p q : List Int) (k : Nat) : Nat := ((List.range k).filter (runH p q)).length
theorem runsTo_succ (p q : List Int) (k : Nat) : runsTo p q (k + 1) = runsTo p q k + (if runH p q k = true then 1 else 0) := by
  unfold runsTo
  rw [List.range_succ, List.filter_append, List.length_append]
  congr 1
  by_cases h : runH p q k = true <;> simp [h]
theorem runsTo_le (p q : List Int) (k : Nat) : runsTo p q k ≤ k := Nat.le_trans (List.length_filter_le _ _) (by simp)
def runsN (p q : List Int) : Nat := runsTo p q (p.length + 1 - q.length)
def runsG (p q : List Int) : Int := if permB p = true ∧ permB q = true ∧ q.length ≠ 0 then (runsN p q : Int) else -1

set_option maxRecDepth 100000 in
set_option maxHeartbeats 1000000 in
theorem countRuns_impl (A B : Option Addr) (c d : Nat) (p q : List Int) (w1 : World) (hp1 : In w1 A c p) (hq1 : In w1 B d q) (h8 : p.length ≤ 8) (hq8 : q.length ≤ 8) (hq0 : 0 < q.length) :
    Calls Try.prog 109 #[.slice A p.length c, .slice B q.length d] w1 (Rb w1 (.int .i64 (runsN p q : Int))) := by
  have hcap := hp1.cap
  · go_enter Try.func109, Try.ntmps109
    go_wp2_with fail
    go_loopw [5, 6] (fun s i wr => ∃ k : Nat, k ≤ p.length + 1 - q.length ∧ i = .int .i64 k ∧ s = .int .i64 (runsTo p q k : Int) ∧ Below w1.heap.size w1 wr) (fun _ i _ => p.length + 1 - q.length - (intOf i).toNat)
    case atStart => exact ⟨0, Nat.zero_le _, rfl, rfl, Below.refl _ _⟩
    case round =>
      obtain ⟨k, hk, rfl, rfl, hb⟩ := hrel
      have hle := runsTo_le p q k
      rcases Nat.lt_or_ge k (p.length + 1 - q.length) with hlt | hge
      · have hpr := (hp1.next hb).rd
        have hqr := (hq1.next hb).rd
        have hsl := fun w => run_cut2 (P := Try.prog) (t := 24) Try.underlying24 sizeI A p.length c k (k + q.length) (k : Int) ((k : Int) + (q.length : Int)) rfl (by omega) (by omega) (by omega) w
        have hr1 : Rd (Value.int .i64) wr wr.heap.size (cutA A c k) ((p.drop k).take q.length) := (hpr.cut (by omega) hcap).take _
        have HL1 := Lib.hid (show ((p.drop k).take q.length).length = q.length by simp; omega)
        have hk20 : q.length ≤ 1048576 := by omega
        have HLp : (patL ((p.drop k).take q.length)).length ≤ 4611686018427387904 := by rw [patL_length, List.length_take]; omega
        have HS0 := Lib.hid (runsTo_succ p q k)
        by_cases hH : runH p q k = true
        · have HQ := Lib.hid (show decide (patL ((p.drop k).take q.length) = q) = true from hH)
          have HS := Lib.hid (show runsTo p q (k + 1) = runsTo p q k + 1 by rw [HS0.out, if_pos hH])
          clear hH
          go_wp2_with fail
          (with_reducible refine (pattern_impl _ _ _ ((p.drop k).take q.length) _ HL1.out hk20 hr1).mono ?_)
          rintro e wq ⟨T1, t1, rfl, _, _, o1, b1⟩
          go_wp2_with fail
          (with_reducible refine (equal_b _ _ _ _ _ _ (patL ((p.drop k).take q.length)) q _ true rfl rfl HLp (Rd.of_own o1) (hqr.next b1) HQ.out).mono ?_)
          rintro e wr2 ⟨rfl, d3⟩
          have hb2 := Lib.hid (below_dr (hb.trans (b1.mono hb.size)) d3)
          clear b1 d3 o1 hr1 hsl hpr hqr hb
          go_wp2_with fail
          go_roundw
          case rel => exact ⟨k + 1, by omega, by go_num, by rw [HS.out]; go_num, hb2.out⟩
          case measure => simp [intOf]; omega
        · have HQ := Lib.hid (show decide (patL ((p.drop k).take q.length) = q) = false from Bool.eq_false_iff.2 hH)
          have HS := Lib.hid (show runsTo p q (k + 1) = runsTo p q k by rw [HS0.out, if_neg hH]; rfl)
          clear hH
          go_wp2_with fail
          (with_reducible refine (pattern_impl _ _ _ ((p.drop k).take q.length) _ HL1.out hk20 hr1).mono ?_)
          rintro e wq ⟨T1, t1, rfl, _, _, o1, b1⟩
          go_wp2_with fail
          (with_reducible refine (equal_b _ _ _ _ _ _ (patL ((p.drop k).take q.length)) q _ false rfl rfl HLp (Rd.of_own o1) (hqr.next b1) HQ.out).mono ?_)
          rintro e wr2 ⟨rfl, d3⟩
          have hb2 := Lib.hid (below_dr (hb.trans (b1.mono hb.size)) d3)
          clear b1 d3 o1 hr1 hsl hpr hqr hb
          go_wp2_with fail
          go_roundw
          case rel => exact ⟨k + 1, by omega, by go_num, by rw [HS.out], hb2.out⟩
          case measure => simp [intOf]; omega
      · obtain rfl : k = p.length + 1 - q.length := by omega
        go_wp2_with fail
        go_ret
        exact ⟨rfl, hb⟩

set_option maxHeartbeats 400000 in
theorem runs_impl (A : Option Addr) (c : Nat) (p : List Int) (B : Option Addr) (d : Nat) (q : List Int) (w : World) (hp1 : In w A c p) (hq1 : In w B d q) :
    Calls Try.prog 55 #[.slice A p.length c, .slice B q.length d] w (Rb w (.int .i64 (runsG p q))) := by
  by_cases hp : permB p = true
  · have h8 := (permB_true hp).1
    by_cases hq : permB q = true
    · have hq8 := (permB_true hq).1
      by_cases h0 : q.length = 0
      · have HG := Lib.hid (show runsG p q = -1 by rw [runsG, if_neg (fun h => h.2.2 h0)])
        have hz : (((q.length : Nat) : Int) == 0) = true := by simp [h0]
        clear h0
        go_enter Try.func55, Try.ntmps55
        go_wp2_with fail
        refine (isPerm_impl _ _ _ _ hp1).mono ?_
        rintro e w1 ⟨rfl, hb1⟩
        rw [hp]
        clear hp
        go_wp2_with fail
        refine (isPerm_impl _ _ _ _ (hq1.next hb1)).mono ?_
        rintro e w2 ⟨rfl, hb2⟩
        rw [hq]
        clear hq
        go_wp2_with fail
        go_ret
        exact ⟨ret_int HG.out.symm, hb1.trans (hb2.mono hb1.size)⟩
      · have HG := Lib.hid (show runsG p q = (runsN p q : Int) by rw [runsG, if_pos ⟨hp, hq, h0⟩])
        have hz : (((q.length : Nat) : Int) == 0) = false := by simp; exact fun h => h0 (by rw [h]; rfl)
        have h0' : 0 < q.length := by omega
        clear h0
        go_enter Try.func55, Try.ntmps55
        go_wp2_with fail
        refine (isPerm_impl _ _ _ _ hp1).mono ?_
        rintro e w1 ⟨rfl, hb1⟩
        rw [hp]
        clear hp
        go_wp2_with fail
        refine (isPerm_impl _ _ _ _ (hq1.next hb1)).mono ?_
        rintro e w2 ⟨rfl, hb2⟩
        rw [hq]
        clear hq
        go_wp2_with fail
        refine (countRuns_impl _ _ _ _ _ _ _ ((hp1.next hb1).next hb2) ((hq1.next hb1).next hb2) h8 hq8 h0').mono ?_
        rintro e w3 ⟨rfl, hb3⟩
        go_wp2_with fail
        go_ret
        exact ⟨ret_int HG.out.symm, (hb1.trans (hb2.mono hb1.size)).trans (hb3.mono (Nat.le_trans hb1.size hb2.size))⟩
    · have hqf : permB q = false := by simpa using hq
      have HG := Lib.hid (show runsG p q = -1 by rw [runsG, if_neg (fun h => hq h.2.1)])
      clear hq
      go_enter Try.func55, Try.ntmps55
      go_wp2_with fail
      refine (isPerm_impl _ _ _ _ hp1).mono ?_
      rintro e w1 ⟨rfl, hb1⟩
      rw [hp]
      clear hp
      go_wp2_with fail
      refine (isPerm_impl _ _ _ _ (hq1.next hb1)).mono ?_
      rintro e w2 ⟨rfl, hb2⟩
      rw [hqf]
      clear hqf
      go_wp2_with fail
      go_ret
      exact ⟨ret_int HG.out.symm, hb1.trans (hb2.mono hb1.size)⟩
  · have hpf : permB p = false := by simpa using hp
    have HG := Lib.hid (show runsG p q = -1 by rw [runsG, if_neg (fun h => hp h.1)])
    clear hp
    go_enter Try.func55, Try.ntmps55
    go_wp2_with fail
    refine (isPerm_impl _ _ _ _ hp1).mono ?_
    rintro e w1 ⟨rfl, hb1⟩
    rw [hpf]
    clear hpf
    go_wp2_with fail
    go_ret
    exact ⟨ret_int HG.out.symm, hb1⟩

set_option maxRecDepth 100000 in
set_option maxHeartbeats 1000000 in
theorem runs_spec (A : Option Addr) (c : Nat) (p : List Int) (B : Option Addr) (d : Nat) (q : List Int) (w : World) (hp1 : In w A c p) (hq1 : In w B d q) :
    Calls Try.prog 56 #[.slice A p.length c, .slice B q.length d] w (Rb w (.int .i64 (runsG p q))) := by
  have hcap := hp1.cap
  by_cases hp : permB p = true
  · by_cases hq : permB q = true
    · have h8 := (permB_true hp).1
      have hq8 := (permB_true hq).1
      by_cases h0 : q.length = 0
      · have HG := Lib.hid (show runsG p q = -1 by rw [runsG, if_neg (fun h => h.2.2 h0)])
        have hz : (((q.length : Nat) : Int) == 0) = true := by simp [h0]
        clear h0
        go_enter Try.func56, Try.ntmps56
        go_wp2_with fail
        refine (isPerm_spec _ _ _ _ hp1).mono ?_
        rintro e wa ⟨rfl, da⟩
        rw [hp]
        clear hp
        go_wp2_with fail
        refine (isPerm_spec _ _ _ _ (hq1.dr da)).mono ?_
        rintro e w1 ⟨rfl, db⟩
        rw [hq]
        clear hq
        go_wp2_with fail
        go_ret
        exact ⟨ret_int HG.out.symm, below_dr (Below.refl _ _) (da.trans db)⟩
      · have HG := Lib.hid (show runsG p q = (runsN p q : Int) by rw [runsG, if_pos ⟨hp, hq, h0⟩])
        have hz : (((q.length : Nat) : Int) == 0) = false := by simp; exact fun h => h0 (by rw [h]; rfl)
        have hq0 : 0 < q.length := by omega
        clear h0
        go_enter Try.func56, Try.ntmps56
        go_wp2_with fail
        refine (isPerm_spec _ _ _ _ hp1).mono ?_
        rintro e wa ⟨rfl, da⟩
        rw [hp]
        clear hp
        go_wp2_with fail
        refine (isPerm_spec _ _ _ _ (hq1.dr da)).mono ?_
        rintro e w1 ⟨rfl, db⟩
        rw [hq]
        clear hq
        have hp1 := (hp1.dr da).dr db
        have hq1 := (hq1.dr da).dr db
        have HD := Lib.hid (below_dr (Below.refl w.heap.size w) (da.trans db))
        clear da db
        go_wp2_with fail
        go_loopw [5, 6] (fun s i wr => ∃ k : Nat, k ≤ p.length + 1 - q.length ∧ i = .int .i64 k ∧ s = .int .i64 (runsTo p q k : Int) ∧ Below w1.heap.size w1 wr) (fun _ i _ => p.length + 1 - q.length - (intOf i).toNat)
        case atStart => exact ⟨0, Nat.zero_le _, rfl, rfl, Below.refl _ _⟩
        case round =>
          obtain ⟨k, hk, rfl, rfl, hb⟩ := hrel
          have hle := runsTo_le p q k
          rcases Nat.lt_or_ge k (p.length + 1 - q.length) with hlt | hge
          · have hpr := (hp1.next hb).rd
            have hqr := (hq1.next hb).rd
            have hsl := fun w => run_cut2 (P := Try.prog) (t := 24) Try.underlying24 sizeI A p.length c k (k + q.length) (k : Int) ((k : Int) + (q.length : Int)) rfl (by omega) (by omega) (by omega) w
            have hr1 : Rd (Value.int .i64) wr wr.heap.size (cutA A c k) ((p.drop k).take q.length) := (hpr.cut (by omega) hcap).take _
            have HL1 := Lib.hid (show ((p.drop k).take q.length).length = q.length by simp; omega)
            have hk20 : q.length ≤ 1048576 := by omega
            have HLp : (patL ((p.drop k).take q.length)).length ≤ 4611686018427387904 := by rw [patL_length, List.length_take]; omega
            have HS0 := Lib.hid (runsTo_succ p q k)
            by_cases hH : runH p q k = true
            · have HQ := Lib.hid (show decide (patL ((p.drop k).take q.length) = q) = true from hH)
              have HS := Lib.hid (show runsTo p q (k + 1) = runsTo p q k + 1 by rw [HS0.out, if_pos hH])
              clear hH
              go_wp2_with fail
              (with_reducible refine (pattern_spec _ _ _ ((p.drop k).take q.length) _ HL1.out hk20 hr1).mono ?_)
              rintro e wq ⟨T1, t1, rfl, _, _, o1, b1⟩
              go_wp2_with fail
              (with_reducible refine (l2Same_b _ _ _ _ _ _ (patL ((p.drop k).take q.length)) q _ true rfl rfl HLp (Rd.of_own o1) (hqr.next b1) HQ.out).mono ?_)
              rintro e wr2 ⟨rfl, d3⟩
              have hb2 := Lib.hid (below_dr (hb.trans (b1.mono hb.size)) d3)
              clear b1 d3 o1 hr1 hsl hpr hqr hb
              go_wp2_with (go_at_call 91; refine (l1Bit_q _ _).mono ?_; rintro e w' ⟨rfl, rfl⟩)
              go_roundw
              case rel => exact ⟨k + 1, by omega, by go_num, by rw [HS.out]; go_num, hb2.out⟩
              case measure => simp [intOf]; omega
            · have HQ := Lib.hid (show decide (patL ((p.drop k).take q.length) = q) = false from Bool.eq_false_iff.2 hH)
              have HS := Lib.hid (show runsTo p q (k + 1) = runsTo p q k by rw [HS0.out, if_neg hH]; rfl)
              clear hH
              go_wp2_with fail
              (with_reducible refine (pattern_spec _ _ _ ((p.drop k).take q.length) _ HL1.out hk20 hr1).mono ?_)
              rintro e wq ⟨T1, t1, rfl, _, _, o1, b1⟩
              go_wp2_with fail
              (with_reducible refine (l2Same_b _ _ _ _ _ _ (patL ((p.drop k).take q.length)) q _ false rfl rfl HLp (Rd.of_own o1) (hqr.next b1) HQ.out).mono ?_)
              rintro e wr2 ⟨rfl, d3⟩
              have hb2 := Lib.hid (below_dr (hb.trans (b1.mono hb.size)) d3)
              clear b1 d3 o1 hr1 hsl hpr hqr hb
              go_wp2_with (go_at_call 91; refine (l1Bit_q _ _).mono ?_; rintro e w' ⟨rfl, rfl⟩)
              go_roundw
              case rel => exact ⟨k + 1, by omega, by go_num, by rw [HS.out], hb2.out⟩
              case measure => simp [intOf]; omega
          · obtain rfl : k = p.length + 1 - q.length := by omega
            go_wp2_with fail
            go_ret
            exact ⟨ret_int HG.out.symm, HD.out.trans (hb.mono HD.out.size)⟩
    · have hqf : permB q = false := by simpa using hq
      have HG := Lib.hid (show runsG p q = -1 by rw [runsG, if_neg (fun h => hq h.2.1)])
      clear hq
      go_enter Try.func56, Try.ntmps56
      go_wp2_with fail
      refine (isPerm_spec _ _ _ _ hp1).mono ?_
      rintro e wa ⟨rfl, da⟩
      rw [hp]
      clear hp
      go_wp2_with fail
      refine (isPerm_spec _ _ _ _ (hq1.dr da)).mono ?_
      rintro e w1 ⟨rfl, db⟩
      rw [hqf]
      clear hqf
      go_wp2_with fail
      go_ret
      exact ⟨ret_int HG.out.symm, below_dr (Below.refl _ _) (da.trans db)⟩
  · have hpf : permB p = false := by simpa using hp
    have HG := Lib.hid (show runsG p q = -1 by rw [runsG, if_neg (fun h => hp h.1)])
    clear hp
    go_enter Try.func56, Try.ntmps56
    go_wp2_with fail
    refine (isPerm_spec _ _ _ _ hp1).mono ?_
    rintro e wa ⟨rfl, da⟩
    rw [hpf]
    clear hpf
    go_wp2_with fail
    go_ret
    exact ⟨ret_int HG.out.symm, below_dr (Below.refl _ _) da⟩
end Go.Proofs.Ythipikllgpnlhaa

/- Counting permutations for which something holds; AvoidRuns. -/
namespace Go.Proofs.Ythipikllgpnlhaa
set_option maxRecDepth 100000
open Go Go.RowKit

theorem isPerm_ib (A : Option Addr) (c : Nat) (xs : List Int) (w : World) (b : Bool) (h : In w A c xs) (hb : permB xs = b) : Calls Try.prog 74 #[.slice A xs.length c] w (Rb w (.bool b)) := by
  subst hb; exact isPerm_impl A c xs w h
theorem isPerm_sb (A : Option Addr) (c : Nat) (xs : List Int) (w : World) (b : Bool) (h : In w A c xs) (hb : permB xs = b) : Calls Try.prog 19 #[.slice A xs.length c] w (Rq w (.bool b)) := by
  subst hb; exact isPerm_spec A c xs w h
theorem l1Bit_b (b : Bool) (n : Int) (w : World) (hb : (if b = true then 1 else 0) = n) : Calls Try.prog 91 #[.bool b] w fun e w' => e = .returned (.int .i64 n) ∧ w = w' := by
  subst hb; exact l1Bit_q b w
/-- How many of the first k have it. -/
def cntTo {α : Type} (H : α → Bool) (l : List α) (k : Nat) : Nat := ((l.take k).filter H).length
theorem cntTo_succ {α : Type} (H : α → Bool) (l : List α) (k : Nat) (h : k < l.length) : cntTo H l (k + 1) = cntTo H l k + (if H l[k] = true then 1 else 0) := by
  unfold cntTo
  rw [List.take_succ_eq_append_getElem h, List.filter_append, List.length_append]
  by_cases hh : H l[k] = true <;> simp [hh]
theorem cntTo_le {α : Type} (H : α → Bool) (l : List α) (k : Nat) : cntTo H l k ≤ k := by
  unfold cntTo
  have h1 := List.length_filter_le H (l.take k)
  have h2 := List.length_take_le k l
  omega
theorem cntTo_all {α : Type} (H : α → Bool) (l : List α) : cntTo H l l.length = (l.filter H).length := by unfold cntTo; rw [List.take_length]
theorem permsL_le {n : Nat} (hn : n ≤ 6) : (permsL n).length ≤ 46656 := Nat.le_trans (permsI_le n n) (pow_six hn hn)
theorem row_in {w : World} {B : Nat} {rs : List Row} {os : List Outer} (h : Read w B rs os) {r : Row} (hr : r ∈ rs) (hl : r.xs.length ≤ 1048576) (hB : B ≤ w.heap.size) : In w r.A r.c r.xs := ⟨hl, h.cap r hr, (h.rd r hr).more hB⟩
theorem map_getX {rs : List Row} {L : List (List Int)} (h : rs.map Row.xs = L) {j : Nat} (hj : j < rs.length) : rs[j].xs = L[j]'(by rw [← h, List.length_map]; exact hj) := by
  subst h; simp
theorem map_memX {rs : List Row} {L : List (List Int)} (h : rs.map Row.xs = L) {r : Row} (hr : r ∈ rs) : r.xs ∈ L := by
  subst h; exact List.mem_map.2 ⟨r, hr, rfl⟩

def sixB (n : Int) : Bool := decide (0 ≤ n ∧ n ≤ 6)
theorem isSix_any (n : Int) (w : World) (b : Bool) (hb : sixB n = b) : Calls Try.prog 112 #[.int .i64 n] w fun e w' => e = .returned (.bool b) ∧ w = w' := by
  subst hb
  by_cases h0 : 0 ≤ n
  · by_cases h6 : n ≤ 6
    · have HS := Lib.hid (show sixB n = true by simp [sixB, h0, h6])
      go_enter Try.func112, Try.ntmps112
      go_wp2
      go_ret
      exact ⟨ret_bool (by rw [HS.out]), rfl⟩
    · have HS := Lib.hid (show sixB n = false by simp [sixB, h6])
      go_enter Try.func112, Try.ntmps112
      go_wp2
      go_ret
      exact ⟨ret_bool (by rw [HS.out]), rfl⟩
  · have HS := Lib.hid (show sixB n = false by simp [sixB, h0])
    go_enter Try.func112, Try.ntmps112
    go_wp2
    go_ret
    exact ⟨ret_bool (by rw [HS.out]), rfl⟩

set_option maxHeartbeats 2000000 in
theorem counted_impl (n : Nat) (F g : Nat) (H : List Int → Bool) (w : World) (hn : n ≤ 6)
    (hF : ∀ args w', (callFunc F args).run Try.prog w' = .ok (.enter F args) w')
    (hcl : ∀ (w' : World) (A : Option Addr) (c : Nat) (p : List Int), Below w.heap.size w w' → In w' A c p → p ∈ permsL n → Calls Try.prog F #[.slice A p.length c, .pointer (some ⟨g, 0, none⟩)] w' (Rb w' (.bool (H p)))) :
    Calls Try.prog 113 #[.int .i64 n, .func (.func F) #[] #[.pointer (some ⟨g, 0, none⟩)]] w (Rb w (.int .i64 (((permsL n).filter H).length : Int))) := by
  go_enter Try.func113, Try.ntmps113
  go_wp2_with fail
  (with_reducible refine (perms_impl n w hn).mono ?_)
  rintro e w1 ⟨A1, c1, rs, rfl, hX, hO, hb1⟩
  have hRd := hO.read
  have HX := Lib.hid hX
  have hlen : rs.length ≤ 46656 := by have h1 := permsL_le hn; rw [← HX.out, List.length_map] at h1; exact h1
  clear hX hO
  go_wp2_with fail
  go_loopw [5, 11] (fun s i wr => ∃ k : Nat, k ≤ rs.length ∧ i = .int .i64 k ∧ s = .int .i64 (cntTo (fun r : Row => H r.xs) rs k : Nat) ∧ Below w1.heap.size w1 wr) (fun _ i _ => rs.length - (intOf i).toNat)
  case atStart => exact ⟨0, Nat.zero_le _, rfl, rfl, Below.refl _ _⟩
  case round =>
    obtain ⟨k, hk, rfl, rfl, hb⟩ := hrel
    have hle := cntTo_le (fun r : Row => H r.xs) rs k
    rcases Nat.lt_or_ge k rs.length with hlt | hge
    · have hRd2 := hRd.below hb
      obtain ⟨b, off, rfl, _, hc⟩ := hRd2.at (by omega)
      have c1' := hc k hlt
      have hmem := map_memX HX.out (List.getElem_mem hlt)
      have hl6 : rs[k].xs.length ≤ 1048576 := by have := (permsI_mem hmem).1; omega
      have hin := row_in hRd2 (List.getElem_mem hlt) hl6 hb.size
      have hbw := hb1.trans (hb.mono hb1.size)
      have HS := Lib.hid (cntTo_succ (fun r : Row => H r.xs) rs k hlt)
      have HM := Lib.hid hmem
      clear hc hmem hRd2
      go_wp2_with fail
      (with_reducible refine (hcl wr rs[k].A rs[k].c rs[k].xs hbw hin HM.out).mono ?_)
      rintro e w2 ⟨rfl, hb2⟩
      have hb3 := hb.trans (hb2.mono hb.size)
      by_cases hH : H rs[k].xs = true
      · have HT := Lib.hid (show cntTo (fun r : Row => H r.xs) rs (k + 1) = cntTo (fun r : Row => H r.xs) rs k + 1 by rw [HS.out, if_pos hH])
        rw [hH]
        clear hH HS
        go_wp2_with fail
        go_roundw
        case rel => exact ⟨k + 1, by omega, by go_num, by rw [HT.out]; all_goals go_num, hb3⟩
        case measure => simp [intOf]; omega
      · have hHf : H rs[k].xs = false := by simpa using hH
        have HT := Lib.hid (show cntTo (fun r : Row => H r.xs) rs (k + 1) = cntTo (fun r : Row => H r.xs) rs k by rw [HS.out, if_neg hH, Nat.add_zero])
        rw [hHf]
        clear hH hHf HS
        go_wp2_with fail
        go_roundw
        case rel => exact ⟨k + 1, by omega, by go_num, by rw [HT.out], hb3⟩
        case measure => simp [intOf]; omega
    · obtain rfl : k = rs.length := by omega
      have HE := Lib.hid (show cntTo (fun r : Row => H r.xs) rs rs.length = ((permsL n).filter H).length by
        rw [cntTo_all, ← HX.out, List.filter_map, List.length_map]; rfl)
      go_wp2_with fail
      go_ret
      exact ⟨ret_int (by rw [HE.out]), hb1.trans (hb.mono hb1.size)⟩

def avrH (q p : List Int) : Bool := decide (runsN p q = 0)
def avrG (n : Int) (q : List Int) : Int := if sixB n = true ∧ permB q = true ∧ q.length ≠ 0 then (((permsL n.toNat).filter (avrH q)).length : Int) else -1
set_option maxHeartbeats 1000000 in
theorem avr_cl (A B : Option Addr) (c d g : Nat) (p q : List Int) (w : World) (hp : In w A c p) (hq : In w B d q) (hg : w.cell? ⟨g, 0, none⟩ = some (.slice B q.length d)) (h8 : p.length ≤ 8) (hq8 : q.length ≤ 8) (hq0 : 0 < q.length) :
    Calls Try.prog 114 #[.slice A p.length c, .pointer (some ⟨g, 0, none⟩)] w (Rb w (.bool (avrH q p))) := by
  have HD := Lib.hid (show ((runsN p q : Int) == 0) = avrH q p by unfold avrH; rw [Bool.eq_iff_iff]; simp)
  go_enter Try.func114, Try.ntmps114
  go_wp2_with fail
  (with_reducible refine (countRuns_impl A B c d p q w hp hq h8 hq8 hq0).mono ?_)
  rintro e w1 ⟨rfl, hb1⟩
  go_wp2_with fail
  go_ret
  exact ⟨ret_bool HD.out, hb1⟩
theorem call_avr (args : Array Value) (w : World) : (callFunc 114 args).run Try.prog w = .ok (.enter 114 args) w := by kernel_rfl
set_option maxHeartbeats 2000000 in
theorem avoidRuns_impl (n : Int) (_ : -9223372036854775808 ≤ n ∧ n ≤ 9223372036854775807) (B : Option Addr) (d : Nat) (q : List Int) (w : World) (hq : In w B d q) :
    Calls Try.prog 57 #[.int .i64 n, .slice B q.length d] w (Rb w (.int .i64 (avrG n q))) := by
  have hmf : ∀ (fn : Fn) (first cap : Array Value) (w : World), (Instr.makeFunc fn first cap).run Try.prog w = .ok (.func fn first cap) w := fun _ _ _ _ => rfl
  have hb0 := (Below.refl w.heap.size w).alloc (Nat.le_refl _) (.cells #[.slice B q.length d] 24)
  have h0 := hq.next hb0
  have hc0 := alloc_cell w (.slice B q.length d) 24
  have hz0 : (w.alloc (.cells #[.slice B q.length d] 24)).heap.size = w.heap.size + 1 := by simp
  go_enter Try.func57, Try.ntmps57
  go_wp2_with fail
  generalize (w.alloc (.cells #[.slice B q.length d] 24)) = w0 at hb0 h0 hc0 hz0 ⊢
  by_cases h6 : sixB n = true
  · (with_reducible refine (isSix_any n w0 true h6).mono ?_)
    rintro e w' ⟨rfl, rfl⟩
    have h6' : 0 ≤ n ∧ n ≤ 6 := by simpa [sixB] using h6
    obtain ⟨m, rfl⟩ := Int.eq_ofNat_of_zero_le h6'.1
    have hm : m ≤ 6 := by omega
    have H6 := Lib.hid h6
    clear h6 h6'
    go_wp2_with fail
    by_cases hp : permB q = true
    · have HP := Lib.hid hp
      have h8 := (permB_true hp).1
      clear hp
      (with_reducible refine (isPerm_ib B d q w0 true h0 HP.out).mono ?_)
      rintro e w1 ⟨rfl, hb1⟩
      have hc1 : w1.cell? ⟨w.heap.size, 0, none⟩ = some (.slice B q.length d) := (hb1.cell (p := ⟨w.heap.size, 0, none⟩) (by rw [hz0]; exact Nat.lt_succ_self _)).trans hc0
      have h1 := h0.next hb1
      have hsz1 := hb1.size
      by_cases hl : q.length = 0
      · have HG := Lib.hid (show avrG m q = -1 by unfold avrG; rw [if_neg]; exact fun h => h.2.2 hl)
        have hd : ((q.length : Int) == 0) = true := by simp; exact List.eq_nil_of_length_eq_zero hl
        clear hl
        go_wp2_with fail
        go_ret
        exact ⟨ret_int (by rw [HG.out]), hb0.trans (hb1.mono hb0.size)⟩
      · have hq0 : 0 < q.length := by omega
        have HG := Lib.hid (show avrG m q = (((permsL m).filter (avrH q)).length : Int) by unfold avrG; rw [if_pos ⟨H6.out, HP.out, hl⟩]; rfl)
        have hd : ((q.length : Int) == 0) = false := by simp; intro h; rw [h] at hq0; simp at hq0
        clear hl
        go_wp2_with fail
        refine (counted_impl m 114 w.heap.size (avrH q) w1 hm (fun args w' => call_avr args w') (fun w' A c p hb hin hmem => ?_)).mono ?_
        · have hlp : p.length = m := (permsI_mem hmem).1
          exact avr_cl A B c d _ p q w' hin (h1.next hb) ((hb.cell (p := ⟨w.heap.size, 0, none⟩) (by show w.heap.size < w1.heap.size; omega)).trans hc1) (by omega) h8 hq0
        · rintro e w2 ⟨rfl, hb2⟩
          go_wp2_with fail
          go_ret
          exact ⟨ret_int (by rw [HG.out]), (hb0.trans (hb1.mono hb0.size)).trans (hb2.mono (Nat.le_trans hb0.size hb1.size))⟩
    · have hpf : permB q = false := by simpa using hp
      have HG := Lib.hid (show avrG m q = -1 by unfold avrG; rw [if_neg]; exact fun h => hp h.2.1)
      clear hp
      (with_reducible refine (isPerm_ib B d q w0 false h0 hpf).mono ?_)
      rintro e w1 ⟨rfl, hb1⟩
      clear hpf
      go_wp2_with fail
      go_ret
      exact ⟨ret_int (by rw [HG.out]), hb0.trans (hb1.mono hb0.size)⟩
  · have h6f : sixB n = false := by simpa using h6
    have HG := Lib.hid (show avrG n q = -1 by unfold avrG; rw [if_neg]; exact fun h => h6 h.1)
    clear h6
    (with_reducible refine (isSix_any n w0 false h6f).mono ?_)
    rintro e w' ⟨rfl, rfl⟩
    clear h6f
    go_wp2_with fail
    go_ret
    exact ⟨ret_int (by rw [HG.out]), hb0⟩

set_option maxHeartbeats 2000000 in
theorem avoidRuns_spec (n : Int) (_ : -9223372036854775808 ≤ n ∧ n ≤ 9223372036854775807) (B : Option Addr) (d : Nat) (q : List Int) (w : World) (hq : In w B d q) :
    Calls Try.prog 58 #[.int .i64 n, .slice B q.length d] w (Rb w (.int .i64 (avrG n q))) := by
  go_enter Try.func58, Try.ntmps58
  go_wp2_with fail
  by_cases h6 : sixB n = true
  · have h6' : 0 ≤ n ∧ n ≤ 6 := by simpa [sixB] using h6
    (with_reducible refine (l1In_b n 0 6 w true (decide_eq_true h6')).mono ?_)
    rintro e w' ⟨rfl, rfl⟩
    obtain ⟨m, rfl⟩ := Int.eq_ofNat_of_zero_le h6'.1
    have hm : m ≤ 6 := by omega
    have HPG := Lib.hid (show permsG (m : Int) = permsL m by unfold permsG; rw [if_pos h6']; rfl)
    have H6 := Lib.hid h6
    clear h6 h6'
    go_wp2_with fail
    by_cases hp : permB q = true
    · have HP := Lib.hid hp
      have h8 := (permB_true hp).1
      clear hp
      (with_reducible refine (isPerm_sb B d q w true hq HP.out).mono ?_)
      rintro e w0 ⟨rfl, hd0⟩
      have h0 := hq.dr hd0
      have hb0 := below_dr (Below.refl w.heap.size w) hd0
      by_cases hl : q.length = 0
      · have HG := Lib.hid (show avrG m q = -1 by unfold avrG; rw [if_neg]; exact fun h => h.2.2 hl)
        have hd : ((q.length : Int) == 0) = true := by simp; exact List.eq_nil_of_length_eq_zero hl
        clear hl
        go_wp2_with fail
        go_ret
        exact ⟨ret_int (by rw [HG.out]), hb0⟩
      · have hq0 : 0 < q.length := by omega
        have HG := Lib.hid (show avrG m q = (((permsL m).filter (avrH q)).length : Int) by unfold avrG; rw [if_pos ⟨H6.out, HP.out, hl⟩]; rfl)
        have hd : ((q.length : Int) == 0) = false := by simp; intro h; rw [h] at hq0; simp at hq0
        clear hl
        go_wp2_with fail
        (with_reducible refine (permsOf_spec (m : Int) w0).mono ?_)
        rintro e w1 ⟨A1, c1, rs, rfl, hX, hO, hb1⟩
        rw [HPG.out] at hX
        have hRd := hO.read
        have HX := Lib.hid hX
        have hlen : rs.length ≤ 46656 := by have h1 := permsL_le hm; rw [← HX.out, List.length_map] at h1; exact h1
        have h1 := h0.next hb1
        have hbw1 := hb0.trans (hb1.mono hb0.size)
        clear hX hO
        go_wp2_with fail
        go_loopw [5, 7] (fun s i wr => ∃ k : Nat, k ≤ rs.length ∧ i = .int .i64 k ∧ s = .int .i64 (cntTo (fun r : Row => avrH q r.xs) rs k : Nat) ∧ Below w1.heap.size w1 wr) (fun _ i _ => rs.length - (intOf i).toNat)
        case atStart => exact ⟨0, Nat.zero_le _, rfl, rfl, Below.refl _ _⟩
        case round =>
          obtain ⟨k, hk, rfl, rfl, hb⟩ := hrel
          have hle := cntTo_le (fun r : Row => avrH q r.xs) rs k
          rcases Nat.lt_or_ge k rs.length with hlt | hge
          · have hRd2 := hRd.below hb
            obtain ⟨b, off, rfl, _, hc⟩ := hRd2.at (by omega)
            have c1' := hc k hlt
            have hmem := map_memX HX.out (List.getElem_mem hlt)
            have hlm := (permsI_mem hmem).1
            have hl6 : rs[k].xs.length ≤ 1048576 := by omega
            have hin := row_in hRd2 (List.getElem_mem hlt) hl6 hb.size
            have HR := Lib.hid (show runsG rs[k].xs q = (runsN rs[k].xs q : Int) by unfold runsG; rw [if_pos ⟨(permsL_perm (by omega) hmem).1, HP.out, by omega⟩])
            have HS := Lib.hid (cntTo_succ (fun r : Row => avrH q r.xs) rs k hlt)
            clear hc hmem hlm hRd2
            go_wp2_with fail
            (with_reducible refine (runs_spec rs[k].A rs[k].c rs[k].xs B d q wr hin (h1.next hb)).mono ?_)
            rintro e w2 ⟨rfl, hb2⟩
            rw [HR.out]
            have hb3 := hb.trans (hb2.mono hb.size)
            by_cases hH : avrH q rs[k].xs = true
            · have HT := Lib.hid (show cntTo (fun r : Row => avrH q r.xs) rs (k + 1) = cntTo (fun r : Row => avrH q r.xs) rs k + 1 by rw [HS.out, if_pos hH])
              have hz : ((runsN rs[k].xs q : Int) == 0) = true := by have := hH; unfold avrH at this; simpa using this
              clear hH HS
              go_wp2_with fail
              (with_reducible refine (l1Bit_b true 1 _ rfl).mono ?_)
              rintro e w' ⟨rfl, rfl⟩
              clear hz
              go_wp2_with fail
              go_roundw
              case rel => exact ⟨k + 1, by omega, by go_num, by rw [HT.out]; all_goals go_num, hb3⟩
              case measure => simp [intOf]; omega
            · have HT := Lib.hid (show cntTo (fun r : Row => avrH q r.xs) rs (k + 1) = cntTo (fun r : Row => avrH q r.xs) rs k by rw [HS.out, if_neg hH, Nat.add_zero])
              have hz : ((runsN rs[k].xs q : Int) == 0) = false := by have := hH; unfold avrH at this; simpa using this
              clear hH HS
              go_wp2_with fail
              (with_reducible refine (l1Bit_b false 0 _ rfl).mono ?_)
              rintro e w' ⟨rfl, rfl⟩
              clear hz
              go_wp2_with fail
              go_roundw
              case rel => exact ⟨k + 1, by omega, by go_num, by rw [HT.out]; all_goals go_num, hb3⟩
              case measure => simp [intOf]; omega
          · obtain rfl : k = rs.length := by omega
            have HE := Lib.hid (show cntTo (fun r : Row => avrH q r.xs) rs rs.length = ((permsL m).filter (avrH q)).length by
              rw [cntTo_all, ← HX.out, List.filter_map, List.length_map]; rfl)
            go_wp2_with fail
            go_ret
            exact ⟨ret_int (by rw [HG.out, HE.out]), hbw1.trans (hb.mono hbw1.size)⟩
    · have hpf : permB q = false := by simpa using hp
      have HG := Lib.hid (show avrG m q = -1 by unfold avrG; rw [if_neg]; exact fun h => hp h.2.1)
      clear hp
      (with_reducible refine (isPerm_sb B d q w false hq hpf).mono ?_)
      rintro e w0 ⟨rfl, hd0⟩
      have hb0 := below_dr (Below.refl w.heap.size w) hd0
      clear hpf
      go_wp2_with fail
      go_ret
      exact ⟨ret_int (by rw [HG.out]), hb0⟩
  · have h6f : sixB n = false := by simpa using h6
    have HG := Lib.hid (show avrG n q = -1 by unfold avrG; rw [if_neg]; exact fun h => h6 h.1)
    have h6' : decide (0 ≤ n ∧ n ≤ 6) = false := h6f
    clear h6 h6f
    (with_reducible refine (l1In_b n 0 6 w false h6').mono ?_)
    rintro e w' ⟨rfl, rfl⟩
    clear h6'
    go_wp2_with fail
    go_ret
    exact ⟨ret_int (by rw [HG.out]), Below.refl _ _⟩
end Go.Proofs.Ythipikllgpnlhaa

/- Plain: permutations as lists: how many there can be in a range; a permutation is its own pattern. -/
namespace Go.Proofs.Ythipikllgpnlhaa
set_option maxRecDepth 100000
open Go

theorem nodup_len_le : ∀ (k : Nat) (l : List Int) (lo : Int), l.Nodup → (∀ y ∈ l, lo ≤ y ∧ y < lo + k) → l.length ≤ k
  | 0, l, lo, _, h => by
    cases l with
    | nil => simp
    | cons y l => have := h y (by simp); omega
  | k + 1, l, lo, hn, h => by
    have h1 := nodup_len_le k (l.erase (lo + k)) lo (hn.erase _) (fun y hy => by
      have hm := List.mem_of_mem_erase hy
      have hne : y ≠ lo + k := fun e => by
        subst e
        exact (hn.mem_erase_iff.1 hy).1 rfl
      have := h y hm
      omega)
    have h2 := List.length_erase (a := lo + k) (l := l)
    split at h2 <;> omega

theorem belowN_eq {l : List Int} {m : Nat} (hn : l.Nodup) (hr : ∀ y ∈ l, 1 ≤ y ∧ y ≤ m) (hl : l.length = m) (x : Int) (hx : 1 ≤ x ∧ x ≤ m) : (belowN l x : Int) = x - 1 := by
  have h1 := nodup_len_le (x - 1).toNat (l.filter fun y => decide (y < x)) 1 (hn.filter _) (fun y hy => by
    have := List.mem_filter.1 hy
    have h := hr y this.1
    have h2 : y < x := by simpa using this.2
    omega)
  have h2 := nodup_len_le (m + 1 - x).toNat (l.filter fun y => !decide (y < x)) x (hn.filter _) (fun y hy => by
    have := List.mem_filter.1 hy
    have h := hr y this.1
    have h2 : ¬ y < x := by simpa using this.2
    omega)
  have h3 : (l.filter fun y => decide (y < x)).length + (l.filter fun y => !decide (y < x)).length = l.length := by
    clear h1 h2 hn hr hl
    induction l with
    | nil => rfl
    | cons y l ih => by_cases h : y < x <;> simp [h] <;> omega
  unfold belowN
  omega

theorem patL_self {l : List Int} {m : Nat} (hn : l.Nodup) (hr : ∀ y ∈ l, 1 ≤ y ∧ y ≤ m) (hl : l.length = m) : patL l = l := by
  unfold patL
  conv => rhs; rw [← List.map_id l]
  exact List.map_congr_left fun x hx => by rw [belowN_eq hn hr hl x (hr x hx)]; simp

/-- In a permutation of n each number up to n occurs. -/
theorem perm_mem {l : List Int} {m : Nat} (hn : l.Nodup) (hr : ∀ y ∈ l, 1 ≤ y ∧ y ≤ m) (hl : l.length = m) (x : Int) (hx : 1 ≤ x ∧ x ≤ m) : x ∈ l := by
  refine Classical.byContradiction fun hno => ?_
  have h1 := nodup_len_le (x - 1).toNat (l.filter fun y => decide (y < x)) 1 (hn.filter _) (fun y hy => by
    have := List.mem_filter.1 hy
    have h := hr y this.1
    have h2 : y < x := by simpa using this.2
    omega)
  have h2 := nodup_len_le (m - x).toNat (l.filter fun y => !decide (y < x)) (x + 1) (hn.filter _) (fun y hy => by
    have := List.mem_filter.1 hy
    have h := hr y this.1
    have h2 : ¬ y < x := by simpa using this.2
    have h3 : y ≠ x := fun e => hno (by subst e; exact this.1)
    omega)
  have h3 : (l.filter fun y => decide (y < x)).length + (l.filter fun y => !decide (y < x)).length = l.length := by
    clear h1 h2 hn hr hl hno
    induction l with
    | nil => rfl
    | cons y l ih => by_cases h : y < x <;> simp [h] <;> omega
  omega

def cutAt (xs : List Int) (i : Nat) : List Int := xs.take i ++ xs.drop (i + 1)
theorem cutAt_length (xs : List Int) (i : Nat) (h : i < xs.length) : (cutAt xs i).length = xs.length - 1 := by simp [cutAt]; omega
theorem cutAt_split {xs : List Int} {i : Nat} (h : i < xs.length) : xs = xs.take i ++ (xs[i] :: xs.drop (i + 1)) := by
  rw [← List.drop_eq_getElem_cons h, List.take_append_drop]
/-- The greatest number cut out of a permutation leaves the lesser ones, a permutation. -/
theorem parent_eq {xs : List Int} {i : Nat} (hp : permB xs = true) (hi : i < xs.length) (hx : xs[i] = (xs.length : Int)) : patL (cutAt xs i) = xs.filter fun y => decide (y < (xs.length : Int)) := by
  obtain ⟨_, hr, hn⟩ := permB_true hp
  have hs := cutAt_split hi
  have hf : (xs.filter fun y => decide (y < (xs.length : Int))) = cutAt xs i := by
    have key : ∀ l : List Int, (∀ y ∈ l, y ≠ (xs.length : Int)) → (∀ y ∈ l, 1 ≤ y ∧ y ≤ (xs.length : Int)) → l.filter (fun y => decide (y < (xs.length : Int))) = l := fun l h1 h2 => List.filter_eq_self.2 fun y hy => by
      have a := h1 y hy
      have b := (h2 y hy).2
      simp; omega
    have hn' := hn
    rw [hs, List.nodup_append] at hn'
    obtain ⟨_, hn2, hn3⟩ := hn'
    rw [List.nodup_cons] at hn2
    conv => lhs; arg 2; rw [hs]
    rw [List.filter_append, List.filter_cons, if_neg (by rw [hx]; simp)]
    rw [key _ (fun y hy e => hn3 y hy _ (List.mem_cons_self) (by rw [hx]; exact e)) (fun y hy => hr y (List.mem_of_mem_take hy)), key _ (fun y hy e => hn2.1 (by rw [hx, ← e]; exact hy)) (fun y hy => hr y (List.mem_of_mem_drop hy))]
    rfl
  rw [hf]
  refine patL_self (m := xs.length - 1) ?_ ?_ (cutAt_length xs i hi)
  · rw [← hf]; exact hn.filter _
  · intro y hy
    rw [← hf] at hy
    have h1 := List.mem_filter.1 hy
    have h2 := hr y h1.1
    have h3 : y < (xs.length : Int) := by simpa using h1.2
    omega
end Go.Proofs.Ythipikllgpnlhaa
