/- Does a pattern occur: the program's search. -/
import Derived.Test.YthkggnmfdlggbaaDoorL3
import Derived.Test.YthkggnmfdlggbaaDoorM3
import Derived.Test.YthkggnmfdlggbaaDoorQ2
import Derived.Test.YthkggnmfdlggbaaDoorK1
import Derived.Deep.DeepCutAuto
import Derived.Deep.CutRange
namespace Go.Proofs.YthkggnmfdlggbaaDoor
set_option maxRecDepth 100000
open Go Go.RowKit

/-- The last of the chosen places fits with all before it (places counted from 0). -/
theorem fits_up {p q l : List Int} {i : Int} : fitsB p q (up (l ++ [i])) = (List.range l.length).all fun k => decide (q[k]?.getD 0 < q[l.length]?.getD 0) == decide (nth p (l[k]?.getD 0) < nth p i) := by
  unfold fitsB up
  simp only [List.map_append, List.map_cons, List.map_nil, List.length_append, List.length_map, List.length_cons, List.length_nil, Nat.zero_add, Nat.add_sub_cancel]
  rw [Bool.eq_iff_iff, List.all_eq_true, List.all_eq_true]
  have hat : ∀ k, k < l.length → (atL p (l.map (· + 1) ++ [i + 1]))[k]?.getD 0 = nth p (l[k]?.getD 0) := fun k hk => by
    unfold atL nth
    rw [List.getElem?_map, List.getElem?_append_left (by simpa using hk), List.getElem?_map, List.getElem?_eq_getElem hk]
    simp only [Option.map_some, Option.getD_some, Int.add_sub_cancel]
  have hlast : (atL p (l.map (· + 1) ++ [i + 1]))[l.length]?.getD 0 = nth p i := by
    unfold atL nth
    rw [List.getElem?_map, List.getElem?_append_right (by simp)]
    simp only [List.length_map, Nat.sub_self, List.getElem?_cons_zero, Option.map_some, Option.getD_some, Int.add_sub_cancel]
  constructor
  · intro h k hk
    have h1 := h k hk
    rw [hat k (List.mem_range.1 hk), hlast] at h1
    exact h1
  · intro h k hk
    rw [hat k (List.mem_range.1 hk), hlast]
    exact h k hk
/-- The fits among the first k of the chosen. -/
def fitTo (p q l : List Int) (i : Int) (k : Nat) : Bool := (List.range k).all fun k => decide (q[k]?.getD 0 < q[l.length]?.getD 0) == decide (nth p (l[k]?.getD 0) < nth p i)
theorem fitTo_succ (p q l : List Int) (i : Int) (k : Nat) : fitTo p q l i (k + 1) = (fitTo p q l i k && (decide (q[k]?.getD 0 < q[l.length]?.getD 0) == decide (nth p (l[k]?.getD 0) < nth p i))) := by
  simp [fitTo, List.range_succ]
theorem fitTo_all (p q l : List Int) (i : Int) : fitTo p q l i l.length = fitsB p q (up (l ++ [i])) := fits_up.symm
/-- What the search has found behind the first u places. -/
def hasTo (p q : List Int) (k : Nat) (l : List Int) (u : Nat) : Bool := (marks (from0 l) u).any fun i => fitsB p q (up (l ++ [i])) && hasF p q k (l ++ [i])
theorem hasTo_succ (p q : List Int) (k : Nat) (l : List Int) (u : Nat) : hasTo p q k l (u + 1) = (hasTo p q k l u || (fitsB p q (up (l ++ [from0 l + u])) && hasF p q k (l ++ [from0 l + u]))) := by
  unfold hasTo
  rw [marks_succ, List.any_append]
  simp
theorem hasTo_mono {p q : List Int} {k : Nat} {l : List Int} {u m : Nat} (h : u < m) (h1 : (fitsB p q (up (l ++ [from0 l + u])) && hasF p q k (l ++ [from0 l + u])) = true) : hasTo p q k l m = true := by
  unfold hasTo
  refine List.any_eq_true.2 ⟨from0 l + u, List.mem_map.2 ⟨u, List.mem_range.2 h, rfl⟩, h1⟩
/-- Chosen places, ascending and within p. -/
def Chos (n : Nat) (l : List Int) : Prop := (∀ x ∈ l, 0 ≤ x ∧ x < n) ∧ 0 ≤ from0 l ∧ from0 l ≤ n
theorem Chos.nil (n : Nat) : Chos n [] := ⟨by simp, by simp [from0], by simp [from0]⟩
theorem Chos.snoc {n : Nat} {l : List Int} (h : Chos n l) {x : Int} (h1 : 0 ≤ x) (h2 : x < n) : Chos n (l ++ [x]) := by
  refine ⟨fun y hy => ?_, by simp [from0]; omega, by simp [from0]; omega⟩
  rcases List.mem_append.1 hy with hy | hy
  · exact h.1 y hy
  · obtain rfl := List.mem_singleton.1 hy
    exact ⟨h1, h2⟩

set_option maxHeartbeats 8000000 in
theorem has_rec (p q : List Int) (hp8 : p.length ≤ 1000) (hq8 : q.length ≤ 1000) : ∀ (k : Nat) (l : List Int) (A B D : Option Addr) (c d f : Nat) (w : World), l.length + k = q.length → Chos p.length l →
    In w A c p → In w B d q → In w D f l →
    Calls Tryd.prog 24 #[.slice A p.length c, .slice B q.length d, .slice D l.length f] w (Rb w (.bool (hasF p q k l))) := by
  obtain ⟨i0, hi, hz0, hz1, hz2⟩ := info_parts infoI
  intro k
  induction k with
  | zero =>
    intro l A B D c d f w hk hch hp hq hl
    have d1 : ((l.length : Int) == (q.length : Int)) = true := by simp; omega
    have HK := Lib.hid hk
    clear hk
    go_enter Tryd.func24, Tryd.ntmps24
    go_wp2_with fail
    go_ret
    exact ⟨rfl, Below.refl _ _⟩
  | succ k ih =>
    intro l A B D c d f w hk hch hp hq hl
    have d1 : ((l.length : Int) == (q.length : Int)) = false := by simp; omega
    have hll : l.length ≤ 1000 := by omega
    have hlq : l.length < q.length := by omega
    obtain ⟨fr, hfr⟩ : ∃ fr : Nat, (fr : Int) = from0 l := ⟨(from0 l).toNat, by have := hch.2.1; omega⟩
    have hfr1 : fr ≤ p.length := by have := hch.2.2; omega
    have HFR := Lib.hid hfr
    obtain ⟨m, hm⟩ : ∃ m : Nat, m = ((p.length : Int) - (k + 1) + 1 - from0 l).toNat := ⟨_, rfl⟩
    have HM := Lib.hid hm
    have hm1 : ∀ u : Nat, (fr : Int) + u ≤ (p.length : Int) - (k + 1) ↔ u < m := fun u => by rw [hm, ← hfr]; omega
    have HM1 := Lib.hid hm1
    have HK := Lib.hid hk
    have HG := Lib.hid (show hasF p q (k + 1) l = hasTo p q k l m by rw [hm]; rfl)
    have hkq : (q.length : Int) - l.length = k + 1 := by omega
    clear hfr hm hm1 hk
    go_enter Tryd.func24, Tryd.ntmps24
    go_upto_if 20 with (fail)
    go_cut [7] (fun s7 wx => s7 = .int .i64 (fr : Int) ∧ wx = w)
    case first =>
      rcases Nat.eq_zero_or_pos l.length with h0 | h0
      · have h0f : l = [] := List.eq_nil_of_length_eq_zero h0
        have HF := Lib.hid (show fr = 0 by have := HFR.out; rw [h0f] at this; simp [from0] at this; omega)
        have d2 : decide (0 < l.length) = false := decide_eq_false (by omega)
        have d3 : l.length ≤ 0 := by omega
        clear h0 h0f
        go_wp2_with fail
        go_meet
        exact ⟨by rw [HF.out]; rfl, rfl⟩
      · obtain ⟨b, off, rfl, _, hc⟩ := hl.rd (by omega)
        have c1 := hc (l.length - 1) (by omega)
        have HF := Lib.hid (show (fr : Int) = l[l.length - 1] + 1 by
          rw [HFR.out]
          have hne : l ≠ [] := by intro e; rw [e] at h0; simp at h0
          have : l.getLast? = some l[l.length - 1] := by rw [List.getLast?_eq_getElem?, List.getElem?_eq_getElem (by omega)]
          simp only [from0, this])
        have d2 : decide (0 < l.length) = true := decide_eq_true (by omega)
        have hb1 := hch.1 l[l.length - 1] (List.getElem_mem (by omega))
        have e0 : 1 ≤ (l.length : Int) := by omega
        have e2 : 0 ≤ (l.length : Int) - 1 := by omega
        have e3 : (l.length : Int) - 1 < l.length := by omega
        have e1 : ((l.length : Int) - 1).toNat = l.length - 1 := by omega
        clear hc
        go_wp2_with fail
        go_meet
        exact ⟨by rw [HF.out], rfl⟩
    case rest =>
      obtain ⟨rfl, rfl⟩ := hcut
      go_wp2_with fail
      go_loopw [9] (fun i wr => ∃ u : Nat, u ≤ m ∧ i = .int .i64 ((fr : Int) + u) ∧ Hid (hasTo p q k l u = false) ∧ Below wc.heap.size wc wr) (fun i _ => m - ((intOf i).toNat - fr))
      case atStart => exact ⟨0, Nat.zero_le _, by simp, Lib.hid rfl, Below.refl _ _⟩
      case round =>
        obtain ⟨u, hu, rfl, HN, hb⟩ := hrel
        have hum := HM1.out u
        rcases Nat.lt_or_ge u m with hlt | hge
        · have hle : (fr : Int) + u ≤ (p.length : Int) - (k + 1) := hum.2 hlt
          have hpi : fr + u < p.length := by omega
          have hpr := (hp.next hb).rd
          have hqr := (hq.next hb).rd
          obtain ⟨bp, op, rfl, _, hcp⟩ := hpr (by omega)
          obtain ⟨bq, oq, rfl, _, hcq⟩ := hqr (by omega)
          have cpi := hcp (fr + u) hpi
          have cqk := hcq l.length hlq
          obtain ⟨wo, rfl⟩ : ∃ wo : World, wo = wr := ⟨_, rfl⟩
          have hni : nth p ((fr : Int) + u) = p[fr + u] := by
            unfold nth
            rw [show ((fr : Int) + u).toNat = fr + u by omega, List.getElem?_eq_getElem hpi]; rfl
          have HNI := Lib.hid hni
          clear hum hpr hqr hni
          go_wp2_with fail
          go_loopw [10, 44] (fun s i wr => ∃ j : Nat, j ≤ l.length ∧ i = .int .i64 j ∧ s = .bool (fitTo p q l ((fr : Int) + u) j) ∧ Dr wo wr) (fun _ i _ => l.length - (intOf i).toNat)
          case atStart => exact ⟨0, Nat.zero_le _, rfl, rfl, Dr.refl _⟩
          case round =>
            obtain ⟨j, hj, rfl, rfl, hd⟩ := hrel
            rcases Nat.lt_or_ge j l.length with hjl | hjg
            · obtain ⟨bl, ol, rfl, _, hcl⟩ := (hl.next hb).rd (by omega)
              have c1 : wr.cell? ⟨bl, ol + j, none⟩ = some (.int .i64 l[j]) := (hd.cell _).trans (hcl j hjl)
              have hlj := hch.1 l[j] (List.getElem_mem hjl)
              obtain ⟨cj, hcj⟩ : ∃ cj : Nat, (cj : Int) = l[j] := ⟨l[j].toNat, by omega⟩
              have hcjp : cj < p.length := by omega
              have hjq : j < q.length := by omega
              have c2 : wr.cell? ⟨bp, op + cj, none⟩ = some (.int .i64 p[cj]) := (hd.cell _).trans (hcp cj hcjp)
              have c3 : wr.cell? ⟨bp, op + (fr + u), none⟩ = some (.int .i64 p[fr + u]) := (hd.cell _).trans cpi
              have c4 : wr.cell? ⟨bq, oq + j, none⟩ = some (.int .i64 q[j]) := (hd.cell _).trans (hcq j hjq)
              have c5 : wr.cell? ⟨bq, oq + l.length, none⟩ = some (.int .i64 q[l.length]) := (hd.cell _).trans cqk
              rw [← hcj] at c1
              have HT := Lib.hid (show fitTo p q l ((fr : Int) + u) (j + 1) = (fitTo p q l ((fr : Int) + u) j && (decide (p[cj] < p[fr + u]) == decide (q[j] < q[l.length]))) by
                rw [fitTo_succ, HNI.out, List.getElem?_eq_getElem hjl, List.getElem?_eq_getElem hjq, List.getElem?_eq_getElem hlq]
                have : nth p l[j] = p[cj] := by unfold nth; rw [← hcj, Int.toNat_natCast, List.getElem?_eq_getElem hcjp]; rfl
                simp only [Option.getD_some, this]
                congr 1
                exact Bool.beq_comm)
              have e1 : IntKind.i64.wrap ((fr : Int) + u) = (fr : Int) + u := IntWalk.i64_in _ (by omega)
              have e2 : ((fr : Int) + u).toNat = fr + u := by omega
              have e3 : 0 ≤ (fr : Int) + u := by omega
              have e4 : (fr : Int) + u < (p.length : Int) := by omega
              have e5 : (cj : Int) < (p.length : Int) := by omega
              have e6 : (j : Int) < (q.length : Int) := by omega
              have e7 : (l.length : Int) < (q.length : Int) := by omega
              clear hcl hcj hlj
              by_cases hf : fitTo p q l ((fr : Int) + u) j = true
              · have HF := Lib.hid hf
                rw [hf]
                clear hf
                go_wp2_with fail
                go_quiet (fail)
                go_wp2_with fail
                go_roundw
                case rel => exact ⟨j + 1, by omega, by go_num, by rw [HT.out, HF.out, Bool.true_and], (by first | with_reducible assumption | with_reducible exact hd | with_reducible exact Dr.drewN hd _ | with_reducible exact Dr.drewN (Dr.drewN hd _) _ | with_reducible exact Dr.drew hd)⟩
                case measure => simp [intOf]; omega
              · have hff : fitTo p q l ((fr : Int) + u) j = false := by simpa using hf
                have HF := Lib.hid hff
                rw [hff]
                clear hf hff
                go_wp2_with fail
                go_quiet (fail)
                go_wp2_with fail
                go_roundw
                case rel => exact ⟨j + 1, by omega, by go_num, by rw [HT.out, HF.out, Bool.false_and], (by first | with_reducible assumption | with_reducible exact hd | with_reducible exact Dr.drewN hd _ | with_reducible exact Dr.drewN (Dr.drewN hd _) _ | with_reducible exact Dr.drew hd)⟩
                case measure => simp [intOf]; omega
            · obtain rfl : j = l.length := by omega
              have hbd := below_dr hb hd
              have hszd := hbd.size
              have hl2 := hl.next hbd
              have HHS := Lib.hid (hasTo_succ p q k l u)
              have HFE := Lib.hid (fitTo_all p q l ((fr : Int) + u))
              by_cases hf : fitTo p q l ((fr : Int) + u) l.length = true
              · have HF := Lib.hid (show fitsB p q (up (l ++ [(fr : Int) + u])) = true by rw [← HFE.out]; exact hf)
                rw [hf]
                clear hf
                go_wp2_with fail
                (with_reducible refine (clone_any D f l wr hl2).mono ?_)
                rintro e w2 ⟨A3, c3, rfl, _, _, hown, hbc⟩
                have hszc := hbc.size
                go_wp2_with (at_builtin; refine wpList_append_own_g _ (by rfl) _ _ 30 rfl (wr.heap.size) 3 i0 (.int .i64 0) 1 8 Tryd.underlying30 hi hz0 hz1 hz2 rfl (by decide) _ _ _ rfl (World.ownsRow.alloc hown _) ⟨w2.heap.size, 0, none⟩ 1 1 [.int .i64 ((fr : Int) + u)] rfl rfl (cell_one_new _ _ _) (by intro u hu; simp at hu; subst hu; rfl) (by unfold maxLen; omega) (by omega) (by simp; omega) ?_; intro v1 w1 hown1 hgrow1 _)
                have hrow : w1.ownsRow wr.heap.size 3 1 v1 (l ++ [(fr : Int) + u]).length ((l ++ [(fr : Int) + u]).map (Value.int .i64)) := by simpa using hown1
                obtain ⟨A4, c4, rfl, hA41, _⟩ := own_shape hrow
                have hg1 := grown_trans (World.grownBy_alloc w2 (Obj.cells #[Value.int .i64 ((fr : Int) + u)] 3) _) hgrow1
                have hlm := fun g hg => hown.lt g hg
                have hbw := hbc.grown hg1 hszc (fun g hg => (hlm g hg).1)
                have hbw2 := hbd.trans (hbw.mono hszd)
                have hin : In w1 A4 c4 (l ++ [(fr : Int) + u]) := ⟨by rw [List.length_append, List.length_singleton]; omega, hA41, Rd.of_own hrow⟩
                have hch2 := hch.snoc (x := (fr : Int) + u) (by omega) (by omega)
                have IH := ih (l ++ [(fr : Int) + u]) (some ⟨bp, op, none⟩) (some ⟨bq, oq, none⟩) A4 c d c4 w1 (by have := HK.out; rw [List.length_append, List.length_singleton]; omega) hch2 (hp.next hbw2) (hq.next hbw2) hin
                have IHH := Lib.hid (Calls.mono IH (fun e w' h => h))
                clear hown hown1 hgrow1 hg1 hrow hlm hbc hbw hin hch2 IH
                (with_reducible refine IHH.out.mono ?_)
                rintro e w3 ⟨rfl, hb3⟩
                have hbz := hbw2.trans (hb3.mono hbw2.size)
                by_cases hr : hasF p q k (l ++ [(fr : Int) + u]) = true
                · have HE := Lib.hid (show hasTo p q k l m = true from hasTo_mono hlt (by rw [← HFR.out, HF.out, hr]; rfl))
                  rw [hr]
                  clear hr IHH hbw2 hb3
                  go_wp2_with fail
                  go_ret
                  exact ⟨ret_bool (by rw [HG.out, HE.out]), hbz⟩
                · have hrf : hasF p q k (l ++ [(fr : Int) + u]) = false := by simpa using hr
                  have HE := Lib.hid (show hasTo p q k l (u + 1) = false by rw [HHS.out, HN.out, ← HFR.out, hrf]; simp)
                  rw [hrf]
                  clear hr hrf IHH hbw2 hb3
                  go_wp2_with fail
                  go_roundw
                  case rel => exact ⟨u + 1, by omega, by go_num, HE, hbz⟩
                  case measure => simp [intOf]; omega
              · have hff : fitTo p q l ((fr : Int) + u) l.length = false := by simpa using hf
                have HE := Lib.hid (show hasTo p q k l (u + 1) = false by
                  rw [HHS.out, HN.out, ← HFR.out, ← HFE.out, hff]; rfl)
                rw [hff]
                clear hf hff
                go_wp2_with fail
                go_roundw
                case rel => exact ⟨u + 1, by omega, by go_num, HE, hbd⟩
                case measure => simp [intOf]; omega
        · have hnle : ¬ ((fr : Int) + u ≤ (p.length : Int) - (k + 1)) := fun h => by have := hum.1 h; omega
          obtain rfl : u = m := by omega
          have hgt : (p.length : Int) - (k + 1) < (fr : Int) + u := by omega
          clear hum
          go_wp2_with fail
          go_ret
          exact ⟨ret_bool (by rw [HG.out, HN.out]), hb⟩
theorem has_b (A B : Option Addr) (c d : Nat) (p q : List Int) (w : World) (b : Bool) (hp : In w A c p) (hq : In w B d q) (hp8 : p.length ≤ 1000) (hq8 : q.length ≤ 1000) (hb : hasB p q = b) :
    Calls Tryd.prog 24 #[.slice A p.length c, .slice B q.length d, .slice none 0 0] w (Rb w (.bool b)) := by
  have h := has_rec p q hp8 hq8 q.length [] A B none c d 0 w (by simp) (Chos.nil _) hp hq ⟨by simp, by simp, Rd.nil_⟩
  rw [hasF_all, hb] at h
  exact h

/-- The first number that is not zero. -/
def orL : List Int → Int
  | [] => 0
  | x :: t => if x = 0 then orL t else x
theorem orL_zero (xs : List Int) (k : Nat) (h : ∀ x ∈ xs.take k, x = 0) (hk : k ≤ xs.length) : orL xs = orL (xs.drop k) := by
  induction k generalizing xs with
  | zero => rfl
  | succ k ih =>
    cases xs with
    | nil => simp at hk
    | cons a t =>
      have ha := h a (by simp)
      have := ih t (fun x hx => h x (by simp [hx])) (by simpa using hk)
      simp only [orL, List.drop_succ_cons, if_pos ha]
      exact this
set_option maxHeartbeats 800000 in
theorem or_any (A : Option Addr) (c n : Nat) (xs : List Int) (w : World) (hn : xs.length = n) (hl : n ≤ 4611686018427387904) (hx : Rd (Value.int .i64) w w.heap.size A xs) :
    Calls Tryd.prog 32 #[.slice A n c] w fun e w' => e = .returned (.int .i64 (orL xs)) ∧ w = w' := by
  subst hn
  go_enter Tryd.func32, Tryd.ntmps32
  go_wp2
  go_loop [8] (fun i => ∃ k : Nat, k ≤ xs.length ∧ i = .int .i64 k ∧ ∀ x ∈ xs.take k, x = 0) (fun i => xs.length - (intOf i).toNat)
  case atStart => exact ⟨0, Nat.zero_le _, rfl, by simp⟩
  case round =>
    obtain ⟨k, hk, rfl, hz⟩ := hrel
    have HZ := Lib.hid hz
    clear hz
    rcases Nat.lt_or_ge k xs.length with hlt | hge
    · obtain ⟨b, off, rfl, _, hc⟩ := hx (by omega)
      have c1 := hc k hlt
      clear hc
      by_cases he : xs[k] = 0
      · have hd : (xs[k] != 0) = false := by simp [he]
        have HE := Lib.hid he
        clear he
        go_wp2
        go_round
        case rel => exact ⟨k + 1, by omega, by go_num, by
          intro x hx
          rw [List.take_succ_eq_append_getElem hlt] at hx
          rcases List.mem_append.1 hx with h | h
          · exact HZ.out x h
          · rw [List.mem_singleton.1 h]; exact HE.out⟩
        case measure => simp [intOf]; omega
      · have hd : (xs[k] != 0) = true := by simp [he]
        have HO := Lib.hid (show orL xs = xs[k] by rw [orL_zero xs k HZ.out hk, List.drop_eq_getElem_cons hlt, orL, if_neg he])
        clear he
        go_wp2
        go_ret
        exact ⟨ret_int HO.out.symm, rfl⟩
    · have HO := Lib.hid (show orL xs = 0 by rw [orL_zero xs k HZ.out hk, List.drop_eq_nil_of_le hge]; rfl)
      go_wp2
      go_ret
      exact ⟨ret_int HO.out.symm, rfl⟩
/-- The program's order: by length, then letter by letter. -/
def cmpP (p q : List Int) : Int := if p.length = q.length then cmpL p q else cmpI p.length q.length
theorem cmpP_or (p q : List Int) : orL [cmpI p.length q.length, cmpL p q] = cmpP p q := by
  unfold cmpP
  by_cases h : p.length = q.length
  · have : cmpI (p.length : Int) q.length = 0 := (cmpI_zero _ _).2 (by rw [h])
    rw [if_pos h, this]
    simp only [orL, if_pos]
    split
    · rename_i h0; exact h0.symm
    · rfl
  · have : cmpI (p.length : Int) q.length ≠ 0 := fun h0 => h (by have := (cmpI_zero _ _).1 h0; omega)
    rw [if_neg h]
    simp only [orL, if_neg this]
set_option maxHeartbeats 800000 in
theorem comparePerms_any (A A' : Option Addr) (c c' n m : Nat) (p q : List Int) (w : World) (hn : p.length = n) (hm : q.length = m) (hl : n ≤ 1048576) (hl' : m ≤ 1048576)
    (hx : Rd (Value.int .i64) w w.heap.size A p) (hy : Rd (Value.int .i64) w w.heap.size A' q) :
    Calls Tryd.prog 23 #[.slice A n c, .slice A' m c'] w (Rb w (.int .i64 (cmpP p q))) := by
  subst hn hm
  have HO := Lib.hid (cmpP_or p q)
  have hnew : Rd (Value.int .i64) (w.alloc (Obj.cells #[.int .i64 (cmpI p.length q.length), .int .i64 (cmpL p q)] 3)) (w.alloc (Obj.cells #[.int .i64 (cmpI p.length q.length), .int .i64 (cmpL p q)] 3)).heap.size (some ⟨w.heap.size, 0, none⟩) [cmpI p.length q.length, cmpL p q] :=
    Rd.of_own (c := 2) (World.ownsRow_lit (base := w.heap.size) w #[.int .i64 (cmpI p.length q.length), .int .i64 (cmpL p q)] 2 (Nat.le_refl _) (by unfold maxLen; omega) rfl)
  have hb0 := (Below.refl w.heap.size w).alloc (Nat.le_refl _) (Obj.cells #[.int .i64 (cmpI p.length q.length), .int .i64 (cmpL p q)] 3)
  go_enter Tryd.func23, Tryd.ntmps23
  go_wp2_with fail
  (with_reducible refine (compare_any (p.length : Int) (q.length : Int) w).mono ?_)
  rintro e w' ⟨rfl, rfl⟩
  go_wp2_with fail
  (with_reducible refine (compareS_any A A' c c' p.length q.length p q w rfl rfl (by omega) (by omega) hx hy).mono ?_)
  rintro e w' ⟨rfl, rfl⟩
  go_wp2_with fail
  (with_reducible refine (or_any (some ⟨w.heap.size, 0, none⟩) 2 2 [cmpI p.length q.length, cmpL p q] _ rfl (by omega) hnew).mono ?_)
  rintro e w' ⟨rfl, rfl⟩
  go_wp2_with fail
  go_ret
  exact ⟨ret_int HO.out, hb0⟩
end Go.Proofs.YthkggnmfdlggbaaDoor
