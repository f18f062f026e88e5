/- l12In, arePerms; BasisUpTo of the reference. -/
import Derived.Test.YthkggnmfdlggbaaU1
import Derived.Test.YthkggnmfdlggbaaG5
import Derived.Test.YthkggnmfdlggbaaR4
namespace Go.Proofs.Ythkggnmfdlggbaa
set_option maxRecDepth 100000
open Go Go.RowKit

def bupP (L : List (List Int)) (q : List Int) : Bool := decide (q.length = 0) || decide (q ∈ L)
/-- Not in the list, but all lower ones are. -/
def bupK (L : List (List Int)) (p : List Int) : Bool := !decide (p ∈ L) && (lowL p).all (bupP L)
def bupL (L : List (List Int)) (n : Nat) : List (List Int) := (List.range n).flatMap fun m => (permsL (m + 1)).filter (bupK L)
theorem bupL_succ (L : List (List Int)) (n : Nat) : bupL L (n + 1) = bupL L n ++ (permsL (n + 1)).filter (bupK L) := by simp [bupL, List.range_succ]
def bupG (X : List (List Int)) (n : Int) : List (List Int) := if allPermB X = true ∧ sixB n = true then bupL X n.toNat else []
theorem permsL_le7 {m : Nat} (hm : m < 6) : (permsL (m + 1)).length ≤ 46656 := by
  have h1 := permsI_le (m + 1) (m + 1)
  have h2 := pow_six (n := m + 1) (i := m + 1) (by omega) (by omega)
  unfold permsL
  omega
theorem bupL_le (L : List (List Int)) (n : Nat) (h : n ≤ 6) : (bupL L n).length ≤ 50069 := by
  have hs : ∀ m, (bupL L (m + 1)).length ≤ (bupL L m).length + (m + 1) ^ (m + 1) := fun m => by
    rw [bupL_succ, List.length_append]
    have h1 := permsI_le (m + 1) (m + 1)
    have h2 := List.length_filter_le (bupK L) (permsL (m + 1))
    unfold permsL at h2 ⊢
    omega
  have h0 : (bupL L 0).length = 0 := rfl
  have h1 : (bupL L 1).length ≤ (bupL L 0).length + 1 := hs 0
  have h2 : (bupL L 2).length ≤ (bupL L 1).length + 4 := hs 1
  have h3 : (bupL L 3).length ≤ (bupL L 2).length + 27 := hs 2
  have h4 : (bupL L 4).length ≤ (bupL L 3).length + 256 := hs 3
  have h5 : (bupL L 5).length ≤ (bupL L 4).length + 3125 := hs 4
  have h6 : (bupL L 6).length ≤ (bupL L 5).length + 46656 := hs 5
  rcases (show n = 0 ∨ n = 1 ∨ n = 2 ∨ n = 3 ∨ n = 4 ∨ n = 5 ∨ n = 6 by omega) with rfl | rfl | rfl | rfl | rfl | rfl | rfl <;> omega
theorem bupL_mem {L : List (List Int)} {n : Nat} {p : List Int} (h : p ∈ bupL L n) : p.length ≤ n := by
  unfold bupL at h
  obtain ⟨m, hm, hp⟩ := List.mem_flatMap.1 h
  have h1 := (permsI_mem (List.mem_filter.1 hp).1).1
  have h2 := List.mem_range.1 hm
  omega
theorem bupG_le (X : List (List Int)) (n : Int) : (bupG X n).length + sizeX (bupG X n) ≤ 1048576 := by
  unfold bupG
  by_cases h : allPermB X = true ∧ sixB n = true
  · rw [if_pos h]
    have h6 : 0 ≤ n ∧ n ≤ 6 := by simpa [sixB] using h.2
    have h1 := bupL_le X n.toNat (by omega)
    have h2 := sizeX_of (X := bupL X n.toNat) (m := 6) (fun s hs => by have := bupL_mem hs; omega)
    omega
  · rw [if_neg h]; simp [sizeX]
/-- The rows of a round go behind those of the rounds before. -/
theorem sift_end {w : World} {lo a b : Nat} {rs prior kept : List Row} {o : Outer} {A : Option Addr} {c : Nat} {vs : List Value} (hO : Own w lo w.heap.size prior [⟨A, c, vs⟩]) (hp : ∀ r ∈ prior, ∀ g, r.v.ownBlock = some g → g < a) (hS : Sift w lo a b rs o A c vs) (hs : kept.Sublist rs)
    (hv : vs = (prior ++ kept).map Row.v) (hla : lo ≤ a) (hab : a ≤ b) (hb : b ≤ w.heap.size) : Own w lo w.heap.size (prior ++ kept) [⟨A, c, (prior ++ kept).map Row.v⟩] := by
  subst hv
  have h1 := (hO.bare.lim a hp).app (hS.rows.bare.sub hs) hla hab
  exact (h1.wider (Nat.le_refl _) hb).with_ hS.out (Nat.le_refl _)
set_option maxHeartbeats 1000000 in
theorem l12In_b (A B : Option Addr) (c d : Nat) (rs : List Row) (p : List Int) (w : World) (b : Bool) (h : InL w A c rs) (hp : In w B d p) (hb : decide (p ∈ rs.map Row.xs) = b) :
    Calls Try.prog 72 #[.slice A rs.length c, .slice B p.length d] w (Rq w (.bool b)) := by
  subst hb
  have hlen := h.len
  have hpl := hp.len
  go_enter Try.func72, Try.ntmps72
  go_wp2_with fail
  go_loopw [5] (fun i wr => ∃ k : Nat, k ≤ rs.length ∧ i = .int .i64 k ∧ Hid (p ∉ (rs.map Row.xs).take k) ∧ Dr w wr) (fun i _ => rs.length - (intOf i).toNat)
  case atStart => exact ⟨0, Nat.zero_le _, rfl, Lib.hid (by simp), Dr.refl _⟩
  case round =>
    obtain ⟨k, hk, rfl, HN, hd⟩ := hrel
    rcases Nat.lt_or_ge k rs.length with hlt | hge
    · have hL := h.dr hd
      obtain ⟨bb, off, rfl, _, hc⟩ := hL.read.at (by omega)
      have cc := hc k hlt
      have hin := hL.row (List.getElem_mem hlt)
      have hql := hin.len
      have hmem : rs[k].xs ∈ rs.map Row.xs := List.mem_map.2 ⟨rs[k], List.getElem_mem hlt, rfl⟩
      have hT : (rs.map Row.xs).take (k + 1) = (rs.map Row.xs).take k ++ [rs[k].xs] := by rw [List.take_succ_eq_append_getElem (by simpa using hlt)]; simp
      have HM := Lib.hid (And.intro hmem hT)
      have hpr := (hp.dr hd).rd
      clear hc hmem hT
      go_wp2_with fail
      by_cases he : rs[k].xs = p
      · have HB := Lib.hid (show decide (p ∈ List.map Row.xs rs) = true from decide_eq_true (by rw [← he]; exact HM.out.1))
        (with_reducible refine (l2Same_b rs[k].A B rs[k].c d rs[k].xs.length p.length rs[k].xs p wr true rfl rfl (by omega) hin.rd hpr (decide_eq_true he)).mono ?_)
        rintro e w1 ⟨rfl, hd1⟩
        clear he
        go_wp2_with fail
        go_ret
        exact ⟨ret_bool HB.out.symm, hd.trans hd1⟩
      · have HT := Lib.hid (show p ∉ (rs.map Row.xs).take (k + 1) by
          rw [HM.out.2, List.mem_append, List.mem_singleton]
          rintro (h1 | h1)
          · exact HN.out h1
          · exact he h1.symm)
        (with_reducible refine (l2Same_b rs[k].A B rs[k].c d rs[k].xs.length p.length rs[k].xs p wr false rfl rfl (by omega) hin.rd hpr (decide_eq_false he)).mono ?_)
        rintro e w1 ⟨rfl, hd1⟩
        have hdd := hd.trans hd1
        clear he
        go_wp2_with fail
        go_roundw
        case rel => exact ⟨k + 1, by omega, by go_num, HT, hdd⟩
        case measure => simp [intOf]; omega
    · obtain rfl : k = rs.length := by omega
      have HB := Lib.hid (show decide (p ∈ List.map Row.xs rs) = false from decide_eq_false (by have := HN.out; rwa [List.take_of_length_le (by simp)] at this))
      go_wp2_with fail
      go_ret
      exact ⟨ret_bool HB.out.symm, hd⟩
theorem call_ap (args : Array Value) (w : World) : (callFunc 100 args).run Try.prog w = .ok (.enter 100 args) w := by kernel_rfl
theorem ap_cl (A : Option Addr) (c : Nat) (p : List Int) (w : World) (h : In w A c p) :
    Calls Try.prog 100 #[.slice A p.length c] w (Rb w (.bool (!permB p))) := by
  go_enter Try.func100, Try.ntmps100
  go_wp2_with fail
  (with_reducible refine (isPerm_impl A c p w h).mono ?_)
  rintro e w1 ⟨rfl, hb1⟩
  go_wp2_with fail
  go_ret
  exact ⟨rfl, hb1⟩
theorem arePerms_b (A : Option Addr) (c : Nat) (rs : List Row) (w : World) (b : Bool) (h : InL w A c rs) (hb : allPermB (rs.map Row.xs) = b) :
    Calls Try.prog 74 #[.slice A rs.length c] w (Rb w (.bool b)) := by
  have hlen := h.len
  have HB := Lib.hid (show (!(rs.any fun r : Row => !permB r.xs)) = b by rw [any_rows rs (fun p => !permB p), ← hb]; rfl)
  go_enter Try.func74, Try.ntmps74
  go_wp2_with fail
  refine (containsFuncL0 A c rs 100 (fun p => !permB p) w (by omega) h.read (fun args w' => call_ap args w') (fun w' k hk hb => ap_cl _ _ _ _ ((h.next hb).row (List.getElem_mem hk))) _ rfl).mono ?_
  rintro e w2 ⟨rfl, hb2⟩
  go_wp2_with fail
  go_ret
  exact ⟨ret_bool HB.out, hb2⟩
set_option maxHeartbeats 8000000 in
theorem basisUpTo_spec (A : Option Addr) (c : Nat) (qs : List Row) (n : Int) (_ : -9223372036854775808 ≤ n ∧ n ≤ 9223372036854775807) (w : World) (h : InL w A c qs) :
    Calls Try.prog 35 #[.slice A qs.length c, .int .i64 n] w (RetL w (bupG (qs.map Row.xs) n)) := by
  obtain ⟨j0, hj, hy0, hy1, hy2⟩ := info_parts infoL
  have hlit := Own.lit (lo := w.heap.size) w (Nat.le_refl _)
  have hb0 := (Below.refl w.heap.size w).alloc (Nat.le_refl _) (.cells #[] 22)
  have hqlen := h.len
  by_cases hA : allPermB (qs.map Row.xs) = true
  · have H1 := Lib.hid hA
    clear hA
    go_enter Try.func35, Try.ntmps35
    go_wp2_with fail
    have hz0 : (w.alloc (Obj.cells #[] 22)).heap.size = w.heap.size + 1 := by simp
    rw [hz0] at hlit
    generalize (w.alloc (Obj.cells #[] 22)) = w0 at hlit hb0 hz0 ⊢
    have HZ0 := Lib.hid hz0
    clear hz0
    (with_reducible refine (l3All_b A c qs w0 true (h.next hb0) H1.out).mono ?_)
    rintro e w1 ⟨rfl, hb1⟩
    have hbw := hb0.trans (hb1.mono hb0.size)
    go_wp2_with fail
    by_cases h6 : sixB n = true
    · have HG := Lib.hid (show bupG (qs.map Row.xs) n = bupL (qs.map Row.xs) n.toNat by unfold bupG; rw [if_pos ⟨H1.out, h6⟩])
      have h6' : 0 ≤ n ∧ n ≤ 6 := by simpa [sixB] using h6
      (with_reducible refine (l1In_b n 0 6 w1 true (decide_eq_true h6')).mono ?_)
      rintro e w' ⟨rfl, rfl⟩
      obtain ⟨N, rfl⟩ := Int.eq_ofNat_of_zero_le h6'.1
      have hN : N ≤ 6 := by omega
      have hst : Own w1 w.heap.size w1.heap.size [] [⟨some ⟨w.heap.size, 0, none⟩, 0, []⟩] := (hlit.below hb1).wider (Nat.le_refl _) (by have := hb1.size; have := HZ0.out; omega)
      clear h6 h6' hlit hb0 hb1
      go_wp2_with fail
      go_loopw [5, 6] (fun v i wr => ∃ (m : Nat) (A2 : Option Addr) (c2 : Nat) (kept : List Row), m ≤ N ∧ i = .int .i64 ((m : Int) + 1) ∧ v = .slice A2 kept.length c2 ∧ Hid (kept.map Row.xs = bupL (qs.map Row.xs) m) ∧ Own wr w.heap.size wr.heap.size kept [⟨A2, c2, kept.map Row.v⟩] ∧ Below w.heap.size w wr) (fun _ i _ => N + 1 - (intOf i).toNat)
      case atStart => exact ⟨0, _, _, [], Nat.zero_le _, rfl, rfl, Lib.hid rfl, hst, hbw⟩
      case round =>
        clear hst hbw
        obtain ⟨m, A2, c2, kept, hm, rfl, rfl, HX, hO, hb⟩ := hrel
        have hkl : kept.length ≤ 50069 := by
          have h1 := congrArg List.length HX.out
          have h2 := bupL_le (qs.map Row.xs) m (by omega)
          rw [List.length_map] at h1
          omega
        have hsz := hb.size
        rcases Nat.lt_or_ge m N with hlt | hge
        · have d1 : decide ((m : Int) + 1 ≤ (N : Int)) = true := decide_eq_true (by omega)
          have HPG := Lib.hid (show permsG ((m : Int) + 1) = permsL (m + 1) by unfold permsG; rw [if_pos (by omega)]; rfl)
          obtain ⟨wo, rfl⟩ : ∃ wo : World, wo = wr := ⟨_, rfl⟩
          go_wp2_with fail
          (with_reducible refine (permsOf_spec ((m : Int) + 1) wo).mono ?_)
          rintro e w2 ⟨A1, c1, rs, rfl, hX, hOr, hb2⟩
          rw [HPG.out] at hX
          have hbw2 := hb.trans (hb2.mono hsz)
          have hs2 := hb2.size
          have hlen : rs.length ≤ 46656 := by have h1 := permsL_le7 (m := m) (by omega); rw [← hX, List.length_map] at h1; exact h1
          have HXR := Lib.hid hX
          have HPL := Lib.hid (show ∀ r ∈ kept, ∀ g, r.v.ownBlock = some g → g < wo.heap.size from hO.lt)
          have hO2 := (hO.below hb2).wider (Nat.le_refl _) hs2
          have hS2 : Sift w2 w.heap.size wo.heap.size w2.heap.size rs ⟨A1, c1, rs.map Row.v⟩ A2 c2 (kept.map Row.v) :=
            ⟨hOr, own_below hO.out hb2, fun g hg => .inl (hO.out.lt g hg).2⟩
          clear hX hOr hb2 hO hb
          go_wp2_with fail
          go_loopw [5, 8] (fun v i wr => ∃ (j : Nat) (A2 : Option Addr) (c2 : Nat) (vs : List Value), j ≤ rs.length ∧ i = .int .i64 j ∧ v = .slice A2 vs.length c2 ∧ Hid (vs = (kept ++ keptR (bupK (qs.map Row.xs)) rs j).map Row.v) ∧
            Own wr w.heap.size wr.heap.size kept [⟨A2, c2, vs⟩] ∧ Sift wr w.heap.size wo.heap.size w2.heap.size rs ⟨A1, c1, rs.map Row.v⟩ A2 c2 vs ∧ Below w.heap.size w wr ∧ w2.heap.size ≤ wr.heap.size) (fun _ i _ => rs.length - (intOf i).toNat)
          case atStart => exact ⟨0, A2, c2, kept.map Row.v, Nat.zero_le _, rfl, by rw [List.length_map], Lib.hid (by simp [keptR]), hO2, hS2, hbw2, Nat.le_refl _⟩
          case round =>
            clear hO2 hS2 hbw2
            obtain ⟨j, A2, c2, vs, hjl, rfl, rfl, HV, hO, hS, hb, hsw⟩ := hrel
            have hvl : vs.length ≤ 100000 := by
              have h1 := keptR_le (bupK (qs.map Row.xs)) rs j
              have h2 := congrArg List.length HV.out
              rw [List.length_map, List.length_append] at h2
              omega
            rcases Nat.lt_or_ge j rs.length with hltj | hgej
            · obtain ⟨p, hp⟩ : ∃ p : Row, p = rs[j] := ⟨_, rfl⟩
              have hpm : p ∈ rs := by rw [hp]; exact List.getElem_mem hltj
              have hRd := hS.rows.read
              obtain ⟨bk, off, rfl, hbk, hc⟩ := hRd.at (by omega)
              have cc : wr.cell? ⟨bk, off + j, none⟩ = some (Value.slice p.A p.xs.length p.c) := by rw [hp]; exact hc j hltj
              have hpx := permsL_perm (n := m + 1) (by omega) (map_memX HXR.out hpm)
              have hl8 : p.xs.length ≤ 8 := by have := hpx.2; omega
              have HPB := Lib.hid hpx.1
              have hin := row_in hRd hpm (by omega) hsw
              have HK := Lib.hid (show keptR (bupK (qs.map Row.xs)) rs (j + 1) = if bupK (qs.map Row.xs) p.xs = true then keptR (bupK (qs.map Row.xs)) rs j ++ [p] else keptR (bupK (qs.map Row.xs)) rs j by rw [keptR_succ _ rs j hltj, ← hp])
              have hL := h.next hb
              obtain ⟨b0, hb0⟩ : ∃ b0 : Bool, decide (p.xs ∈ qs.map Row.xs) = b0 := ⟨_, rfl⟩
              have HB0 := Lib.hid hb0
              clear hc hp hRd hpx hb0
              go_wp2_with fail
              (with_reducible refine (l12In_b A p.A c p.c qs p.xs wr b0 hL hin HB0.out).mono ?_)
              rintro e w3 ⟨rfl, hd3⟩
              have cc3 : w3.cell? ⟨bk, off + j, none⟩ = some (Value.slice p.A p.xs.length p.c) := (hd3.cell _).trans cc
              have hin3 := hin.dr hd3
              have hLow := Lib.hid (lowersOf_spec p.A p.c p.xs w3 hin3 HPB.out)
              have hO3 := hO.dr hd3
              have hS3 := hS.dr hd3
              have hb3 := below_dr hb hd3
              have hs3 : w3.heap.size = wr.heap.size := by rw [hd3.heap]
              have HS3 := Lib.hid hs3
              clear hs3 hd3 hO hS cc hin hL
              go_wp2_with fail
              (with_reducible refine hLow.out.mono ?_)
              rintro e w4 ⟨A6, c6, lw, rfl, hXl, hOl, hb4⟩
              have hO4 := (hO3.below (by rw [← HS3.out] at hsw; exact hb4)).wider (Nat.le_refl _) (show wr.heap.size ≤ w4.heap.size by have := hb4.size; have := HS3.out; omega)
              have hS4 := hS3.below hb4
              have hbw4 := hb3.trans (hb4.mono hb3.size)
              have hs4 := hb4.size
              have hsw4 : w2.heap.size ≤ w4.heap.size := by have := HS3.out; omega
              have hLow4 : Read w4 w4.heap.size lw [⟨A6, c6, lw.map Row.v⟩] := hOl.read
              have hL4 := h.next hbw4
              have cc4 : w4.cell? ⟨bk, off + j, none⟩ = some (Value.slice p.A p.xs.length p.c) := (hb4.cell (p := ⟨bk, off + j, none⟩) (by show bk < w3.heap.size; have := HS3.out; omega)).trans cc3
              have hll := lowL_length p.xs
              have hlwl : lw.length ≤ 8 := by have h1 := congrArg List.length hXl; rw [List.length_map] at h1; omega
              have HLW := Lib.hid (show ∀ r ∈ lw, r.xs.length ≤ 8 from fun r hr => by have := lowL_len r.xs (map_memX hXl hr); omega)
              have HKB := Lib.hid (show bupK (qs.map Row.xs) p.xs = (!b0 && (lowL p.xs).all (bupP (qs.map Row.xs))) by unfold bupK; rw [HB0.out])
              have HXL := Lib.hid hXl
              clear hXl hb4 hb3 hO3 hS3 hOl cc3 hin3 hll hLow
              obtain ⟨wl, rfl⟩ : ∃ wl : World, wl = w4 := ⟨_, rfl⟩
              go_wp2_with fail
              go_loopw [9, 11] (fun f i wr => ∃ t : Nat, t ≤ lw.length ∧ i = .int .i64 t ∧ f = .bool (!b0 && ((lowL p.xs).take t).all (bupP (qs.map Row.xs))) ∧ Dr wl wr) (fun _ i _ => lw.length - (intOf i).toNat)
              case atStart => exact ⟨0, Nat.zero_le _, rfl, by simp, Dr.refl _⟩
              case round =>
                obtain ⟨t, htl, rfl, rfl, hdt⟩ := hrel
                obtain ⟨f, hf⟩ : ∃ f : Bool, (!b0 && ((lowL p.xs).take t).all (bupP (qs.map Row.xs))) = f := ⟨_, rfl⟩
                rw [hf]
                have HF := Lib.hid hf
                clear hf
                have FIN : ∀ g : Bool, bupK (qs.map Row.xs) p.xs = g → True := fun _ _ => trivial
                by_cases hgo : t < lw.length ∧ f = true
                · obtain ⟨hlt', rfl⟩ := hgo
                  have hL' := hL4.dr hdt
                  have hR' := hLow4.dr hdt
                  obtain ⟨bl, ol, rfl, _, hcl⟩ := hR'.at (by omega)
                  have cl := hcl t hlt'
                  obtain ⟨q, hq⟩ : ∃ q : Row, q = lw[t] := ⟨_, rfl⟩
                  rw [← hq] at cl
                  have hqm : q ∈ lw := by rw [hq]; exact List.getElem_mem hlt'
                  have hq8 := HLW.out q hqm
                  have hinq := row_in hR' hqm (by omega) (by rw [hdt.heap]; exact Nat.le_refl _)
                  have HT := Lib.hid (show (!b0 && ((lowL p.xs).take (t + 1)).all (bupP (qs.map Row.xs))) = bupP (qs.map Row.xs) q.xs by
                    have hlq : t < (lowL p.xs).length := by rw [← HXL.out, List.length_map]; exact hlt'
                    have heq : (lowL p.xs)[t] = q.xs := by rw [hq]; exact (map_getX HXL.out hlt').symm
                    rw [List.take_succ_eq_append_getElem hlq, List.all_append, ← Bool.and_assoc, HF.out, heq]
                    simp)
                  clear hcl hq hR'
                  by_cases hq0 : q.xs.length = 0
                  · have dq : ((q.xs.length : Int) == 0) = true := by rw [hq0]; rfl
                    have HE := Lib.hid (show bupP (qs.map Row.xs) q.xs = true by unfold bupP; rw [decide_eq_true hq0]; rfl)
                    clear hq0
                    go_wp2_with fail
                    go_roundw
                    case rel => exact ⟨t + 1, by omega, by go_num, by rw [HT.out, HE.out], hdt⟩
                    case measure => simp [intOf]; omega
                  · have dq : ((q.xs.length : Int) == 0) = false := by simp; intro e; rw [e] at hq0; simp at hq0
                    obtain ⟨b1, hb1⟩ : ∃ b1 : Bool, decide (q.xs ∈ qs.map Row.xs) = b1 := ⟨_, rfl⟩
                    have HE := Lib.hid (show bupP (qs.map Row.xs) q.xs = b1 by unfold bupP; rw [decide_eq_false hq0, hb1]; rfl)
                    have HI := Lib.hid (l12In_b A q.A c q.c qs q.xs wr b1 hL' hinq hb1)
                    clear hq0 hb1
                    go_wp2_with fail
                    (with_reducible refine HI.out.mono ?_)
                    rintro e w5 ⟨rfl, hd5⟩
                    have hdd := hdt.trans hd5
                    go_wp2_with fail
                    go_roundw
                    case rel => exact ⟨t + 1, by omega, by go_num, by rw [HT.out, HE.out], hdd⟩
                    case measure => simp [intOf]; omega
                · have HFB := Lib.hid (show bupK (qs.map Row.xs) p.xs = f by
                    rw [HKB.out]
                    cases f with
                    | false =>
                      have h1 := HF.out
                      rw [Bool.and_eq_false_iff] at h1 ⊢
                      rcases h1 with h1 | h1
                      · exact .inl h1
                      · right
                        rw [List.all_eq_false] at h1 ⊢
                        obtain ⟨x, hx, hxp⟩ := h1
                        exact ⟨x, List.mem_of_mem_take hx, hxp⟩
                    | true =>
                      have ht : ¬ t < lw.length := fun h => hgo ⟨h, rfl⟩
                      have h1 := HF.out
                      rwa [List.take_of_length_le (by rw [← HXL.out, List.length_map]; omega)] at h1)
                  have hstop : (decide ((t : Int) < (lw.length : Int)) && f) = false := by
                    cases f with
                    | false => simp
                    | true => simp only [Bool.and_true, decide_eq_false_iff_not]; intro h; exact hgo ⟨by omega, rfl⟩
                  have hO5 : Own wr w.heap.size wr.heap.size kept [⟨A2, c2, vs⟩] := (hO4.dr hdt).wider (Nat.le_refl _) (by rw [hdt.heap]; exact Nat.le_refl _)
                  have hS5 := hS4.dr hdt
                  have hbw5 := below_dr hbw4 hdt
                  have hs5 : wr.heap.size = wl.heap.size := by rw [hdt.heap]
                  have cc5 : wr.cell? ⟨bk, off + j, none⟩ = some (Value.slice p.A p.xs.length p.c) := (hdt.cell _).trans cc4
                  have HS5 := Lib.hid hs5
                  have hsw5 : w2.heap.size ≤ wr.heap.size := by omega
                  have hwz5 : w.heap.size ≤ wr.heap.size := hbw5.size
                  clear hO4 hS4 hbw4 cc4 hdt hs5 hLow4 hL4 FIN hstop
                  cases f with
                  | false =>
                    have HT := Lib.hid (show keptR (bupK (qs.map Row.xs)) rs (j + 1) = keptR (bupK (qs.map Row.xs)) rs j by rw [HK.out, HFB.out]; rfl)
                    rcases Nat.lt_or_ge t lw.length with ht | ht
                    · go_wp2_with fail
                      go_roundw
                      case rel => exact ⟨j + 1, A2, c2, vs, by omega, by go_num, rfl, Lib.hid (by rw [HT.out, HV.out]), hO5, hS5, hbw5, hsw5⟩
                      case measure => simp [intOf]; omega
                    · obtain rfl : t = lw.length := by omega
                      go_wp2_with fail
                      go_roundw
                      case rel => exact ⟨j + 1, A2, c2, vs, by omega, by go_num, rfl, Lib.hid (by rw [HT.out, HV.out]), hO5, hS5, hbw5, hsw5⟩
                      case measure => simp [intOf]; omega
                  | true =>
                    have HT := Lib.hid (show keptR (bupK (qs.map Row.xs)) rs (j + 1) = keptR (bupK (qs.map Row.xs)) rs j ++ [p] by rw [HK.out, HFB.out]; rfl)
                    obtain rfl : t = lw.length := by
                      rcases Nat.lt_or_ge t lw.length with ht | ht
                      · exact absurd ⟨ht, rfl⟩ hgo
                      · omega
                    have ho2 := hS5.outN (n := vs.length) rfl
                    have hol := hS5.olim (n := vs.length) rfl
                    clear hgo
                    go_wp2_with (at_builtin; refine wpList_append_own_at _ rfl _ _ 33 rfl (w.heap.size) 22 j0 (.slice none 0 0) 1 24 Try.underlying33 hj hy0 hy1 hy2 rfl (by decide) _ _ _ rfl (World.ownsRow.alloc ho2 _) ⟨wr.heap.size, 0, none⟩ 1 1 [Value.slice p.A p.xs.length p.c] rfl rfl (cell_one_at _ _ (by simp)) (by intro u hu; simp at hu; subst hu; rfl) (by unfold maxLen; omega) (by omega) (by simp; omega) ?_; intro v9 w9 hown9 hgrow9 _ hat9)
                    obtain ⟨A5, c5, hv5, hS6, hg6⟩ := hS5.grow hsw5 rfl hown9 hgrow9 hat9
                    obtain ⟨A7, c7, hv7, hO6, _⟩ := hO5.grow (Nat.le_refl _) rfl hown9 hgrow9
                    have hE := hv5.symm.trans hv7
                    injection hE with hE1 _ hE2
                    subst hE1 hE2
                    subst hv5
                    have hb6 := hbw5.grown hg6 hwz5 hol
                    have hsz6 : w2.heap.size ≤ w9.heap.size := by have := hg6.size; omega
                    have K := Lib.hid (And.intro hS6 (And.intro hO6 hb6))
                    clear hS6 hO6 hb6 hown9 hgrow9 hat9 hg6 hS5 hO5 ho2 hol hbw5 cc5 hv7
                    go_wp2_with fail
                    go_roundw
                    case rel => exact ⟨j + 1, A5, c5, vs ++ [Value.slice p.A p.xs.length p.c], by omega, by go_num, by rw [List.length_append]; rfl, Lib.hid (by rw [HT.out, HV.out]; simp [Row.v]), K.out.2.1, K.out.1, K.out.2.2, hsz6⟩
                    case measure => simp [intOf]; omega
            · obtain rfl : j = rs.length := by omega
              have hfin := sift_end (kept := keptR (bupK (qs.map Row.xs)) rs rs.length) hO HPL.out hS (keptR_sub _ _) HV.out hsz hs2 hsw
              have HLE := Lib.hid (show vs.length = (kept ++ keptR (bupK (qs.map Row.xs)) rs rs.length).length by rw [HV.out, List.length_map])
              have HXN := Lib.hid (show (kept ++ keptR (bupK (qs.map Row.xs)) rs rs.length).map Row.xs = bupL (qs.map Row.xs) (m + 1) by rw [List.map_append, keptR_all, HX.out, HXR.out, bupL_succ])
              have K := Lib.hid hfin
              clear hfin hO hS
              go_wp2_with fail
              go_roundw
              case rel => exact ⟨m + 1, A2, c2, kept ++ keptR (bupK (qs.map Row.xs)) rs rs.length, by omega, by go_num, by rw [← HLE.out], HXN, K.out, hb⟩
              case measure => simp [intOf]; omega
        · obtain rfl : m = N := by omega
          have d1 : decide ((m : Int) + 1 ≤ (m : Int)) = false := decide_eq_false (by omega)
          go_wp2_with fail
          go_ret
          rw [HG.out]
          exact ⟨A2, c2, kept, rfl, by rw [HX.out]; rfl, hO, hb⟩
    · have h6f : sixB n = false := by simpa using h6
      have HG := Lib.hid (show bupG (qs.map Row.xs) n = [] by unfold bupG; rw [if_neg]; exact fun h => h6 h.2)
      have h6' : decide (0 ≤ n ∧ n ≤ 6) = false := h6f
      have K : Own w1 w.heap.size w1.heap.size [] [⟨some ⟨w.heap.size, 0, none⟩, 0, []⟩] := (hlit.below hb1).wider (Nat.le_refl _) (by have := hb1.size; have := HZ0.out; omega)
      have K := Lib.hid K
      (with_reducible refine (l1In_b n 0 6 w1 false h6').mono ?_)
      rintro e w' ⟨rfl, rfl⟩
      clear h6 h6f h6' hlit
      go_wp2_with fail
      go_ret
      rw [HG.out]
      exact ⟨_, _, [], rfl, rfl, K.out, hbw⟩
  · have hAf : allPermB (qs.map Row.xs) = false := by simpa using hA
    have H1 := Lib.hid hAf
    have HG := Lib.hid (show bupG (qs.map Row.xs) n = [] by unfold bupG; rw [if_neg]; exact fun h => hA h.1)
    clear hA hAf
    go_enter Try.func35, Try.ntmps35
    go_wp2_with fail
    have hz0 : (w.alloc (Obj.cells #[] 22)).heap.size = w.heap.size + 1 := by simp
    rw [hz0] at hlit
    generalize (w.alloc (Obj.cells #[] 22)) = w0 at hlit hb0 hz0 ⊢
    have HZ0 := Lib.hid hz0
    clear hz0
    (with_reducible refine (l3All_b A c qs w0 false (h.next hb0) H1.out).mono ?_)
    rintro e w1 ⟨rfl, hb1⟩
    have hbw := hb0.trans (hb1.mono hb0.size)
    have K : Own w1 w.heap.size w1.heap.size [] [⟨some ⟨w.heap.size, 0, none⟩, 0, []⟩] := (hlit.below hb1).wider (Nat.le_refl _) (by have := hb1.size; have := HZ0.out; omega)
    have K := Lib.hid K
    clear hlit
    go_wp2_with fail
    go_ret
    rw [HG.out]
    exact ⟨_, _, [], rfl, rfl, K.out, hbw⟩
end Go.Proofs.Ythkggnmfdlggbaa
