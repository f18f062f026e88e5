/- Several texts in one, each with its own head: U2, OK1, PT1, PT2, PT3, E4, X4, D11, D12, D14. No program of ours. -/
import Derived.Shelf.Spec.SlicesGrow
import Derived.Test.YtodloeonlaljpaaGreatDoorMClasses8
/- l12In, arePerms; BasisUpTo of the reference. -/
namespace Go.Proofs.YtodloeonlaljpaaGreatDoor
set_option maxRecDepth 100000
open Go Go.RowKit

def bupP (L : List (List Int)) (q : List Int) : Bool := decide (q.length = 0) || decide (q ∈ L)
/-- Not in the list, but all lower ones are. -/
def bupK (L : List (List Int)) (p : List Int) : Bool := !decide (p ∈ L) && (lowL p).all (bupP L)
def bupL (L : List (List Int)) (n : Nat) : List (List Int) := (List.range n).flatMap fun m => (permsL (m + 1)).filter (bupK L)
theorem bupL_succ (L : List (List Int)) (n : Nat) : bupL L (n + 1) = bupL L n ++ (permsL (n + 1)).filter (bupK L) := by simp [bupL, List.range_succ]
def bupG (X : List (List Int)) (n : Int) : List (List Int) := if allPermB X = true ∧ sixB n = true then bupL X n.toNat else []
theorem permsL_le7 {m : Nat} (hm : m < 6) : (permsL (m + 1)).length ≤ 46656 := by
  have h1 := permsI_le (m + 1) (m + 1)
  have h2 := pow_six (n := m + 1) (i := m + 1) (by omega) (by omega)
  unfold permsL
  omega
theorem bupL_le (L : List (List Int)) (n : Nat) (h : n ≤ 6) : (bupL L n).length ≤ 50069 := by
  have hs : ∀ m, (bupL L (m + 1)).length ≤ (bupL L m).length + (m + 1) ^ (m + 1) := fun m => by
    rw [bupL_succ, List.length_append]
    have h1 := permsI_le (m + 1) (m + 1)
    have h2 := List.length_filter_le (bupK L) (permsL (m + 1))
    unfold permsL at h2 ⊢
    omega
  have h0 : (bupL L 0).length = 0 := rfl
  have h1 : (bupL L 1).length ≤ (bupL L 0).length + 1 := hs 0
  have h2 : (bupL L 2).length ≤ (bupL L 1).length + 4 := hs 1
  have h3 : (bupL L 3).length ≤ (bupL L 2).length + 27 := hs 2
  have h4 : (bupL L 4).length ≤ (bupL L 3).length + 256 := hs 3
  have h5 : (bupL L 5).length ≤ (bupL L 4).length + 3125 := hs 4
  have h6 : (bupL L 6).length ≤ (bupL L 5).length + 46656 := hs 5
  rcases (show n = 0 ∨ n = 1 ∨ n = 2 ∨ n = 3 ∨ n = 4 ∨ n = 5 ∨ n = 6 by omega) with rfl | rfl | rfl | rfl | rfl | rfl | rfl <;> omega
theorem bupL_mem {L : List (List Int)} {n : Nat} {p : List Int} (h : p ∈ bupL L n) : p.length ≤ n := by
  unfold bupL at h
  obtain ⟨m, hm, hp⟩ := List.mem_flatMap.1 h
  have h1 := (permsI_mem (List.mem_filter.1 hp).1).1
  have h2 := List.mem_range.1 hm
  omega
theorem bupG_le (X : List (List Int)) (n : Int) : (bupG X n).length + sizeX (bupG X n) ≤ 1048576 := by
  unfold bupG
  by_cases h : allPermB X = true ∧ sixB n = true
  · rw [if_pos h]
    have h6 : 0 ≤ n ∧ n ≤ 6 := by simpa [sixB] using h.2
    have h1 := bupL_le X n.toNat (by omega)
    have h2 := sizeX_of (X := bupL X n.toNat) (m := 6) (fun s hs => by have := bupL_mem hs; omega)
    omega
  · rw [if_neg h]; simp [sizeX]
/-- The rows of a round go behind those of the rounds before. -/
theorem sift_end {w : World} {lo a b : Nat} {rs prior kept : List Row} {o : Outer} {A : Option Addr} {c : Nat} {vs : List Value} (hO : Own w lo w.heap.size prior [⟨A, c, vs⟩]) (hp : ∀ r ∈ prior, ∀ g, r.v.ownBlock = some g → g < a) (hS : Sift w lo a b rs o A c vs) (hs : kept.Sublist rs)
    (hv : vs = (prior ++ kept).map Row.v) (hla : lo ≤ a) (hab : a ≤ b) (hb : b ≤ w.heap.size) : Own w lo w.heap.size (prior ++ kept) [⟨A, c, (prior ++ kept).map Row.v⟩] := by
  subst hv
  have h1 := (hO.bare.lim a hp).app (hS.rows.bare.sub hs) hla hab
  exact (h1.wider (Nat.le_refl _) hb).with_ hS.out (Nat.le_refl _)
set_option maxHeartbeats 1000000 in
theorem l12In_b (A B : Option Addr) (c d : Nat) (rs : List Row) (p : List Int) (w : World) (b : Bool) (h : InL w A c rs) (hp : In w B d p) (hb : decide (p ∈ rs.map Row.xs) = b) :
    Calls Tryz.prog 60 #[.slice A rs.length c, .slice B p.length d] w (Rq w (.bool b)) := by
  subst hb
  have hlen := h.len
  have hpl := hp.len
  go_enter Tryz.func60, Tryz.ntmps60
  go_wp2_with fail
  go_loopw [5] (fun i wr => ∃ k : Nat, k ≤ rs.length ∧ i = .int .i64 k ∧ Hid (p ∉ (rs.map Row.xs).take k) ∧ Dr w wr) (fun i _ => rs.length - (intOf i).toNat)
  case atStart => exact ⟨0, Nat.zero_le _, rfl, Lib.hid (by simp), Dr.refl _⟩
  case round =>
    obtain ⟨k, hk, rfl, HN, hd⟩ := hrel
    rcases Nat.lt_or_ge k rs.length with hlt | hge
    · have hL := h.dr hd
      obtain ⟨bb, off, rfl, _, hc⟩ := hL.read.at (by omega)
      have cc := hc k hlt
      have hin := hL.row (List.getElem_mem hlt)
      have hql := hin.len
      have hmem : rs[k].xs ∈ rs.map Row.xs := List.mem_map.2 ⟨rs[k], List.getElem_mem hlt, rfl⟩
      have hT : (rs.map Row.xs).take (k + 1) = (rs.map Row.xs).take k ++ [rs[k].xs] := by rw [List.take_succ_eq_append_getElem (by simpa using hlt)]; simp
      have HM := Lib.hid (And.intro hmem hT)
      have hpr := (hp.dr hd).rd
      clear hc hmem hT
      go_wp2_with fail
      by_cases he : rs[k].xs = p
      · have HB := Lib.hid (show decide (p ∈ List.map Row.xs rs) = true from decide_eq_true (by rw [← he]; exact HM.out.1))
        (with_reducible refine (l2Same_b rs[k].A B rs[k].c d rs[k].xs.length p.length rs[k].xs p wr true rfl rfl (by omega) hin.rd hpr (decide_eq_true he)).mono ?_)
        rintro e w1 ⟨rfl, hd1⟩
        clear he
        go_wp2_with fail
        go_ret
        exact ⟨ret_bool HB.out.symm, hd.trans hd1⟩
      · have HT := Lib.hid (show p ∉ (rs.map Row.xs).take (k + 1) by
          rw [HM.out.2, List.mem_append, List.mem_singleton]
          rintro (h1 | h1)
          · exact HN.out h1
          · exact he h1.symm)
        (with_reducible refine (l2Same_b rs[k].A B rs[k].c d rs[k].xs.length p.length rs[k].xs p wr false rfl rfl (by omega) hin.rd hpr (decide_eq_false he)).mono ?_)
        rintro e w1 ⟨rfl, hd1⟩
        have hdd := hd.trans hd1
        clear he
        go_wp2_with fail
        go_roundw
        case rel => exact ⟨k + 1, by omega, by go_num, HT, hdd⟩
        case measure => simp [intOf]; omega
    · obtain rfl : k = rs.length := by omega
      have HB := Lib.hid (show decide (p ∈ List.map Row.xs rs) = false from decide_eq_false (by have := HN.out; rwa [List.take_of_length_le (by simp)] at this))
      go_wp2_with fail
      go_ret
      exact ⟨ret_bool HB.out.symm, hd⟩
theorem call_ap (args : Array Value) (w : World) : (callFunc 86 args).run Tryz.prog w = .ok (.enter 86 args) w := by kernel_rfl
theorem ap_cl (A : Option Addr) (c : Nat) (p : List Int) (w : World) (h : In w A c p) :
    Calls Tryz.prog 86 #[.slice A p.length c] w (Rb w (.bool (!permB p))) := by
  go_enter Tryz.func86, Tryz.ntmps86
  go_wp2_with fail
  (with_reducible refine (isPerm_impl A c p w h).mono ?_)
  rintro e w1 ⟨rfl, hb1⟩
  go_wp2_with fail
  go_ret
  exact ⟨rfl, hb1⟩
theorem arePerms_b (A : Option Addr) (c : Nat) (rs : List Row) (w : World) (b : Bool) (h : InL w A c rs) (hb : allPermB (rs.map Row.xs) = b) :
    Calls Tryz.prog 57 #[.slice A rs.length c] w (Rb w (.bool b)) := by
  have hlen := h.len
  have HB := Lib.hid (show (!(rs.any fun r : Row => !permB r.xs)) = b by rw [any_rows rs (fun p => !permB p), ← hb]; rfl)
  go_enter Tryz.func57, Tryz.ntmps57
  go_wp2_with fail
  refine (containsFuncL0 A c rs 86 (fun p => !permB p) w (by omega) h.read (fun args w' => call_ap args w') (fun w' k hk hb => ap_cl _ _ _ _ ((h.next hb).row (List.getElem_mem hk))) _ rfl).mono ?_
  rintro e w2 ⟨rfl, hb2⟩
  go_wp2_with fail
  go_ret
  exact ⟨ret_bool HB.out, hb2⟩
set_option maxHeartbeats 8000000 in
theorem basisUpTo_spec (A : Option Addr) (c : Nat) (qs : List Row) (n : Int) (_ : -9223372036854775808 ≤ n ∧ n ≤ 9223372036854775807) (w : World) (h : InL w A c qs) :
    Calls Tryz.prog 21 #[.slice A qs.length c, .int .i64 n] w (RetL w (bupG (qs.map Row.xs) n)) := by
  obtain ⟨j0, hj, hy0, hy1, hy2⟩ := info_parts infoL
  have hlit := Own.lit (lo := w.heap.size) w (Nat.le_refl _)
  have hb0 := (Below.refl w.heap.size w).alloc (Nat.le_refl _) (.cells #[] 27)
  have hqlen := h.len
  by_cases hA : allPermB (qs.map Row.xs) = true
  · have H1 := Lib.hid hA
    clear hA
    go_enter Tryz.func21, Tryz.ntmps21
    go_wp2_with fail
    have hz0 : (w.alloc (Obj.cells #[] 27)).heap.size = w.heap.size + 1 := by simp
    rw [hz0] at hlit
    generalize (w.alloc (Obj.cells #[] 27)) = w0 at hlit hb0 hz0 ⊢
    have HZ0 := Lib.hid hz0
    clear hz0
    (with_reducible refine (l3All_b A c qs w0 true (h.next hb0) H1.out).mono ?_)
    rintro e w1 ⟨rfl, hb1⟩
    have hbw := hb0.trans (hb1.mono hb0.size)
    go_wp2_with fail
    by_cases h6 : sixB n = true
    · have HG := Lib.hid (show bupG (qs.map Row.xs) n = bupL (qs.map Row.xs) n.toNat by unfold bupG; rw [if_pos ⟨H1.out, h6⟩])
      have h6' : 0 ≤ n ∧ n ≤ 6 := by simpa [sixB] using h6
      (with_reducible refine (l1In_b n 0 6 w1 true (decide_eq_true h6')).mono ?_)
      rintro e w' ⟨rfl, rfl⟩
      obtain ⟨N, rfl⟩ := Int.eq_ofNat_of_zero_le h6'.1
      have hN : N ≤ 6 := by omega
      have hst : Own w1 w.heap.size w1.heap.size [] [⟨some ⟨w.heap.size, 0, none⟩, 0, []⟩] := (hlit.below hb1).wider (Nat.le_refl _) (by have := hb1.size; have := HZ0.out; omega)
      clear h6 h6' hlit hb0 hb1
      go_wp2_with fail
      go_loopw [5, 6] (fun v i wr => ∃ (m : Nat) (A2 : Option Addr) (c2 : Nat) (kept : List Row), m ≤ N ∧ i = .int .i64 ((m : Int) + 1) ∧ v = .slice A2 kept.length c2 ∧ Hid (kept.map Row.xs = bupL (qs.map Row.xs) m) ∧ Own wr w.heap.size wr.heap.size kept [⟨A2, c2, kept.map Row.v⟩] ∧ Below w.heap.size w wr) (fun _ i _ => N + 1 - (intOf i).toNat)
      case atStart => exact ⟨0, _, _, [], Nat.zero_le _, rfl, rfl, Lib.hid rfl, hst, hbw⟩
      case round =>
        clear hst hbw
        obtain ⟨m, A2, c2, kept, hm, rfl, rfl, HX, hO, hb⟩ := hrel
        have hkl : kept.length ≤ 50069 := by
          have h1 := congrArg List.length HX.out
          have h2 := bupL_le (qs.map Row.xs) m (by omega)
          rw [List.length_map] at h1
          omega
        have hsz := hb.size
        rcases Nat.lt_or_ge m N with hlt | hge
        · have d1 : decide ((m : Int) + 1 ≤ (N : Int)) = true := decide_eq_true (by omega)
          have HPG := Lib.hid (show permsG ((m : Int) + 1) = permsL (m + 1) by unfold permsG; rw [if_pos (by omega)]; rfl)
          obtain ⟨wo, rfl⟩ : ∃ wo : World, wo = wr := ⟨_, rfl⟩
          go_wp2_with fail
          (with_reducible refine (permsOf_spec ((m : Int) + 1) wo).mono ?_)
          rintro e w2 ⟨A1, c1, rs, rfl, hX, hOr, hb2⟩
          rw [HPG.out] at hX
          have hbw2 := hb.trans (hb2.mono hsz)
          have hs2 := hb2.size
          have hlen : rs.length ≤ 46656 := by have h1 := permsL_le7 (m := m) (by omega); rw [← hX, List.length_map] at h1; exact h1
          have HXR := Lib.hid hX
          have HPL := Lib.hid (show ∀ r ∈ kept, ∀ g, r.v.ownBlock = some g → g < wo.heap.size from hO.lt)
          have hO2 := (hO.below hb2).wider (Nat.le_refl _) hs2
          have hS2 : Sift w2 w.heap.size wo.heap.size w2.heap.size rs ⟨A1, c1, rs.map Row.v⟩ A2 c2 (kept.map Row.v) :=
            ⟨hOr, own_below hO.out hb2, fun g hg => .inl (hO.out.lt g hg).2⟩
          clear hX hOr hb2 hO hb
          go_wp2_with fail
          go_loopw [5, 8] (fun v i wr => ∃ (j : Nat) (A2 : Option Addr) (c2 : Nat) (vs : List Value), j ≤ rs.length ∧ i = .int .i64 j ∧ v = .slice A2 vs.length c2 ∧ Hid (vs = (kept ++ keptR (bupK (qs.map Row.xs)) rs j).map Row.v) ∧
            Own wr w.heap.size wr.heap.size kept [⟨A2, c2, vs⟩] ∧ Sift wr w.heap.size wo.heap.size w2.heap.size rs ⟨A1, c1, rs.map Row.v⟩ A2 c2 vs ∧ Below w.heap.size w wr ∧ w2.heap.size ≤ wr.heap.size) (fun _ i _ => rs.length - (intOf i).toNat)
          case atStart => exact ⟨0, A2, c2, kept.map Row.v, Nat.zero_le _, rfl, by rw [List.length_map], Lib.hid (by simp [keptR]), hO2, hS2, hbw2, Nat.le_refl _⟩
          case round =>
            clear hO2 hS2 hbw2
            obtain ⟨j, A2, c2, vs, hjl, rfl, rfl, HV, hO, hS, hb, hsw⟩ := hrel
            have hvl : vs.length ≤ 100000 := by
              have h1 := keptR_le (bupK (qs.map Row.xs)) rs j
              have h2 := congrArg List.length HV.out
              rw [List.length_map, List.length_append] at h2
              omega
            rcases Nat.lt_or_ge j rs.length with hltj | hgej
            · obtain ⟨p, hp⟩ : ∃ p : Row, p = rs[j] := ⟨_, rfl⟩
              have hpm : p ∈ rs := by rw [hp]; exact List.getElem_mem hltj
              have hRd := hS.rows.read
              obtain ⟨bk, off, rfl, hbk, hc⟩ := hRd.at (by omega)
              have cc : wr.cell? ⟨bk, off + j, none⟩ = some (Value.slice p.A p.xs.length p.c) := by rw [hp]; exact hc j hltj
              have hpx := permsL_perm (n := m + 1) (by omega) (map_memX HXR.out hpm)
              have hl8 : p.xs.length ≤ 8 := by have := hpx.2; omega
              have HPB := Lib.hid hpx.1
              have hin := row_in hRd hpm (by omega) hsw
              have HK := Lib.hid (show keptR (bupK (qs.map Row.xs)) rs (j + 1) = if bupK (qs.map Row.xs) p.xs = true then keptR (bupK (qs.map Row.xs)) rs j ++ [p] else keptR (bupK (qs.map Row.xs)) rs j by rw [keptR_succ _ rs j hltj, ← hp])
              have hL := h.next hb
              obtain ⟨b0, hb0⟩ : ∃ b0 : Bool, decide (p.xs ∈ qs.map Row.xs) = b0 := ⟨_, rfl⟩
              have HB0 := Lib.hid hb0
              clear hc hp hRd hpx hb0
              go_wp2_with fail
              (with_reducible refine (l12In_b A p.A c p.c qs p.xs wr b0 hL hin HB0.out).mono ?_)
              rintro e w3 ⟨rfl, hd3⟩
              have cc3 : w3.cell? ⟨bk, off + j, none⟩ = some (Value.slice p.A p.xs.length p.c) := (hd3.cell _).trans cc
              have hin3 := hin.dr hd3
              have hLow := Lib.hid (lowersOf_spec p.A p.c p.xs w3 hin3 HPB.out)
              have hO3 := hO.dr hd3
              have hS3 := hS.dr hd3
              have hb3 := below_dr hb hd3
              have hs3 : w3.heap.size = wr.heap.size := by rw [hd3.heap]
              have HS3 := Lib.hid hs3
              clear hs3 hd3 hO hS cc hin hL
              go_wp2_with fail
              (with_reducible refine hLow.out.mono ?_)
              rintro e w4 ⟨A6, c6, lw, rfl, hXl, hOl, hb4⟩
              have hO4 := (hO3.below (by rw [← HS3.out] at hsw; exact hb4)).wider (Nat.le_refl _) (show wr.heap.size ≤ w4.heap.size by have := hb4.size; have := HS3.out; omega)
              have hS4 := hS3.below hb4
              have hbw4 := hb3.trans (hb4.mono hb3.size)
              have hs4 := hb4.size
              have hsw4 : w2.heap.size ≤ w4.heap.size := by have := HS3.out; omega
              have hLow4 : Read w4 w4.heap.size lw [⟨A6, c6, lw.map Row.v⟩] := hOl.read
              have hL4 := h.next hbw4
              have cc4 : w4.cell? ⟨bk, off + j, none⟩ = some (Value.slice p.A p.xs.length p.c) := (hb4.cell (p := ⟨bk, off + j, none⟩) (by show bk < w3.heap.size; have := HS3.out; omega)).trans cc3
              have hll := lowL_length p.xs
              have hlwl : lw.length ≤ 8 := by have h1 := congrArg List.length hXl; rw [List.length_map] at h1; omega
              have HLW := Lib.hid (show ∀ r ∈ lw, r.xs.length ≤ 8 from fun r hr => by have := lowL_len r.xs (map_memX hXl hr); omega)
              have HKB := Lib.hid (show bupK (qs.map Row.xs) p.xs = (!b0 && (lowL p.xs).all (bupP (qs.map Row.xs))) by unfold bupK; rw [HB0.out])
              have HXL := Lib.hid hXl
              clear hXl hb4 hb3 hO3 hS3 hOl cc3 hin3 hll hLow
              obtain ⟨wl, rfl⟩ : ∃ wl : World, wl = w4 := ⟨_, rfl⟩
              go_wp2_with fail
              go_loopw [9, 11] (fun f i wr => ∃ t : Nat, t ≤ lw.length ∧ i = .int .i64 t ∧ f = .bool (!b0 && ((lowL p.xs).take t).all (bupP (qs.map Row.xs))) ∧ Dr wl wr) (fun _ i _ => lw.length - (intOf i).toNat)
              case atStart => exact ⟨0, Nat.zero_le _, rfl, by simp, Dr.refl _⟩
              case round =>
                obtain ⟨t, htl, rfl, rfl, hdt⟩ := hrel
                obtain ⟨f, hf⟩ : ∃ f : Bool, (!b0 && ((lowL p.xs).take t).all (bupP (qs.map Row.xs))) = f := ⟨_, rfl⟩
                rw [hf]
                have HF := Lib.hid hf
                clear hf
                have FIN : ∀ g : Bool, bupK (qs.map Row.xs) p.xs = g → True := fun _ _ => trivial
                by_cases hgo : t < lw.length ∧ f = true
                · obtain ⟨hlt', rfl⟩ := hgo
                  have hL' := hL4.dr hdt
                  have hR' := hLow4.dr hdt
                  obtain ⟨bl, ol, rfl, _, hcl⟩ := hR'.at (by omega)
                  have cl := hcl t hlt'
                  obtain ⟨q, hq⟩ : ∃ q : Row, q = lw[t] := ⟨_, rfl⟩
                  rw [← hq] at cl
                  have hqm : q ∈ lw := by rw [hq]; exact List.getElem_mem hlt'
                  have hq8 := HLW.out q hqm
                  have hinq := row_in hR' hqm (by omega) (by rw [hdt.heap]; exact Nat.le_refl _)
                  have HT := Lib.hid (show (!b0 && ((lowL p.xs).take (t + 1)).all (bupP (qs.map Row.xs))) = bupP (qs.map Row.xs) q.xs by
                    have hlq : t < (lowL p.xs).length := by rw [← HXL.out, List.length_map]; exact hlt'
                    have heq : (lowL p.xs)[t] = q.xs := by rw [hq]; exact (map_getX HXL.out hlt').symm
                    rw [List.take_succ_eq_append_getElem hlq, List.all_append, ← Bool.and_assoc, HF.out, heq]
                    simp)
                  clear hcl hq hR'
                  by_cases hq0 : q.xs.length = 0
                  · have dq : ((q.xs.length : Int) == 0) = true := by rw [hq0]; rfl
                    have HE := Lib.hid (show bupP (qs.map Row.xs) q.xs = true by unfold bupP; rw [decide_eq_true hq0]; rfl)
                    clear hq0
                    go_wp2_with fail
                    go_roundw
                    case rel => exact ⟨t + 1, by omega, by go_num, by rw [HT.out, HE.out], hdt⟩
                    case measure => simp [intOf]; omega
                  · have dq : ((q.xs.length : Int) == 0) = false := by simp; intro e; rw [e] at hq0; simp at hq0
                    obtain ⟨b1, hb1⟩ : ∃ b1 : Bool, decide (q.xs ∈ qs.map Row.xs) = b1 := ⟨_, rfl⟩
                    have HE := Lib.hid (show bupP (qs.map Row.xs) q.xs = b1 by unfold bupP; rw [decide_eq_false hq0, hb1]; rfl)
                    have HI := Lib.hid (l12In_b A q.A c q.c qs q.xs wr b1 hL' hinq hb1)
                    clear hq0 hb1
                    go_wp2_with fail
                    (with_reducible refine HI.out.mono ?_)
                    rintro e w5 ⟨rfl, hd5⟩
                    have hdd := hdt.trans hd5
                    go_wp2_with fail
                    go_roundw
                    case rel => exact ⟨t + 1, by omega, by go_num, by rw [HT.out, HE.out], hdd⟩
                    case measure => simp [intOf]; omega
                · have HFB := Lib.hid (show bupK (qs.map Row.xs) p.xs = f by
                    rw [HKB.out]
                    cases f with
                    | false =>
                      have h1 := HF.out
                      rw [Bool.and_eq_false_iff] at h1 ⊢
                      rcases h1 with h1 | h1
                      · exact .inl h1
                      · right
                        rw [List.all_eq_false] at h1 ⊢
                        obtain ⟨x, hx, hxp⟩ := h1
                        exact ⟨x, List.mem_of_mem_take hx, hxp⟩
                    | true =>
                      have ht : ¬ t < lw.length := fun h => hgo ⟨h, rfl⟩
                      have h1 := HF.out
                      rwa [List.take_of_length_le (by rw [← HXL.out, List.length_map]; omega)] at h1)
                  have hstop : (decide ((t : Int) < (lw.length : Int)) && f) = false := by
                    cases f with
                    | false => simp
                    | true => simp only [Bool.and_true, decide_eq_false_iff_not]; intro h; exact hgo ⟨by omega, rfl⟩
                  have hO5 : Own wr w.heap.size wr.heap.size kept [⟨A2, c2, vs⟩] := (hO4.dr hdt).wider (Nat.le_refl _) (by rw [hdt.heap]; exact Nat.le_refl _)
                  have hS5 := hS4.dr hdt
                  have hbw5 := below_dr hbw4 hdt
                  have hs5 : wr.heap.size = wl.heap.size := by rw [hdt.heap]
                  have cc5 : wr.cell? ⟨bk, off + j, none⟩ = some (Value.slice p.A p.xs.length p.c) := (hdt.cell _).trans cc4
                  have HS5 := Lib.hid hs5
                  have hsw5 : w2.heap.size ≤ wr.heap.size := by omega
                  have hwz5 : w.heap.size ≤ wr.heap.size := hbw5.size
                  clear hO4 hS4 hbw4 cc4 hdt hs5 hLow4 hL4 FIN hstop
                  cases f with
                  | false =>
                    have HT := Lib.hid (show keptR (bupK (qs.map Row.xs)) rs (j + 1) = keptR (bupK (qs.map Row.xs)) rs j by rw [HK.out, HFB.out]; rfl)
                    rcases Nat.lt_or_ge t lw.length with ht | ht
                    · go_wp2_with fail
                      go_roundw
                      case rel => exact ⟨j + 1, A2, c2, vs, by omega, by go_num, rfl, Lib.hid (by rw [HT.out, HV.out]), hO5, hS5, hbw5, hsw5⟩
                      case measure => simp [intOf]; omega
                    · obtain rfl : t = lw.length := by omega
                      go_wp2_with fail
                      go_roundw
                      case rel => exact ⟨j + 1, A2, c2, vs, by omega, by go_num, rfl, Lib.hid (by rw [HT.out, HV.out]), hO5, hS5, hbw5, hsw5⟩
                      case measure => simp [intOf]; omega
                  | true =>
                    have HT := Lib.hid (show keptR (bupK (qs.map Row.xs)) rs (j + 1) = keptR (bupK (qs.map Row.xs)) rs j ++ [p] by rw [HK.out, HFB.out]; rfl)
                    obtain rfl : t = lw.length := by
                      rcases Nat.lt_or_ge t lw.length with ht | ht
                      · exact absurd ⟨ht, rfl⟩ hgo
                      · omega
                    have ho2 := hS5.outN (n := vs.length) rfl
                    have hol := hS5.olim (n := vs.length) rfl
                    clear hgo
                    go_wp2_with (at_builtin; refine wpList_append_own_at _ rfl _ _ 24 rfl (w.heap.size) 27 j0 (.slice none 0 0) 1 24 Tryz.underlying24 hj hy0 hy1 hy2 rfl (by decide) _ _ _ rfl (World.ownsRow.alloc ho2 _) ⟨wr.heap.size, 0, none⟩ 1 1 [Value.slice p.A p.xs.length p.c] rfl rfl (cell_one_at _ _ (by simp)) (by intro u hu; simp at hu; subst hu; rfl) (by unfold maxLen; omega) (by omega) (by simp; omega) ?_; intro v9 w9 hown9 hgrow9 _ hat9)
                    obtain ⟨A5, c5, hv5, hS6, hg6⟩ := hS5.grow hsw5 rfl hown9 hgrow9 hat9
                    obtain ⟨A7, c7, hv7, hO6, _⟩ := hO5.grow (Nat.le_refl _) rfl hown9 hgrow9
                    have hE := hv5.symm.trans hv7
                    injection hE with hE1 _ hE2
                    subst hE1 hE2
                    subst hv5
                    have hb6 := hbw5.grown hg6 hwz5 hol
                    have hsz6 : w2.heap.size ≤ w9.heap.size := by have := hg6.size; omega
                    have K := Lib.hid (And.intro hS6 (And.intro hO6 hb6))
                    clear hS6 hO6 hb6 hown9 hgrow9 hat9 hg6 hS5 hO5 ho2 hol hbw5 cc5 hv7
                    go_wp2_with fail
                    go_roundw
                    case rel => exact ⟨j + 1, A5, c5, vs ++ [Value.slice p.A p.xs.length p.c], by omega, by go_num, by rw [List.length_append]; rfl, Lib.hid (by rw [HT.out, HV.out]; simp [Row.v]), K.out.2.1, K.out.1, K.out.2.2, hsz6⟩
                    case measure => simp [intOf]; omega
            · obtain rfl : j = rs.length := by omega
              have hfin := sift_end (kept := keptR (bupK (qs.map Row.xs)) rs rs.length) hO HPL.out hS (keptR_sub _ _) HV.out hsz hs2 hsw
              have HLE := Lib.hid (show vs.length = (kept ++ keptR (bupK (qs.map Row.xs)) rs rs.length).length by rw [HV.out, List.length_map])
              have HXN := Lib.hid (show (kept ++ keptR (bupK (qs.map Row.xs)) rs rs.length).map Row.xs = bupL (qs.map Row.xs) (m + 1) by rw [List.map_append, keptR_all, HX.out, HXR.out, bupL_succ])
              have K := Lib.hid hfin
              clear hfin hO hS
              go_wp2_with fail
              go_roundw
              case rel => exact ⟨m + 1, A2, c2, kept ++ keptR (bupK (qs.map Row.xs)) rs rs.length, by omega, by go_num, by rw [← HLE.out], HXN, K.out, hb⟩
              case measure => simp [intOf]; omega
        · obtain rfl : m = N := by omega
          have d1 : decide ((m : Int) + 1 ≤ (m : Int)) = false := decide_eq_false (by omega)
          go_wp2_with fail
          go_ret
          rw [HG.out]
          exact ⟨A2, c2, kept, rfl, by rw [HX.out]; rfl, hO, hb⟩
    · have h6f : sixB n = false := by simpa using h6
      have HG := Lib.hid (show bupG (qs.map Row.xs) n = [] by unfold bupG; rw [if_neg]; exact fun h => h6 h.2)
      have h6' : decide (0 ≤ n ∧ n ≤ 6) = false := h6f
      have K : Own w1 w.heap.size w1.heap.size [] [⟨some ⟨w.heap.size, 0, none⟩, 0, []⟩] := (hlit.below hb1).wider (Nat.le_refl _) (by have := hb1.size; have := HZ0.out; omega)
      have K := Lib.hid K
      (with_reducible refine (l1In_b n 0 6 w1 false h6').mono ?_)
      rintro e w' ⟨rfl, rfl⟩
      clear h6 h6f h6' hlit
      go_wp2_with fail
      go_ret
      rw [HG.out]
      exact ⟨_, _, [], rfl, rfl, K.out, hbw⟩
  · have hAf : allPermB (qs.map Row.xs) = false := by simpa using hA
    have H1 := Lib.hid hAf
    have HG := Lib.hid (show bupG (qs.map Row.xs) n = [] by unfold bupG; rw [if_neg]; exact fun h => hA h.1)
    clear hA hAf
    go_enter Tryz.func21, Tryz.ntmps21
    go_wp2_with fail
    have hz0 : (w.alloc (Obj.cells #[] 27)).heap.size = w.heap.size + 1 := by simp
    rw [hz0] at hlit
    generalize (w.alloc (Obj.cells #[] 27)) = w0 at hlit hb0 hz0 ⊢
    have HZ0 := Lib.hid hz0
    clear hz0
    (with_reducible refine (l3All_b A c qs w0 false (h.next hb0) H1.out).mono ?_)
    rintro e w1 ⟨rfl, hb1⟩
    have hbw := hb0.trans (hb1.mono hb0.size)
    have K : Own w1 w.heap.size w1.heap.size [] [⟨some ⟨w.heap.size, 0, none⟩, 0, []⟩] := (hlit.below hb1).wider (Nat.le_refl _) (by have := hb1.size; have := HZ0.out; omega)
    have K := Lib.hid K
    clear hlit
    go_wp2_with fail
    go_ret
    rw [HG.out]
    exact ⟨_, _, [], rfl, rfl, K.out, hbw⟩
end Go.Proofs.YtodloeonlaljpaaGreatDoor

/- Plain maths of FnClasses and FnMeets: classes, bases, meets, symmetries. -/
namespace Go.Proofs.YtodloeonlaljpaaGreatDoor
set_option maxRecDepth 100000

theorem avoid_iff {X : List (List Int)} {p : List Int} : avoidB X p = true ↔ ∀ q ∈ X, hasB p q = false := by
  unfold avoidB
  rw [Bool.not_eq_true', List.any_eq_false]
  constructor
  · intro h q hq; simpa using h q hq
  · intro h q hq; simpa using h q hq
theorem not_avoid {X : List (List Int)} {p : List Int} : avoidB X p = false ↔ ∃ q ∈ X, hasB p q = true := by
  unfold avoidB
  rw [Bool.not_eq_false', List.any_eq_true]
theorem avoid_mono {X : List (List Int)} {p t : List Int} (hX : ∀ q ∈ X, permB q = true) (hp : permB p = true) (ht : permB t = true) (h : hasB p t = true) (ha : avoidB X p = true) : avoidB X t = true := by
  rw [avoid_iff] at ha ⊢
  intro q hq
  cases hq2 : hasB t q with
  | false => rfl
  | true => have := has_trans hp ht (hX q hq) h hq2; rw [ha q hq] at this; cases this
theorem low_mem {p t : List Int} (hp : permB p = true) (h : t ∈ lowL p) : permB t = true ∧ hasB p t = true ∧ t.length = p.length - 1 := by
  have hl := lowL_len t h
  unfold lowL lowM at h
  rw [ordL_mem] at h
  obtain ⟨i, hi, rfl⟩ := List.mem_map.1 h
  have := cut_occ hp (List.mem_range.1 hi)
  exact ⟨this.1, this.2, hl⟩
theorem has_len {p q : List Int} (hp : permB p = true) (hq : permB q = true) (h : hasB p q = true) : q.length ≤ p.length := by
  obtain ⟨l, hl⟩ := (has_iff hp hq).1 h
  have h1 := nodup_sub_len l (nums p.length) (by have := inc_pair.1 hl.inc; rw [List.nodup_iff_pairwise_ne]; exact this.imp fun h => by omega) fun x hx => nums_mem.2 (rng_mem.1 hl.rng x hx)
  rw [nums_length, hl.len] at h1
  exact h1
theorem inc_full {l : List Int} {n : Nat} (hl : l.length = n) (hi : Inc l) (hr : Rng l n) : ∀ x : Int, 1 ≤ x → x ≤ n → at1 l x = x := by
  have hup : ∀ k : Nat, (k : Int) + 1 ≤ n → (k : Int) + 1 ≤ at1 l ((k : Int) + 1) := by
    intro k
    induction k with
    | zero => intro h; exact (hr ((0 : Nat) + 1 : Int) (by omega) (by omega)).1
    | succ k ih =>
      intro h
      have h1 := ih (by omega)
      have h2 := hi ((k : Int) + 1) (((k + 1 : Nat) : Int) + 1) (by omega) (by omega) (by omega)
      omega
  have hdn : ∀ k : Nat, (k : Int) < n → at1 l ((n : Int) - k) ≤ (n : Int) - k := by
    intro k
    induction k with
    | zero => intro h; have := (hr (n : Int) (by omega) (by omega)).2; simpa using this
    | succ k ih =>
      intro h
      have h1 := ih (by omega)
      have h2 := hi ((n : Int) - (k + 1 : Nat)) ((n : Int) - k) (by omega) (by omega) (by omega)
      omega
  intro x h1 h2
  have a := hup (x - 1).toNat (by omega)
  have b := hdn ((n : Int) - x).toNat (by omega)
  rw [show (((x - 1).toNat : Nat) : Int) + 1 = x by omega] at a
  rw [show (n : Int) - (((n : Int) - x).toNat : Nat) = x by omega] at b
  omega
theorem ord_same {p q : List Int} (hp : permB p = true) (hq : permB q = true) (hl : p.length = q.length) (h : ∀ i j : Int, 1 ≤ i ∧ i ≤ q.length → 1 ≤ j ∧ j ≤ q.length → (at1 q i < at1 q j ↔ at1 p i < at1 p j)) : p = q := by
  have h1 := patL_self (permB_true hp).2.2 (permB_true hp).2.1 rfl
  have hn := (permB_true hp).2.2
  rw [← h1]
  rw [patL_iff hl hn hq]
  intro i j hi hj hij
  have := h ((i : Int) + 1) ((j : Int) + 1) (by omega) (by omega)
  rwa [at1_get (by omega), at1_get (by omega), at1_get hi, at1_get hj] at this
theorem has_same {p q : List Int} (hp : permB p = true) (hq : permB q = true) (hl : p.length = q.length) (h : hasB p q = true) : p = q := by
  obtain ⟨l, hlo⟩ := (has_iff hp hq).1 h
  have hf := inc_full (n := p.length) (by have := hlo.len; omega) hlo.inc hlo.rng
  refine ord_same hp hq hl fun i j hi hj => ?_
  have := hlo.ord i j hi hj
  rwa [hf i hi.1 (by omega), hf j hj.1 (by omega)] at this
theorem not_mem_place {l : List Int} {n : Nat} (hl : l.length < n) : ∃ a : Int, 1 ≤ a ∧ a ≤ n ∧ a ∉ l := by
  apply Classical.byContradiction
  intro h
  have hsub : ∀ x ∈ nums n, x ∈ l := fun x hx => Classical.byContradiction fun hn => h ⟨x, (nums_mem.1 hx).1, (nums_mem.1 hx).2, hn⟩
  have := nodup_sub_len (nums n) l (nums_nodup n) hsub
  rw [nums_length] at this
  omega
/-- A shorter pattern is found in one of the lower ones. -/
theorem has_lower {p b : List Int} (hp : permB p = true) (hb : permB b = true) (hl : b.length < p.length) (h : hasB p b = true) : ∃ t ∈ lowL p, hasB t b = true := by
  obtain ⟨l, ho⟩ := (has_iff hp hb).1 h
  have hll := ho.len
  obtain ⟨a, ha1, ha2, han⟩ := not_mem_place (l := l) (n := p.length) (by omega)
  obtain ⟨i, rfl⟩ : ∃ i : Nat, a = (i : Int) + 1 := ⟨(a - 1).toNat, by omega⟩
  have hi : i < p.length := by omega
  have hc := pat_occ hp (cutPl_asc hi)
  rw [atL_cut hi] at hc
  refine ⟨patL (cutAt p i), ?_, (has_iff hc.1 hb).2 ⟨ofF b.length fun j => if at1 l j < (i : Int) + 1 then at1 l j else at1 l j - 1, ?_⟩⟩
  · unfold lowL lowM
    rw [ordL_mem]
    exact List.mem_map.2 ⟨i, List.mem_range.2 hi, rfl⟩
  · have htl : (patL (cutAt p i)).length = p.length - 1 := by rw [patL_length, cutAt_length p i hi]
    have hne : ∀ j : Int, 1 ≤ j → j ≤ b.length → at1 l j ≠ (i : Int) + 1 := fun j h1 h2 e => han (by rw [← e]; exact at1_mem h1 (by omega))
    have hrg : ∀ j : Int, 1 ≤ j → j ≤ b.length → 1 ≤ (if at1 l j < (i : Int) + 1 then at1 l j else at1 l j - 1) ∧ (if at1 l j < (i : Int) + 1 then at1 l j else at1 l j - 1) ≤ (p.length : Int) - 1 := fun j h1 h2 => by
      have := ho.rng j h1 (by omega)
      have := hne j h1 h2
      split <;> omega
    refine ⟨ofF_length _ _, fun j k h1 h2 h3 => ?_, fun j h1 h2 => ?_, fun j k hj hk => ?_⟩
    · rw [ofF_length] at h3
      rw [at1_ofF h1 (by omega), at1_ofF (by omega) h3]
      have := ho.inc j k h1 h2 (by omega)
      have := hne j h1 (by omega)
      have := hne k (by omega) h3
      split <;> split <;> omega
    · rw [ofF_length] at h2
      rw [at1_ofF h1 h2, htl]
      have := hrg j h1 h2
      omega
    · rw [at1_ofF hj.1 hj.2, at1_ofF hk.1 hk.2]
      have r1 := hrg j hj.1 hj.2
      have r2 := hrg k hk.1 hk.2
      have key : ∀ j : Int, 1 ≤ j → j ≤ b.length → at1 (cutPl p.length i) (if at1 l j < (i : Int) + 1 then at1 l j else at1 l j - 1) = at1 l j := fun j h1 h2 => by
        have := hrg j h1 h2
        have := hne j h1 h2
        unfold cutPl
        rw [at1_ofF (by omega) (by omega)]
        split <;> split <;> omega
      rw [ho.ord j k hj hk, hc.2.ord _ _ ⟨r1.1, by omega⟩ ⟨r2.1, by omega⟩, key j hj.1 hj.2, key k hk.1 hk.2]

/-! A basis. -/
theorem basis_at {X : List (List Int)} (h : basisB X = true) (i : Nat) (hi : i < X.length) : permB X[i] = true ∧ X[i].length ≠ 0 ∧ (i = 0 ∨ before (X[i - 1]?.getD []) X[i] = true) ∧ ∀ j (hj : j < i), hasB X[i] (X[j]'(by omega)) = false := by
  unfold basisB at h
  rw [Bool.and_eq_true] at h
  have h1 := List.all_eq_true.1 (show (List.range X.length).all (basAt X) = true from h.2) i (List.mem_range.2 hi)
  unfold basAt at h1
  rw [List.getElem?_eq_getElem hi] at h1
  simp only [Option.getD_some, Bool.and_eq_true, Bool.or_eq_true, decide_eq_true_eq] at h1
  refine ⟨h1.1.1.1, h1.1.1.2, ?_, fun j hj => ?_⟩
  · rcases h1.1.2 with h2 | h2
    · exact .inl h2
    · exact .inr (by rw [before_cmp]; exact decide_eq_true h2)
  · have h2 := List.all_eq_true.1 (show (List.range i).all _ = true from h1.2) j (List.mem_range.2 hj)
    rw [List.getElem?_eq_getElem (by omega)] at h2
    simpa using h2
theorem basis_srt {X : List (List Int)} (h : basisB X = true) : Srt X := by
  have hst : ∀ j (hj : j + 1 < X.length), before X[j] X[j + 1] = true := fun j hj => by
    have := (basis_at h (j + 1) hj).2.2.1
    rcases this with h2 | h2
    · omega
    · rwa [Nat.add_sub_cancel, List.getElem?_eq_getElem (by omega)] at h2
  unfold Srt
  rw [List.pairwise_iff_getElem]
  intro i j hi hj hij
  induction j with
  | zero => omega
  | succ j ih =>
    by_cases e : i = j
    · subst e; exact hst i hj
    · exact before_trans (ih (by omega) (by omega)) (hst j hj)
theorem before_le {x y : List Int} (h : before x y = true) : x.length ≤ y.length := by
  unfold before at h
  split at h
  · omega
  · have := of_decide_eq_true h; omega
theorem basis_anti {X : List (List Int)} (h : basisB X = true) {a b : List Int} (ha : a ∈ X) (hb : b ∈ X) (hh : hasB a b = true) : a = b := by
  obtain ⟨i, hi, rfl⟩ := List.mem_iff_getElem.1 ha
  obtain ⟨j, hj, rfl⟩ := List.mem_iff_getElem.1 hb
  have h1 := basis_at h i hi
  have h2 := basis_at h j hj
  rcases Nat.lt_trichotomy i j with a1 | a1 | a1
  · have hs := List.pairwise_iff_getElem.1 (basis_srt h) i j hi hj a1
    have l1 := before_le hs
    have l2 := has_len h1.1 h2.1 hh
    exact has_same h1.1 h2.1 (by omega) hh
  · subst a1; rfl
  · have := h1.2.2.2 j a1
    rw [this] at hh; cases hh
theorem basis_of {X : List (List Int)} (h8 : X.length ≤ 8) (hp : ∀ q ∈ X, permB q = true) (hn : ∀ q ∈ X, q.length ≠ 0) (hs : Srt X) (ha : ∀ a ∈ X, ∀ b ∈ X, hasB a b = true → a = b) : basisB X = true := by
  unfold basisB
  rw [Bool.and_eq_true]
  refine ⟨decide_eq_true h8, ?_⟩
  show (List.range X.length).all (basAt X) = true
  rw [List.all_eq_true]
  intro i hi
  have hi := List.mem_range.1 hi
  unfold basAt
  rw [List.getElem?_eq_getElem hi]
  simp only [Option.getD_some, Bool.and_eq_true, Bool.or_eq_true, decide_eq_true_eq]
  refine ⟨⟨⟨hp _ (List.getElem_mem hi), hn _ (List.getElem_mem hi)⟩, ?_⟩, ?_⟩
  · rcases Nat.eq_zero_or_pos i with h0 | h0
    · exact .inl h0
    · right
      rw [List.getElem?_eq_getElem (by omega)]
      have := List.pairwise_iff_getElem.1 hs (i - 1) i (by omega) hi (by omega)
      rw [before_cmp] at this
      exact of_decide_eq_true this
  · show (List.range i).all _ = true
    rw [List.all_eq_true]
    intro j hj
    have hj := List.mem_range.1 hj
    rw [List.getElem?_eq_getElem (by omega)]
    simp only [Option.getD_some, Bool.not_eq_true']
    cases hh : hasB X[i] X[j] with
    | false => rfl
    | true =>
      have e := ha _ (List.getElem_mem hi) _ (List.getElem_mem (show j < X.length by omega)) hh
      have := List.pairwise_iff_getElem.1 hs j i (by omega) hi hj
      rw [e, before_irrefl] at this
      cases this

/-! Meets. -/
theorem sieve_has {L : List (List Int)} (hL : ∀ q ∈ L, permB q = true) : ∀ q ∈ L, ∃ s ∈ sieve L, hasB q s = true := by
  have key : ∀ k, k ≤ L.length → ∀ q ∈ L.take k, ∃ s ∈ sieve (L.take k), hasB q s = true := by
    intro k
    induction k with
    | zero => intro _ q hq; simp at hq
    | succ k ih =>
      intro hk q hq
      have hlt : k < L.length := by omega
      rw [sieve_take L k hlt]
      rw [List.take_succ_eq_append_getElem hlt] at hq
      rcases List.mem_append.1 hq with hq | hq
      · obtain ⟨s, hs, hh⟩ := ih (by omega) q hq
        refine ⟨s, ?_, hh⟩
        split
        · exact List.mem_append.2 (.inl hs)
        · exact hs
      · obtain rfl := List.mem_singleton.1 hq
        by_cases ha : avoidB (sieve (L.take k)) L[k] = true
        · rw [if_pos ha]
          exact ⟨L[k], by simp, has_self (hL _ (List.getElem_mem hlt))⟩
        · rw [if_neg ha]
          have ha : avoidB (sieve (L.take k)) L[k] = false := by simpa using ha
          exact not_avoid.1 ha
  intro q hq
  have := key L.length (Nat.le_refl _) q (by rw [List.take_length]; exact hq)
  rwa [List.take_length] at this
theorem mk_facts {X : List (List Int)} (h : mkB X = true) : basisB (mkG X) = true ∧ (∀ q ∈ mkG X, q ∈ X) ∧ (∀ q ∈ X, permB q = true) ∧ ∀ q ∈ X, ∃ s ∈ mkG X, hasB q s = true := by
  have hb := mkB_basis h
  have hP : ∀ q ∈ X, permB q = true := by
    unfold mkB at h
    rw [Bool.and_eq_true] at h
    have h1 := h.1
    unfold allPermB at h1
    rw [Bool.not_eq_true', List.any_eq_false] at h1
    intro q hq
    simpa using h1 q hq
  have e : mkG X = sieve (ordL X) := by rw [mkG, if_pos h]
  refine ⟨hb, fun q hq => ?_, hP, fun q hq => ?_⟩
  · rw [e] at hq
    exact (ordL_mem X q).1 (sieve_sub _ q hq)
  · rw [e]
    exact sieve_has (fun q hq => hP q ((ordL_mem X q).1 hq)) q ((ordL_mem X q).2 hq)
theorem meet_within {X Y Z : List (List Int)} (h : mkB (X ++ Y) = true) (hZ : basisB Z = true) (hs : ∀ q ∈ Z, q ∈ X ++ Y) : withinB (mkG (X ++ Y)) Z = true := by
  obtain ⟨h1, _, _, h4⟩ := mk_facts h
  unfold withinB
  rw [h1, hZ]
  simp only [Bool.true_and, Bool.not_eq_true', List.any_eq_false]
  intro p hp ha
  have := not_avoid.2 (h4 p (hs p hp))
  rw [this] at ha; cases ha
theorem meet_avoid {X Y : List (List Int)} {z : List Int} (h : mkB (X ++ Y) = true) (hz : permB z = true) : avoidB (mkG (X ++ Y)) z = (avoidB X z && avoidB Y z) := by
  obtain ⟨h1, h2, h3, h4⟩ := mk_facts h
  have hm := basis_perm h1
  rw [Bool.eq_iff_iff, Bool.and_eq_true]
  constructor
  · intro ha
    rw [avoid_iff] at ha
    have key : ∀ q ∈ X ++ Y, hasB z q = false := fun q hq => by
      obtain ⟨s, hs, hh⟩ := h4 q hq
      cases hq2 : hasB z q with
      | false => rfl
      | true => have := has_trans hz (h3 q hq) (hm s hs) hq2 hh; rw [ha s hs] at this; cases this
    exact ⟨avoid_iff.2 fun q hq => key q (by simp [hq]), avoid_iff.2 fun q hq => key q (by simp [hq])⟩
  · rintro ⟨ha, hb⟩
    rw [avoid_iff] at ha hb ⊢
    intro q hq
    rcases List.mem_append.1 (h2 q hq) with h5 | h5
    · exact ha q h5
    · exact hb q h5
/-! What lies beyond. -/
theorem beyond_facts {X Y : List (List Int)} {n : Int} (h : fbG2 X Y n = true) : permB (fbG1 X Y n) = true ∧ avoidB X (fbG1 X Y n) = true ∧ avoidB Y (fbG1 X Y n) = false ∧ basisB X = true ∧ basisB Y = true := by
  unfold fbG2 at h
  rw [Bool.and_eq_true] at h
  obtain ⟨h1, h2⟩ := h
  have h1' := h1
  unfold fbOk at h1'
  simp only [Bool.and_eq_true] at h1'
  have hn : 0 ≤ n ∧ n ≤ 6 := of_decide_eq_true h1'.2
  obtain ⟨p, hp⟩ := Option.isSome_iff_exists.1 h2
  have e : fbG1 X Y n = p := by rw [fbG1, if_pos h1, hp]; rfl
  rw [e]
  unfold fbFind at hp
  have hh := List.find?_some hp
  have hm := List.mem_of_find?_eq_some hp
  unfold fbHit at hh
  simp only [Bool.and_eq_true, Bool.not_eq_true'] at hh
  obtain ⟨k, hk, hpk⟩ := List.mem_flatMap.1 hm
  have hk := List.mem_range.1 hk
  exact ⟨(permsL_perm (by omega) hpk).1, hh.1, hh.2, h1'.1.1, h1'.1.2⟩
theorem beyond_within {X Y : List (List Int)} {p : List Int} (hp : permB p = true) (hX : basisB X = true) (hY : basisB Y = true) (ha : avoidB X p = true) (hb : avoidB Y p = false) : withinB X Y = false := by
  obtain ⟨q, hq, hpq⟩ := not_avoid.1 hb
  have hqp := basis_perm hY q hq
  unfold withinB
  rw [hX, hY]
  simp only [Bool.true_and, Bool.not_eq_false', List.any_eq_true]
  exact ⟨q, hq, avoid_mono (basis_perm hX) hp hqp hpq ha⟩
/-! Symmetries. -/
theorem sym_len (p : List Int) (k : Nat) : (symL p k).length = p.length := by
  unfold symL
  split <;> simp [complL, revL, invL_length]
theorem sym_inj {p q : List Int} (hp : permB p = true) (hq : permB q = true) (k : Nat) (h : symL p k = symL q k) : p = q := by
  have hl : p.length = q.length := by rw [← sym_len p k, ← sym_len q k, h]
  refine has_same hp hq hl ?_
  rw [← has_sym hp hq k, h]
  exact has_self (perm_sym hq k)
theorem sym_basis {X : List (List Int)} (h : basisB X = true) (k : Nat) : basisB (ordL (symM X k)) = true := by
  have hP := basis_perm h
  have hmem : ∀ q, q ∈ ordL (symM X k) ↔ ∃ p ∈ X, symL p k = q := fun q => by rw [ordL_mem]; unfold symM; rw [List.mem_map]
  refine basis_of ?_ (fun q hq => ?_) (fun q hq => ?_) (ordL_srt _) (fun a ha b hb hh => ?_)
  · have h1 := ordL_len (symM X k)
    have h2 := basis_len h
    unfold symM at h1 ⊢
    rw [List.length_map] at h1
    omega
  · obtain ⟨p, hp, rfl⟩ := (hmem q).1 hq
    exact perm_sym (hP p hp) k
  · obtain ⟨p, hp, rfl⟩ := (hmem q).1 hq
    rw [sym_len]
    obtain ⟨i, hi, rfl⟩ := List.mem_iff_getElem.1 hp
    exact (basis_at h i hi).2.1
  · obtain ⟨p, hp, rfl⟩ := (hmem a).1 ha
    obtain ⟨q, hq, rfl⟩ := (hmem b).1 hb
    rw [has_sym (hP p hp) (hP q hq)] at hh
    rw [basis_anti h hp hq hh]
theorem sym_avoid {X : List (List Int)} {z : List Int} (hX : ∀ q ∈ X, permB q = true) (hz : permB z = true) (k : Nat) : avoidB (ordL (symM X k)) (symL z k) = avoidB X z := by
  rw [Bool.eq_iff_iff, avoid_iff, avoid_iff]
  constructor
  · intro h q hq
    rw [← has_sym hz (hX q hq) k]
    exact h _ ((ordL_mem _ _).2 (List.mem_map.2 ⟨q, hq, rfl⟩))
  · intro h q hq
    rw [ordL_mem] at hq
    obtain ⟨p, hp, rfl⟩ := List.mem_map.1 hq
    rw [has_sym hz (hX p hp) k]
    exact h p hp
theorem onto_of {X Y : List (List Int)} (hX : X.Nodup) (hY : Y.Nodup) (hs : ∀ y ∈ Y, y ∈ X) (hl : X.length ≤ Y.length) : ∀ x ∈ X, x ∈ Y := by
  intro x hx
  apply Classical.byContradiction
  intro hn
  have h1 := nodup_sub_len Y (X.erase x) hY fun y hy => (List.mem_erase_of_ne fun e => hn (by rw [← e]; exact hy)).2 (hs y hy)
  rw [List.length_erase_of_mem hx] at h1
  have := List.length_pos_of_mem hx
  omega
theorem sym_count {X : List (List Int)} (h : basisB X = true) (k j : Nat) (hj : j ≤ 8) : (clsL (ordL (symM X k)) j).length = (clsL X j).length := by
  have hP := basis_perm h
  have hperm : ∀ z, z ∈ permsL j ↔ permB z = true ∧ z.length = j := fun z => perm_of_mem hj
  have hn : (permsL j).Nodup := permsI_nodup j j
  have hfn : ((permsL j).map fun z => symL z k).Nodup := nodup_map_inj _ _ hn fun a ha b hb e => sym_inj ((hperm a).1 ha).1 ((hperm b).1 hb).1 k e
  have hin : ∀ z ∈ permsL j, symL z k ∈ permsL j := fun z hz => (hperm _).2 ⟨perm_sym ((hperm z).1 hz).1 k, by rw [sym_len]; exact ((hperm z).1 hz).2⟩
  have honto := onto_of hn hfn (fun y hy => by obtain ⟨z, hz, rfl⟩ := List.mem_map.1 hy; exact hin z hz) (by rw [List.length_map]; exact Nat.le_refl _)
  unfold clsL
  have e : ((permsL j).filter (avoidB X)).length = (((permsL j).filter (avoidB X)).map fun z => symL z k).length := by rw [List.length_map]
  rw [e]
  have n1 : (((permsL j).filter (avoidB X)).map fun z => symL z k).Nodup := nodup_map_inj _ _ (hn.filter _) fun a ha b hb e => sym_inj ((hperm a).1 (List.mem_filter.1 ha).1).1 ((hperm b).1 (List.mem_filter.1 hb).1).1 k e
  have a1 := nodup_sub_len ((permsL j).filter (avoidB (ordL (symM X k)))) (((permsL j).filter (avoidB X)).map fun z => symL z k) (hn.filter _) (fun y hy => by
    obtain ⟨hy1, hy2⟩ := List.mem_filter.1 hy
    obtain ⟨z, hz, rfl⟩ := List.mem_map.1 (honto y hy1)
    rw [sym_avoid hP ((hperm z).1 hz).1] at hy2
    exact List.mem_map.2 ⟨z, List.mem_filter.2 ⟨hz, hy2⟩, rfl⟩)
  have a2 := nodup_sub_len _ ((permsL j).filter (avoidB (ordL (symM X k)))) n1 (fun y hy => by
    obtain ⟨z, hz, rfl⟩ := List.mem_map.1 hy
    obtain ⟨hz1, hz2⟩ := List.mem_filter.1 hz
    exact List.mem_filter.2 ⟨hin z hz1, by rw [sym_avoid hP ((hperm z).1 hz1).1]; exact hz2⟩)
  omega
/-! A rising and a falling one. -/
def esCk : Bool := (List.range 8).all fun u => (List.range 8).all fun d => decide (6 ≤ u * d) || (permsL (u * d + 1)).all fun z => hasB z (nums (u + 1)) || hasB z (nums (d + 1)).reverse
set_option maxRecDepth 100000 in
theorem esCk_ok : esCk = true := by decide +kernel
theorem finite_none {X : List (List Int)} {u d : Nat} (hu : nums (u + 1) ∈ X) (hd : (nums (d + 1)).reverse ∈ X) (hu8 : u < 8) (hd8 : d < 8) (h6 : u * d < 6) : clsL X (u * d + 1) = [] := by
  have h1 := List.all_eq_true.1 (List.all_eq_true.1 (show (List.range 8).all _ = true from esCk_ok) u (List.mem_range.2 hu8)) d (List.mem_range.2 hd8)
  rw [Bool.or_eq_true] at h1
  rcases h1 with h1 | h1
  · have := of_decide_eq_true h1; omega
  unfold clsL
  rw [List.filter_eq_nil_iff]
  intro z hz ha
  have h2 := List.all_eq_true.1 h1 z hz
  rw [avoid_iff] at ha
  rw [ha _ hu, ha _ hd] at h2
  cases h2
end Go.Proofs.YtodloeonlaljpaaGreatDoor

/- Patterns: the program's and the reference's outer functions (OccurrencesOf, CountPattern, HasPattern, WithoutPlace, LowersOf), hasList. -/
namespace Go.Proofs.YtodloeonlaljpaaGreatDoor
set_option maxRecDepth 100000
open Go Go.RowKit

theorem retL_nil {w w' : World} (hb : Below w.heap.size w w') : RetL w [] (.returned (.slice none 0 0)) w' :=
  ⟨none, 0, [], rfl, rfl, Own.nil_list _ _ _, hb⟩
def ooG (p q : List Int) : List (List Int) := if permB p = true ∧ permB q = true then occL p q else []
theorem RetL.after {w w1 w' : World} {L : List (List Int)} {e : Ending} (h : RetL w1 L e w') (hb : Below w.heap.size w w1) : RetL w L e w' := by
  obtain ⟨A, c, rs, rfl, hX, hO, hb2⟩ := h
  exact ⟨A, c, rs, rfl, hX, hO.wider hb.size (Nat.le_refl _), hb.trans (hb2.mono hb.size)⟩
theorem two_perms (p q : List Int) : (permB p = true ∧ permB q = true) ∨ (permB p = true ∧ permB q = false) ∨ permB p = false := by
  cases permB p <;> cases permB q <;> simp
/-- Does the pattern occur? -/
def hpG (p q : List Int) : Bool := permB p && permB q && hasB p q
theorem hp_count (p q : List Int) : decide (1 ≤ cpG p q) = hpG p q := by
  rcases two_perms p q with h | h | h
  · rw [cpG, if_pos h, hpG, h.1, h.2]
    unfold hasB
    cases occL p q with
    | nil => simp
    | cons a t => simp; omega
  · rw [cpG, if_neg (by simp [h.2]), hpG, h.2]; simp
  · rw [cpG, if_neg (by simp [h]), hpG, h]; simp
/-- The pattern that is left without a place. -/
def wpB (p : List Int) (x : Int) : Bool := permB p && decide (1 ≤ x ∧ x ≤ p.length)
def wpG (p : List Int) (x : Int) : List Int := if wpB p x = true then patL (cutAt p (x - 1).toNat) else []
theorem wpG_le (p : List Int) (x : Int) : (wpG p x).length ≤ p.length := by
  unfold wpG wpB
  split
  · rw [patL_length]; simp [cutAt]; omega
  · simp
def lowG (p : List Int) : List (List Int) := if permB p = true then lowL p else []
set_option maxHeartbeats 1000000 in
theorem lowersOf_any (A : Option Addr) (c : Nat) (p : List Int) (w : World) (h : In w A c p) :
    Calls Tryz.prog 26 #[.slice A p.length c] w (RetL w (lowG p)) := by
  rcases hpb : permB p with _ | _
  · have H1 := Lib.hid hpb
    have HG := Lib.hid (show lowG p = [] by rw [lowG, hpb]; rfl)
    clear hpb
    have hb0 := (Below.refl w.heap.size w).alloc (Nat.le_refl _) (.cells #[] 27)
    have hlit := Own.lit (lo := w.heap.size) w (Nat.le_refl _)
    go_enter Tryz.func26, Tryz.ntmps26
    go_wp2_with fail
    go_loopw [3, 4] (fun o i wr => o = .slice (some ⟨w.heap.size, 0, none⟩) 0 0 ∧ i = .int .i64 0 ∧ wr = w.alloc (.cells #[] 27)) (fun _ i _ => 1 - (intOf i).toNat)
    case atStart => exact ⟨rfl, rfl, rfl⟩
    case round =>
      obtain ⟨rfl, rfl, rfl⟩ := hrel
      rcases Nat.eq_zero_or_pos p.length with h0 | h0
      · obtain rfl := List.eq_nil_of_length_eq_zero h0
        go_wp2_with fail
        go_ret
        rw [HG.out]
        exact ⟨_, 0, [], rfl, rfl, hlit, hb0⟩
      · have l1 : (0 : Int) < (p.length : Int) := by omega
        have HC := Lib.hid (isPerm_sb A c p (w.alloc (.cells #[] 27)) false (h.next hb0) H1.out)
        go_wp2_with fail
        (with_reducible refine HC.out.mono ?_)
        rintro e w1 ⟨rfl, hd⟩
        go_wp2_with fail
        go_ret
        rw [HG.out]
        exact ⟨_, 0, [], rfl, rfl, (hlit.dr hd).wider (Nat.le_refl _) (by rw [hd.heap]; exact Nat.le_refl _), below_dr hb0 hd⟩
  · have := lowersOf_spec A c p w h hpb
    rwa [show lowG p = lowL p by rw [lowG, if_pos hpb]]
end Go.Proofs.YtodloeonlaljpaaGreatDoor

/- IsOccurrence, program and reference. Written by gen/genpt2.py. -/
namespace Go.Proofs.YtodloeonlaljpaaGreatDoor
set_option maxRecDepth 100000
open Go Go.RowKit

theorem iso_join {p q l : List Int} (h : joinTo (p.length + 1) l l.length = false) : isoB p q l = false := by rw [isoB, h]; simp
theorem iso_p {p q l : List Int} (h : permB p = false) : isoB p q l = false := by rw [isoB, h]; rfl
theorem iso_q {p q l : List Int} (h : permB q = false) : isoB p q l = false := by rw [isoB, h]; simp
theorem iso_yes {p q l : List Int} (hp : permB p = true) (hq : permB q = true) (h : joinTo (p.length + 1) l l.length = true) : isoB p q l = decide (patL (atL p l) = q) := by rw [isoB, hp, hq, h]; simp
end Go.Proofs.YtodloeonlaljpaaGreatDoor

/- PatternsIn, program and reference. -/
namespace Go.Proofs.YtodloeonlaljpaaGreatDoor
set_option maxRecDepth 100000
open Go Go.RowKit

def piB (p : List Int) (k : Int) : Bool := permB p && decide (0 ≤ k ∧ k ≤ p.length)
def piG (p : List Int) (k : Int) : List (List Int) := if piB p k = true then patsL p k.toNat else []
theorem bits_len (n s : Nat) : (bitsL n s).length ≤ n := by
  unfold bitsL
  rw [List.length_map]
  exact Nat.le_trans (List.length_filter_le _ _) (by simp)
theorem patsTo_len (p : List Int) (k s : Nat) : ∀ q ∈ patsTo p k s, q.length ≤ p.length := fun q h => by
  unfold patsTo at h
  rw [ordL_mem] at h
  obtain ⟨t, _, rfl⟩ := List.mem_map.1 h
  rw [patL_length, atL_length]
  exact bits_len _ _
theorem atL_bits {p : List Int} {j s : Nat} (h : j < p.length) : atL p (bitsL (j + 1) s) = atL p (bitsL j s) ++ (if s.testBit j = true then [p[j]] else []) := by
  rw [bitsL_succ]
  unfold atL
  rw [List.map_append]
  congr 1
  split
  · simp [h]
  · rfl
theorem bit_test (s j : Nat) (hs : s < 9223372036854775808) : (bits BinOp.and IntKind.i64 ((s : Int) / 2 ^ j) 1 == 1) = s.testBit j := by
  have hd : s / 2 ^ j ≤ s := Nat.div_le_self _ _
  have e : bits BinOp.and IntKind.i64 ((s : Int) / 2 ^ j) 1 = ((s / 2 ^ j &&& 1 : Nat) : Int) := by
    rw [show ((s : Int) / 2 ^ j) = ((s / 2 ^ j : Nat) : Int) by push_cast; rfl]
    have h1 : (BitVec.ofInt 64 ((s / 2 ^ j : Nat) : Int)).toNat = s / 2 ^ j := by
      rw [BitVec.ofInt_natCast, BitVec.toNat_ofNat]; exact Nat.mod_eq_of_lt (by omega)
    have h2 : (BitVec.ofInt 64 (1 : Int)).toNat = 1 := by decide
    show IntKind.i64.wrap ((BitVec.ofInt 64 ((s / 2 ^ j : Nat) : Int) &&& BitVec.ofInt 64 (1 : Int)).toNat : Int) = _
    rw [BitVec.toNat_and, h1, h2]
    have := Nat.and_le_right (n := s / 2 ^ j) (m := 1)
    exact IntWalk.i64_in _ (by omega)
  rw [e, Nat.and_one_is_mod, Nat.testBit_eq_decide_div_mod_eq]
  by_cases h : s / 2 ^ j % 2 = 1
  · rw [h]; simp
  · rw [show s / 2 ^ j % 2 = 0 by omega]; simp
theorem ascI_small : ∀ n : Fin 9, ∀ k : Fin 9, (ascI n.val k.val).length ≤ 70 := by decide
end Go.Proofs.YtodloeonlaljpaaGreatDoor

/- Plain maths of FnPatterns: sizes, and what the law says. -/
namespace Go.Proofs.YtodloeonlaljpaaGreatDoor
set_option maxRecDepth 100000
open Go Go.RowKit

theorem oo_row {p q : List Int} {l : List Int} (h : l ∈ ooG p q) : isoB p q l = true ∧ l.length ≤ 8 := by
  unfold ooG at h
  split at h
  · rename_i hh
    refine ⟨occ_iso hh.1 hh.2 h, ?_⟩
    rw [occ_eq hh.1 hh.2] at h
    have := (ascI_mem (List.mem_filter.1 h).1).1
    have := (permB_true hh.2).1
    omega
  · cases h
theorem oo_len (p q : List Int) : (ooG p q).length ≤ 70 := by
  unfold ooG
  split
  · rename_i hh
    rw [occ_eq hh.1 hh.2]
    have h1 := (permB_true hh.1).1
    have h2 := (permB_true hh.2).1
    exact Nat.le_trans (List.length_filter_le _ _) (ascI_small ⟨p.length, by omega⟩ ⟨q.length, by omega⟩)
  · simp
theorem pi_row {p : List Int} {k : Int} {l : List Int} (h : l ∈ piG p k) : hpG p l = true ∧ l.length ≤ 8 := by
  unfold piG at h
  split at h
  · rename_i hh
    have hp : permB p = true := by
      unfold piB at hh
      simp only [Bool.and_eq_true] at hh
      exact hh.1
    have := pats_has hp h
    exact ⟨by rw [hpG, hp, this.1, this.2]; rfl, (permB_true this.1).1⟩
  · cases h
theorem pi_len (p : List Int) (k : Int) : (piG p k).length ≤ 70 := by
  unfold piG
  split
  · rename_i hh
    unfold piB at hh
    simp only [Bool.and_eq_true, decide_eq_true_eq] at hh
    have h1 := (permB_true hh.1).1
    unfold patsL patsM
    refine Nat.le_trans (ordL_len _) ?_
    rw [List.length_map]
    exact ascI_small ⟨p.length, by omega⟩ ⟨k.toNat, by omega⟩
  · simp
theorem low_row {p : List Int} {l : List Int} (h : l ∈ lowG p) : l.length ≤ 8 := by
  unfold lowG at h
  split at h
  · rename_i hh
    unfold lowL at h
    rw [ordL_mem] at h
    have := lowM_len (Nat.le_refl _) l h
    have := (permB_true hh).1
    omega
  · cases h
theorem low_len (p : List Int) : (lowG p).length ≤ 8 := by
  unfold lowG
  split
  · rename_i hh
    unfold lowL
    have := ordL_len (lowM p p.length)
    rw [lowM_length] at this
    have := (permB_true hh).1
    omega
  · simp
theorem small_rows {rs : List Row} {X : List (List Int)} (hX : rs.map Row.xs = X) (hl : X.length ≤ 70) (hr : ∀ l ∈ X, l.length ≤ 8) : rs.length + sizeR rs ≤ 1048576 := by
  have h1 := sizeX_of (X := X) (m := 8) hr
  have h2 : rs.length = X.length := by rw [← hX, List.length_map]
  rw [sizeR_eq, hX]
  omega
theorem cp_oo {p q : List Int} (hp : permB p = true) (hq : permB q = true) : cpG p q = ((ooG p q).length : Int) := by rw [cpG, if_pos ⟨hp, hq⟩, ooG, if_pos ⟨hp, hq⟩]
theorem cp_inv {p q : List Int} (hp : permB p = true) (hq : permB q = true) : cpG (invG1 p) (invG1 q) = ((ooG p q).length : Int) := by
  rw [invG1, if_pos hp, invG1, if_pos hq, cp_oo (perm_inv hp) (perm_inv hq), ooG, if_pos ⟨perm_inv hp, perm_inv hq⟩, ooG, if_pos ⟨hp, hq⟩, occ_eq (perm_inv hp) (perm_inv hq), occ_eq hp hq, occ_count_inverse hp hq]
theorem cp_rev {p q : List Int} (hp : permB p = true) (hq : permB q = true) : cpG (revG p) (revG q) = ((ooG p q).length : Int) := by
  rw [revG, if_pos hp, revG, if_pos hq, cp_oo (perm_reverse hp) (perm_reverse hq), ooG, if_pos ⟨perm_reverse hp, perm_reverse hq⟩, ooG, if_pos ⟨hp, hq⟩, occ_eq (perm_reverse hp) (perm_reverse hq), occ_eq hp hq, occ_count_reverse hp hq]
theorem invG1_le (p : List Int) : (invG1 p).length ≤ p.length := by
  unfold invG1
  split
  · exact Nat.le_of_eq (invL_length p)
  · simp
theorem wp_facts {s : List Int} {x : Int} (h : wpB s x = true) : hpG s (wpG s x) = true ∧ wpG s x ∈ lowG s := by
  have h' := h
  unfold wpB at h'
  simp only [Bool.and_eq_true, decide_eq_true_eq] at h'
  obtain ⟨hp, h1, h2⟩ := h'
  have hi : (x - 1).toNat < s.length := by omega
  have hc := cut_occ hp hi
  rw [wpG, if_pos h]
  refine ⟨by rw [hpG, hp, hc.1, hc.2]; rfl, ?_⟩
  rw [lowG, if_pos hp]
  unfold lowL lowM
  rw [ordL_mem]
  exact List.mem_map.2 ⟨_, List.mem_range.2 hi, rfl⟩
end Go.Proofs.YtodloeonlaljpaaGreatDoor

/- MeetClasses, program and reference; slices.Concat of two lists of rows. -/
namespace Go.Proofs.YtodloeonlaljpaaGreatDoor
set_option maxRecDepth 100000
open Go Go.RowKit

def meB (X Y : List (List Int)) : Bool := basisB X && basisB Y && mkB (X ++ Y)
def meG (X Y : List (List Int)) : List (List Int) := if basisB X && basisB Y then mkG (X ++ Y) else []
theorem meG_le (X Y : List (List Int)) : (meG X Y).length + sizeX (meG X Y) ≤ 1048576 := by
  unfold meG
  split
  · exact mkG_le _
  · simp [sizeX]
theorem inL_of {w : World} {base c : Nat} {A : Option Addr} {rs : List Row} (hl : rs.length + sizeR rs ≤ 1048576) (hr : ∀ r ∈ rs, In w r.A r.c r.xs) (ho : w.ownsRow base 27 1 (.slice A rs.length c) rs.length (rs.map Row.v)) : InL w A c rs :=
  ⟨hl, ⟨fun r h => (hr r h).cap, fun r h => (hr r h).rd, fun o h => by obtain rfl := List.mem_singleton.1 h; simpa using (own_caps ho).1, fun o h => by
    obtain rfl := List.mem_singleton.1 h
    have h1 : w.ownsRow base 27 1 (.slice A (rs.map Row.v).length c) (rs.map Row.v).length ((rs.map Row.v).map id) := by simpa using ho
    exact Rd.of_own h1⟩⟩
theorem sizeR_app (rs qs : List Row) : sizeR (rs ++ qs) = sizeR rs + sizeR qs := by simp [sizeR]
theorem basis_sizeR {rs : List Row} (h : basisB (rs.map Row.xs) = true) : rs.length + sizeR rs ≤ 72 := by
  have h1 := basis_len h
  rw [List.length_map] at h1
  have h2 : sizeR rs ≤ rs.length * 8 := by
    have hp := basis_perm h
    clear h h1
    induction rs with
    | nil => simp [sizeR]
    | cons a t ih =>
      have h1 := (permB_true (hp a.xs (by simp))).1
      have h2 := ih (fun q hq => hp q (by simp only [List.map_cons, List.mem_cons]; exact .inr hq))
      simp only [sizeR, List.map_cons, List.sum_cons, List.length_cons, Nat.add_mul, Nat.one_mul] at h2 ⊢
      omega
  omega
end Go.Proofs.YtodloeonlaljpaaGreatDoor

/- The draws of FnClasses and FnMeets: bases, and bases with one list more. -/
namespace Go.Proofs.YtodloeonlaljpaaGreatDoor
set_option maxRecDepth 100000
open Go Go.RowKit

theorem Own.drawn {w w' : World} {lo hi q c : Nat} {rs : List Row} {os : List Outer} {A : Option Addr} {bs : List Int} (h : Own w lo hi rs os) (k : Drawn w w' q A c bs) (hq : q < lo) : Own w' lo hi rs os := h.span k.span (.inr hq)
/-- A list of rows of the call's own was drawn. -/
def RetLC (w : World) (q : Nat) (A : Option Addr) (c : Nat) (bs : List Int) (ok : List (List Int) → Prop) (en : Ending) (w' : World) : Prop :=
  ∃ D k rs, en = .returned (.slice D rs.length k) ∧ ok (rs.map Row.xs) ∧ Own w' w.heap.size w'.heap.size rs [⟨D, k, rs.map Row.v⟩] ∧ Drawn w w' q A c bs
theorem sieve_length (L : List (List Int)) : (sieve L).length ≤ L.length := by
  have : ∀ (L acc : List (List Int)), (L.foldl (fun acc p => if avoidB acc p = true then acc ++ [p] else acc) acc).length ≤ acc.length + L.length := by
    intro L
    induction L with
    | nil => intro acc; simp
    | cons a t ih =>
      intro acc
      rw [List.foldl_cons, List.length_cons]
      have h1 := ih (if avoidB acc a = true then acc ++ [a] else acc)
      have h2 : (if avoidB acc a = true then acc ++ [a] else acc).length ≤ acc.length + 1 := by split <;> simp
      omega
  simpa [sieve] using this L []
theorem mkG_length (X : List (List Int)) : (mkG X).length ≤ X.length := by
  unfold mkG
  split
  · exact Nat.le_trans (sieve_length _) (ordL_len X)
  · simp
theorem mkG_sub (X : List (List Int)) : ∀ q ∈ mkG X, q ∈ X := fun q hq => by
  unfold mkG at hq
  split at hq
  · exact (ordL_mem X q).1 (sieve_sub _ q hq)
  · cases hq
theorem few_size {X : List (List Int)} {n m : Nat} (hl : X.length ≤ n) (h : ∀ q ∈ X, q.length ≤ m) : X.length + sizeX X ≤ n + n * m := by
  have h1 : sizeX X ≤ X.length * m := by
    clear hl
    induction X with
    | nil => simp [sizeX]
    | cons a t ih =>
      have h2 := h a (by simp)
      have h3 := ih fun q hq => h q (by simp [hq])
      have h4 : sizeX (a :: t) = a.length + sizeX t := by simp [sizeX]
      rw [h4, List.length_cons, Nat.add_mul, Nat.one_mul]
      omega
  have := Nat.mul_le_mul_right m hl
  omega
theorem few_inL {w : World} {lo hi : Nat} {A : Option Addr} {c : Nat} {rs : List Row} (h : Own w lo hi rs [⟨A, c, rs.map Row.v⟩]) (hh : hi ≤ w.heap.size) (hs : (rs.map Row.xs).length + sizeX (rs.map Row.xs) ≤ 1048576) : InL w A c rs :=
  ⟨by rw [sizeR_eq]; rw [List.length_map] at hs; exact hs, h.read.more hh⟩
set_option maxHeartbeats 2000000 in
theorem l12Draw_any (w : World) (q : Nat) (A : Option Addr) (c : Nat) (bs : List Int) (hc : Cur w q A c bs) :
    Calls Tryz.prog 33 #[.pointer (some ⟨q, 0, none⟩)] w (RetLC w q A c bs fun X => X.length ≤ 3 ∧ ∀ p ∈ X, p.length ≤ 4) := by
  obtain ⟨j0, hj, hy0, hy1, hy2⟩ := info_parts infoL
  have hq := hc.lt
  have hbA : Below w.heap.size w ((w.alloc (.cells #[] 27)).alloc (Obj.cells #[Value.int .i64 0, Value.int .i64 1, Value.int .i64 1, Value.int .i64 2, Value.int .i64 2, Value.int .i64 3] 3)) := ((Below.refl _ _).alloc (Nat.le_refl _) _).alloc (by simp) _
  have hO0 := (Own.lit (lo := w.heap.size) w (Nat.le_refl _)).below ((Below.refl _ _).alloc (Nat.le_refl _) (Obj.cells #[Value.int .i64 0, Value.int .i64 1, Value.int .i64 1, Value.int .i64 2, Value.int .i64 2, Value.int .i64 3] 3))
  have kA := (Drawn.refl hc).next hbA hq
  have HP := Lib.hid (l1PickInt_any _ q A c bs (w.heap.size + 1) 6 6 [0, 1, 1, 2, 2, 3] rfl (by decide) (by decide) (by omega) (by simp) (fun j hj => (obj_cell (by have := obj_new (w.alloc (.cells #[] 27)) (Obj.cells #[Value.int .i64 0, Value.int .i64 1, Value.int .i64 1, Value.int .i64 2, Value.int .i64 2, Value.int .i64 3] 3); simpa using this)).trans (by
    have hj : j < 6 := hj
    rcases j with _ | _ | _ | _ | _ | _ | j
    all_goals first | rfl | omega)) kA.cur)
  clear hbA
  go_enter Tryz.func33, Tryz.ntmps33
  go_wp2_with fail
  (with_reducible refine HP.out.mono ?_)
  rintro e w1 ⟨x, rfl, hx, k1⟩
  have hx8 : 0 ≤ x ∧ x ≤ 3 := by simp at hx; omega
  obtain ⟨n, rfl⟩ := Int.eq_ofNat_of_zero_le hx8.1
  have hn3 : n ≤ 3 := by omega
  have hO1 := (hO0.drawn k1 hq).wider (hi' := w1.heap.size) (Nat.le_refl _) (by have := k1.span.size; simp at this ⊢; omega)
  have k1 := kA.trans k1
  clear HP hx hO0 kA
  go_wp2_with fail
  go_loopw [3, 5] (fun v i wr => ∃ (k : Nat) (A1 : Option Addr) (c1 : Nat) (ds : List Row), k ≤ n ∧ i = .int .i64 k ∧ v = .slice A1 ds.length c1 ∧ ds.length = k ∧ Hid (∀ p ∈ ds.map Row.xs, p.length ≤ 4) ∧ Own wr w.heap.size wr.heap.size ds [⟨A1, c1, ds.map Row.v⟩] ∧ Drawn w wr q A c bs) (fun _ i _ => n - (intOf i).toNat)
  case atStart => exact ⟨0, _, _, [], Nat.zero_le _, rfl, rfl, rfl, Lib.hid (fun p hp => (List.not_mem_nil hp).elim), hO1, k1⟩
  case round =>
    clear hO1 k1
    obtain ⟨k, A1, c1, ds, hk, rfl, rfl, hdl, HR, hO, k2⟩ := hrel
    have hsz := k2.span.size
    have hq2 := k2.cur.lt
    rcases Nat.lt_or_ge k n with hlt | hge
    · have hbL : Below wr.heap.size wr (wr.alloc (Obj.cells #[Value.int .i64 2, Value.int .i64 3, Value.int .i64 3, Value.int .i64 3, Value.int .i64 4] 3)) := (Below.refl _ _).alloc (Nat.le_refl _) _
      have hO2 := hO.below hbL
      have k3 := k2.next (hbL.mono hsz) hq
      have HP := Lib.hid (l1PickInt_any _ q A c bs wr.heap.size 5 5 [2, 3, 3, 3, 4] rfl (by decide) (by decide) (by omega) (by simp) (fun j hj => (obj_cell (obj_new wr _)).trans (by
        have hj : j < 5 := hj
        rcases j with _ | _ | _ | _ | _ | j
        all_goals first | rfl | omega)) k3.cur)
      have HDL := Lib.hid hdl
      clear hO k2 hbL hdl
      go_wp2_with fail
      (with_reducible refine HP.out.mono ?_)
      rintro e w2 ⟨x, rfl, hx, k4⟩
      have hx8 : 2 ≤ x ∧ x ≤ 4 := by simp at hx; omega
      obtain ⟨m, rfl⟩ := Int.eq_ofNat_of_zero_le (show 0 ≤ x by omega)
      have hm4 : m ≤ 4 := by omega
      have hO3 := (hO2.drawn k4 hq).wider (hi' := w2.heap.size) (Nat.le_refl _) (by have := k4.span.size; simp at this; omega)
      have k5 := k3.trans k4
      have HD := Lib.hid (l2Draw_any w2 q A c bs m (by omega) k5.cur)
      have hs2 := k5.span.size
      clear HP hx k4 k3 hO2
      go_wp2_with fail
      (with_reducible refine HD.out.mono ?_)
      rintro e w3 ⟨D, dk, d, rfl, hp, hod, k6⟩
      have hdm : d.length = m := by rw [hp.length_eq, upToL_length]
      have k7 := k5.trans k6
      have hs3 := k7.span.size
      have hO6 := (hO3.drawn k6 hq).add (r := ⟨D, dk, d⟩) hod k6.span.size hs2
      have hown2 := hO6.outN (n := ds.length) (by simp)
      have hol := hO6.olim (n := ds.length) (by simp)
      have hds : ds.length ≤ 3 := by have := HDL.out; omega
      have HR2 := Lib.hid (show ∀ p ∈ (ds ++ [(⟨D, dk, d⟩ : Row)]).map Row.xs, p.length ≤ 4 from fun p hp => by
        rw [List.map_append, List.mem_append] at hp
        rcases hp with hp | hp
        · exact HR.out p hp
        · rw [List.map_singleton, List.mem_singleton] at hp
          have hpe : p = d := hp
          rw [hpe]
          omega)
      clear HD hp hdm hO3 hod k6 k5 hs2
      go_wp2_with (at_builtin; refine wpList_append_own _ rfl _ _ 24 rfl (w.heap.size) 27 j0 (.slice none 0 0) 1 24 Tryz.underlying24 hj hy0 hy1 hy2 rfl (by decide) _ _ _ rfl (World.ownsRow.alloc hown2 _) ⟨w3.heap.size, 0, none⟩ 1 1 [Value.slice D d.length dk] rfl rfl (cell_one_at _ _ (by simp)) (by intro u hu; simp at hu; subst hu; rfl) (by unfold maxLen; omega) (by omega) (by simp; omega) ?_; intro v9 w9 hown9 hgrow9 _)
      obtain ⟨A5, c5, rfl, hO7, hg3⟩ := hO6.grow (Nat.le_refl _) (by simp) hown9 hgrow9
      have k8 := k7.next ((Below.refl w.heap.size w3).grown hg3 hs3 fun g hg => (hol g hg).1) hq
      have K := Lib.hid (And.intro hO7 k8)
      clear hO7 k8 hown9 hgrow9 hg3 hO6 hown2 hol k7
      go_wp2_with fail
      go_roundw
      case rel => exact ⟨k + 1, A5, c5, ds ++ [⟨D, dk, d⟩], by omega, by go_num, by rw [List.length_append]; rfl, by rw [List.length_append, HDL.out]; rfl, HR2, by rw [List.map_append]; exact K.out.1, K.out.2⟩
      case measure => simp [intOf]; omega
    · obtain rfl : k = n := by omega
      have h4 : ∀ p ∈ ds.map Row.xs, p.length ≤ 4 := HR.out
      have hdl3 : (ds.map Row.xs).length ≤ 3 := by rw [List.length_map]; omega
      clear hdl
      have hin : InL wr A1 c1 ds := few_inL hO (Nat.le_refl _) (by have := few_size hdl3 h4; omega)
      have HM := Lib.hid (makeBasis_spec A1 c1 ds wr hin)
      have HF := Lib.hid (show (mkG (ds.map Row.xs)).length ≤ 3 ∧ ∀ p ∈ mkG (ds.map Row.xs), p.length ≤ 4 from ⟨Nat.le_trans (mkG_length _) hdl3, fun p hp => h4 p (mkG_sub _ p hp)⟩)
      clear h4 hdl3 hin hO
      go_wp2_with fail
      (with_reducible refine HM.out.mono ?_)
      rintro e w2 ⟨A5, c5, rs, rfl, hX, hO5, hb5⟩
      have k3 := k2.next (hb5.mono hsz) hq
      go_wp2_with fail
      go_ret
      exact ⟨A5, c5, rs, rfl, by rw [hX]; exact HF.out, hO5.wider hsz (Nat.le_refl _), k3⟩
set_option maxHeartbeats 2000000 in
theorem l12Bent_any (w : World) (q : Nat) (A : Option Addr) (c : Nat) (bs : List Int) (hc : Cur w q A c bs) :
    Calls Tryz.prog 47 #[.pointer (some ⟨q, 0, none⟩)] w (RetLC w q A c bs fun X => X.length ≤ 4 ∧ ∀ p ∈ X, p.length ≤ 9) := by
  obtain ⟨j0, hj, hy0, hy1, hy2⟩ := info_parts infoL
  have hq := hc.lt
  have HD := Lib.hid (l12Draw_any w q A c bs hc)
  go_enter Tryz.func47, Tryz.ntmps47
  go_wp2_with fail
  (with_reducible refine HD.out.mono ?_)
  rintro e w1 ⟨A1, c1, ds, rfl, ⟨hl3, h4⟩, hO, k1⟩
  have hsz := k1.span.size
  have HO := Lib.hid (l1Once_any w1 q A c bs 10 (by omega) k1.cur)
  have HR := Lib.hid h4
  have hdl : ds.length ≤ 3 := by simpa using hl3
  clear HD h4 hl3
  go_wp2_with fail
  (with_reducible refine HO.out.mono ?_)
  rintro e w2 ⟨b, rfl, k2⟩
  have hO2 := (hO.drawn k2 hq).wider (hi' := w2.heap.size) (Nat.le_refl _) k2.span.size
  have k2 := k1.trans k2
  have hs2 := k2.span.size
  clear HO hO k1
  rcases b with _ | _
  · go_wp2_with fail
    go_ret
    exact ⟨A1, c1, ds, rfl, ⟨by rw [List.length_map]; omega, fun p hp => by have := HR.out p hp; omega⟩, hO2, k2⟩
  · have HD := Lib.hid (l2Bent_any w2 q A c bs k2.cur)
    go_wp2_with fail
    (with_reducible refine HD.out.mono ?_)
    rintro e w3 ⟨D, dk, d, rfl, hp9, hod, k6⟩
    have k7 := k2.trans k6
    have hs3 := k7.span.size
    have hO6 := (hO2.drawn k6 hq).add (r := ⟨D, dk, d⟩) hod k6.span.size hs2
    have hown2 := hO6.outN (n := ds.length) (by simp)
    have hol := hO6.olim (n := ds.length) (by simp)
    have HR2 := Lib.hid (show ((ds ++ [(⟨D, dk, d⟩ : Row)]).map Row.xs).length ≤ 4 ∧ ∀ p ∈ (ds ++ [(⟨D, dk, d⟩ : Row)]).map Row.xs, p.length ≤ 9 from ⟨by rw [List.length_map, List.length_append]; simp; omega, fun p hp => by
      rw [List.map_append, List.mem_append] at hp
      rcases hp with hp | hp
      · have := HR.out p hp; omega
      · rw [List.map_singleton, List.mem_singleton] at hp
        subst hp
        exact hp9⟩)
    clear HD hp9 hO2 hod k6 k2 hs2
    go_wp2_with (at_builtin; refine wpList_append_own _ rfl _ _ 24 rfl (w.heap.size) 27 j0 (.slice none 0 0) 1 24 Tryz.underlying24 hj hy0 hy1 hy2 rfl (by decide) _ _ _ rfl (World.ownsRow.alloc hown2 _) ⟨w3.heap.size, 0, none⟩ 1 1 [Value.slice D d.length dk] rfl rfl (cell_one_at _ _ (by simp)) (by intro u hu; simp at hu; subst hu; rfl) (by unfold maxLen; omega) (by omega) (by simp; omega) ?_; intro v9 w9 hown9 hgrow9 _)
    obtain ⟨A5, c5, rfl, hO7, hg3⟩ := hO6.grow (Nat.le_refl _) (by simp) hown9 hgrow9
    have k8 := k7.next ((Below.refl w.heap.size w3).grown hg3 hs3 fun g hg => (hol g hg).1) hq
    have K := Lib.hid (And.intro hO7 k8)
    clear hO7 k8 hown9 hgrow9 hg3 hO6 hown2 hol k7
    go_wp2_with fail
    go_ret
    exact ⟨A5, c5, ds ++ [⟨D, dk, d⟩], by rw [List.length_append]; rfl, HR2.out, by rw [List.map_append]; exact K.out.1, K.out.2⟩
/-- Two lists of rows were drawn. -/
def RetLL (w : World) (en : Ending) (w' : World) : Prop :=
  ∃ (D : Option Addr) (k : Nat) (ps : List Row) (E : Option Addr) (m : Nat) (qs : List Row), en = .returned (.tuple #[.slice D ps.length k, .slice E qs.length m]) ∧ InL w' D k ps ∧ InL w' E m qs ∧ Below w.heap.size w w'
/-- Two lists of rows and a number were drawn. -/
def RetLLX (w : World) (lo hi : Int) (en : Ending) (w' : World) : Prop :=
  ∃ (D : Option Addr) (k : Nat) (ps : List Row) (E : Option Addr) (m : Nat) (qs : List Row) (x : Int), en = .returned (.tuple #[.slice D ps.length k, .slice E qs.length m, .int .i64 x]) ∧ lo ≤ x ∧ x ≤ hi ∧ InL w' D k ps ∧ InL w' E m qs ∧ Below w.heap.size w w'
end Go.Proofs.YtodloeonlaljpaaGreatDoor

/- More draws of FnClasses and FnMeets. -/
namespace Go.Proofs.YtodloeonlaljpaaGreatDoor
set_option maxRecDepth 100000
open Go Go.RowKit

/-- A list of rows and a number were drawn. -/
def RetLX (w : World) (lo hi : Int) (en : Ending) (w' : World) : Prop :=
  ∃ (D : Option Addr) (k : Nat) (ps : List Row) (x : Int), en = .returned (.tuple #[.slice D ps.length k, .int .i64 x]) ∧ lo ≤ x ∧ x ≤ hi ∧ InL w' D k ps ∧ Below w.heap.size w w'
/-- A list of rows was drawn. -/
def RetL1 (w : World) (en : Ending) (w' : World) : Prop :=
  ∃ (D : Option Addr) (k : Nat) (ps : List Row), en = .returned (.slice D ps.length k) ∧ InL w' D k ps ∧ Below w.heap.size w w'
set_option maxHeartbeats 1000000 in
theorem l12Case_any (A : Option Addr) (c : Nat) (bs : List Int) (w : World) (h : InY w A c bs) :
    Calls Tryz.prog 28 #[.slice A bs.length c] w (RetLX w (-1) 7) := by
  have HC := Lib.hid (l1New_any A c bs w h.len h.rd)
  go_enter Tryz.func28, Tryz.ntmps28
  go_wp2_with fail
  (with_reducible refine HC.out.mono ?_)
  rintro e w1 ⟨q, rfl, hq, hc, hb⟩
  have hq1 := hc.lt
  have HD := Lib.hid (l12Bent_any w1 q A c bs hc)
  clear HC
  go_wp2_with fail
  (with_reducible refine HD.out.mono ?_)
  rintro e w2 ⟨P, pk, ps, rfl, ⟨hp4, hp9⟩, hO1, k1⟩
  have HP := Lib.hid (show (ps.map Row.xs).length + sizeX (ps.map Row.xs) ≤ 1048576 by have := few_size hp4 hp9; omega)
  have hs1 := k1.span.size
  have hbo := (Below.refl w2.heap.size w2).alloc (Nat.le_refl _) (Obj.cells #[Value.int .i64 0, Value.int .i64 1, Value.int .i64 2, Value.int .i64 3, Value.int .i64 4, Value.int .i64 5, Value.int .i64 4, Value.int .i64 5, Value.int .i64 7, Value.int .i64 (-1)] 3)
  have k3 := k1.next (hbo.mono hs1) hq1
  have hO1 := hO1.below hbo
  have HQ := Lib.hid (l1PickInt_any _ q A c bs w2.heap.size 10 10 [0, 1, 2, 3, 4, 5, 4, 5, 7, -1] rfl (by decide) (by decide) (by omega) (by simp) (fun j hj => (obj_cell (obj_new w2 _)).trans (by
    have hj : j < 10 := hj
    rcases j with _ | _ | _ | _ | _ | _ | _ | _ | _ | _ | j
    all_goals first | rfl | omega)) k3.cur)
  clear HD hp4 hp9 hbo
  go_wp2_with fail
  (with_reducible refine HQ.out.mono ?_)
  rintro e w3 ⟨x, rfl, hx, k4⟩
  have hx7 : -1 ≤ x ∧ x ≤ 7 := by simp at hx; omega
  have ip := few_inL (hO1.drawn k4 hq1) (by have := k4.span.size; simp at this; omega) HP.out
  have hb4 := hb.trans ((k3.trans k4).below hq hb.size)
  clear hx hO1
  go_wp2_with fail
  go_ret2
  exact ⟨P, pk, ps, x, rfl, hx7.1, hx7.2, ip, hb4⟩
set_option maxHeartbeats 800000 in
theorem drawClassCounts (A : Option Addr) (c : Nat) (bs : List Int) (w : World) (h : InY w A c bs) :
    Calls Tryz.prog 5 #[.slice A bs.length c] w (RetLX w (-1) 7) := by
  have HC := Lib.hid (l12Case_any A c bs w h)
  go_enter Tryz.func5, Tryz.ntmps5
  go_wp2_with fail
  (with_reducible refine HC.out.mono ?_)
  rintro e w1 ⟨D, k, ps, x, rfl, h1, h2, hp, hb⟩
  go_wp2_with fail
  go_ret2
  exact ⟨D, k, ps, x, rfl, h1, h2, hp, hb⟩
set_option maxHeartbeats 800000 in
theorem drawInClass (A : Option Addr) (c : Nat) (bs : List Int) (w : World) (h : InY w A c bs) :
    Calls Tryz.prog 13 #[.slice A bs.length c] w (fun en w' => ∃ (D : Option Addr) (k : Nat) (ps : List Row) (E : Option Addr) (m : Nat) (p : List Int), en = .returned (.tuple #[.slice D ps.length k, .slice E p.length m]) ∧ InL w' D k ps ∧ In w' E m p ∧ p.length ≤ 9 ∧ Below w.heap.size w w') := by
  have HC := Lib.hid (l1New_any A c bs w h.len h.rd)
  go_enter Tryz.func13, Tryz.ntmps13
  go_wp2_with fail
  (with_reducible refine HC.out.mono ?_)
  rintro e w1 ⟨q, rfl, hq, hc, hb⟩
  have hq1 := hc.lt
  have HD := Lib.hid (l12Bent_any w1 q A c bs hc)
  clear HC
  go_wp2_with fail
  (with_reducible refine HD.out.mono ?_)
  rintro e w2 ⟨P, pk, ps, rfl, ⟨hp4, hp9⟩, hO1, k1⟩
  have HP := Lib.hid (show (ps.map Row.xs).length + sizeX (ps.map Row.xs) ≤ 1048576 by have := few_size hp4 hp9; omega)
  have HO := Lib.hid (l2Bent_any w2 q A c bs k1.cur)
  clear HD hp4 hp9
  go_wp2_with fail
  (with_reducible refine HO.out.mono ?_)
  rintro e w3 ⟨E, m, p, rfl, hp9, ho, k2⟩
  have ip := few_inL (hO1.drawn k2 hq1) k2.span.size HP.out
  have hb4 := hb.trans ((k1.trans k2).below hq hb.size)
  go_wp2_with fail
  go_ret2
  exact ⟨P, pk, ps, E, m, p, rfl, ip, In.of_own ho (by omega), hp9, hb4⟩
end Go.Proofs.YtodloeonlaljpaaGreatDoor

/- The text that is drawn for FnClasses. -/
namespace Go.Proofs.YtodloeonlaljpaaGreatDoor
set_option maxRecDepth 100000
open Go Go.RowKit

set_option maxHeartbeats 2000000 in
theorem drawParseBasis (A : Option Addr) (c : Nat) (bs : List Int) (w : World) (h : InY w A c bs) :
    Calls Tryz.prog 7 #[.slice A bs.length c] w (fun en w' => ∃ t : ByteArray, en = .returned (.string t) ∧ t.size ≤ 100 ∧ Below w.heap.size w w') := by
  have HC := Lib.hid (l1New_any A c bs w h.len h.rd)
  go_enter Tryz.func7, Tryz.ntmps7
  go_wp2_with fail
  (with_reducible refine HC.out.mono ?_)
  rintro e w1 ⟨q, rfl, hq, hc, hb⟩
  have hq1 := hc.lt
  have HE := Lib.hid (l12Draw_any w1 q A c bs hc)
  clear HC
  go_wp2_with fail
  (with_reducible refine HE.out.mono ?_)
  rintro e w2 ⟨P, pk, ps, rfl, ⟨hp4, hp9⟩, hO1, k1⟩
  have hx := few_inL hO1 (Nat.le_refl _) (by have := few_size hp4 hp9; omega)
  have HT := Lib.hid (basisText_spec P pk ps w2 hx)
  obtain ⟨s, hs⟩ : ∃ s, s = btxt (ps.map Row.xs) := ⟨_, rfl⟩
  have hsz : s.size ≤ 50 := by
    rw [hs]
    unfold btxt
    split
    · have h1 := words_join_le (ps.map Row.xs)
      show (Lib.join ((wordsT (ps.map Row.xs)).map (·.data.toList)) [32]).toArray.size ≤ 50
      simp only [List.size_toArray]
      omega
    · rw [bs_size]; simp
  rw [← hs] at HT
  clear HE hp4 hp9 hO1 hx hs
  go_wp2_with fail
  (with_reducible refine HT.out.mono ?_)
  rintro e w3 ⟨rfl, hb3⟩
  have hs12 := k1.span.size
  have hs23 := hb3.size
  have hbo := (Below.refl w3.heap.size w3).alloc (Nat.le_refl _) (Obj.cells #[Value.string ⟨#[32]⟩, Value.string ⟨#[49]⟩, Value.string ⟨#[50]⟩, Value.string ⟨#[51]⟩, Value.string ⟨#[45]⟩] 9)
  have k3 := (k1.next (hb3.mono hs12) hq1).next (hbo.mono (by omega)) hq1
  have HP := Lib.hid (l1Turned_any _ q A c bs s (by omega) w3.heap.size 5 5 [⟨#[32]⟩, ⟨#[49]⟩, ⟨#[50]⟩, ⟨#[51]⟩, ⟨#[45]⟩] rfl (by decide) (by decide) (by omega) (by simp) (fun t ht => by
    simp only [List.mem_cons, List.not_mem_nil, or_false] at ht
    rcases ht with rfl | rfl | rfl | rfl | rfl
    all_goals decide) (fun j hj => (obj_cell (obj_new w3 _)).trans (by
    have hj : j < 5 := hj
    rcases j with _ | _ | _ | _ | _ | j
    all_goals first | rfl | omega)) k3.cur)
  clear HT
  go_wp2_with fail
  (with_reducible refine HP.out.mono ?_)
  rintro e w4 ⟨t, rfl, ht, k4⟩
  go_wp2_with fail
  go_ret
  exact ⟨t, rfl, by omega, hb.trans ((k3.trans k4).below hq hb.size)⟩
end Go.Proofs.YtodloeonlaljpaaGreatDoor
