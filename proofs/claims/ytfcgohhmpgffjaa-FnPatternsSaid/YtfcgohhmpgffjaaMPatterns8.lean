/- Several texts in one, each with its own head: WPatterns, Open. No program of ours. -/
import Derived.Deep.RegionHeld3
import Derived.Test.YtfcgohhmpgffjaaRows
import Derived.ProofKit
import Derived.OpenShut
import Derived.Deep.Matrix
import Derived.Test.YtfcgohhmpgffjaaMPatterns7
/- The walk of FnPatterns. Written by gen/genwpt.py. -/
namespace Go.Proofs.Ytfcgohhmpgffjaa
set_option maxRecDepth 100000
open Go Go.RowKit

set_option maxHeartbeats 16000000 in
set_option maxRecDepth 100000 in
theorem walk_FnPatterns (w : World) (A : Option Addr) (c : Nat) (bs : List Int) (hm : bs.length ≤ 9223372036854775807) (hr : Rd (Value.int .u8) w w.heap.size A bs) :
    Calls Try.prog 3 #[.slice A bs.length c] w (Rb w (.bool true)) := by
  obtain ⟨i0, hi, hz0, hz1, hz2⟩ := info_parts infoI
  rcases Nat.lt_or_ge 1048576 bs.length with hbig | hlen
  · have HC := Lib.hid (big_no A c bs w hbig hm)
    go_enter Try.func3, Try.ntmps3
    go_wp2_with fail
    (with_reducible refine HC.out.mono ?_)
    rintro e w1 ⟨rfl, rfl⟩
    go_wp2_with fail
    go_ret
    exact ⟨rfl, Below.refl _ _⟩
  have h0 : InY w A c bs := ⟨hlen, hr⟩
  have HC := Lib.hid (big_ok A c bs w hlen)
  clear hr hm
  go_enter Try.func3, Try.ntmps3
  go_wp2_with fail
  (with_reducible refine HC.out.mono ?_)
  rintro e w0 ⟨rfl, rfl⟩
  clear HC
  have HB := Below.refl w.heap.size w
  have HC := Lib.hid (drawOccurrencesOf A c bs w h0)
  go_wp2_with fail
  (with_reducible refine HC.out.mono ?_)
  rintro e x1 ⟨P, pk, p, Q, qk, q, rfl, ⟨hp9, hq9⟩, ip, iq, hb⟩
  clear HC
  replace h0 := h0.next hb
  replace HB := HB.trans (hb.mono HB.size)
  clear hb
  have HC := Lib.hid (occurrencesOf_impl P Q pk qk p q x1 ip iq)
  go_wp2_with fail
  (with_reducible refine HC.out.mono ?_)
  rintro e x2 ⟨OA, Ok, Or, rfl, hXO, hOO, hb⟩
  clear HC
  have HO := Lib.hid hXO
  have iO := hOO.read.toL (small_rows hXO (oo_len p q) (fun l hl => (oo_row hl).2)) (Nat.le_refl _)
  clear hXO hOO
  replace h0 := h0.next hb
  replace ip := ip.next hb
  replace iq := iq.next hb
  replace HB := HB.trans (hb.mono HB.size)
  clear hb
  have HC := Lib.hid (drawIsOccurrence A c bs x2 h0)
  go_wp2_with fail
  (with_reducible refine HC.out.mono ?_)
  rintro e x3 ⟨D, E, F, dk, ek, fk, a, b, ps, rfl, ia, ib, iy, hb⟩
  clear HC
  replace h0 := h0.next hb
  replace ip := ip.next hb
  replace iq := iq.next hb
  replace iO := iO.next hb
  replace HB := HB.trans (hb.mono HB.size)
  clear hb
  have HC := Lib.hid (drawPatternsIn A c bs x3 h0)
  go_wp2_with fail
  (with_reducible refine HC.out.mono ?_)
  rintro e x4 ⟨R, rk, r, k, rfl, hr9, hk0, hk1, ir, hb⟩
  clear HC
  replace h0 := h0.next hb
  replace ip := ip.next hb
  replace iq := iq.next hb
  replace iO := iO.next hb
  replace ia := ia.next hb
  replace ib := ib.next hb
  replace iy := iy.next hb
  replace HB := HB.trans (hb.mono HB.size)
  clear hb
  have HC := Lib.hid (patternsIn_impl R rk r k (by omega) x4 ir)
  go_wp2_with fail
  (with_reducible refine HC.out.mono ?_)
  rintro e x5 ⟨NA, Nk, Nr, rfl, hXN, hON, hb⟩
  clear HC
  have HN := Lib.hid hXN
  have iN := hON.read.toL (small_rows hXN (pi_len r k) (fun l hl => (pi_row hl).2)) (Nat.le_refl _)
  clear hXN hON
  replace h0 := h0.next hb
  replace ip := ip.next hb
  replace iq := iq.next hb
  replace iO := iO.next hb
  replace ia := ia.next hb
  replace ib := ib.next hb
  replace iy := iy.next hb
  replace ir := ir.next hb
  replace HB := HB.trans (hb.mono HB.size)
  clear hb
  have HC := Lib.hid (drawWithoutPlace A c bs x5 h0)
  go_wp2_with fail
  (with_reducible refine HC.out.mono ?_)
  rintro e x6 ⟨S, sk, s, x, rfl, hs9, hx0, hx1, is, hb⟩
  clear HC
  replace h0 := h0.next hb
  replace ip := ip.next hb
  replace iq := iq.next hb
  replace iO := iO.next hb
  replace ia := ia.next hb
  replace ib := ib.next hb
  replace iy := iy.next hb
  replace ir := ir.next hb
  replace iN := iN.next hb
  replace HB := HB.trans (hb.mono HB.size)
  clear hb
  clear h0
  have hTl := wpG_le s x
  have HC := Lib.hid (withoutPlace_impl S sk s x x6 is (by omega))
  go_wp2_with fail
  (with_reducible refine HC.out.mono ?_)
  rintro e x7 ⟨T, tk, rfl, _, _, ownT, hb⟩
  clear HC
  replace ip := ip.next hb
  replace iq := iq.next hb
  replace iO := iO.next hb
  replace ia := ia.next hb
  replace ib := ib.next hb
  replace iy := iy.next hb
  replace ir := ir.next hb
  replace iN := iN.next hb
  replace is := is.next hb
  replace HB := HB.trans (hb.mono HB.size)
  have iT := In.of_own ownT (by omega)
  clear ownT
  clear hb
  have HC := Lib.hid (withoutPlace_spec S sk s x x7 is (by omega))
  go_wp2_with fail
  (with_reducible refine HC.out.mono ?_)
  rintro e x8 ⟨U, uk, rfl, _, _, ownU, hb⟩
  clear HC
  replace ip := ip.next hb
  replace iq := iq.next hb
  replace iO := iO.next hb
  replace ia := ia.next hb
  replace ib := ib.next hb
  replace iy := iy.next hb
  replace ir := ir.next hb
  replace iN := iN.next hb
  replace is := is.next hb
  replace iT := iT.next hb
  replace HB := HB.trans (hb.mono HB.size)
  have iU := In.of_own ownU (by omega)
  clear ownU
  clear hb
  have HC := Lib.hid (occurrencesOf_any P Q pk qk p q x8 ip iq)
  go_wp2_with fail
  (with_reducible refine HC.out.mono ?_)
  rintro e x9 ⟨VA, Vk, Vr, rfl, hXV, hOV, hb⟩
  clear HC
  have HV := Lib.hid hXV
  have iV := hOV.read.toL (small_rows hXV (oo_len p q) (fun l hl => (oo_row hl).2)) (Nat.le_refl _)
  clear hXV hOV
  replace ip := ip.next hb
  replace iq := iq.next hb
  replace iO := iO.next hb
  replace ia := ia.next hb
  replace ib := ib.next hb
  replace iy := iy.next hb
  replace ir := ir.next hb
  replace iN := iN.next hb
  replace is := is.next hb
  replace iT := iT.next hb
  replace iU := iU.next hb
  replace HB := HB.trans (hb.mono HB.size)
  clear hb
  have HC := Lib.hid (sameLists_eq OA VA Ok Vk Or Vr x9 iO iV (by rw [HO.out, HV.out]))
  go_wp2_with fail
  (with_reducible refine HC.out.mono ?_)
  rintro e x10 ⟨rfl, hb⟩
  clear HC
  replace ip := ip.next hb
  replace iq := iq.next hb
  replace iO := iO.next hb
  replace ia := ia.next hb
  replace ib := ib.next hb
  replace iy := iy.next hb
  replace ir := ir.next hb
  replace iN := iN.next hb
  replace is := is.next hb
  replace iT := iT.next hb
  replace iU := iU.next hb
  replace iV := iV.next hb
  replace HB := HB.trans (hb.mono HB.size)
  clear hb
  clear iV
  have HC := Lib.hid (isOccurrence_impl D E F dk ek fk a b ps x10 ia ib iy)
  go_wp2_with fail
  (with_reducible refine HC.out.mono ?_)
  rintro e x11 ⟨rfl, hb⟩
  clear HC
  replace ip := ip.next hb
  replace iq := iq.next hb
  replace iO := iO.next hb
  replace ia := ia.next hb
  replace ib := ib.next hb
  replace iy := iy.next hb
  replace ir := ir.next hb
  replace iN := iN.next hb
  replace is := is.next hb
  replace iT := iT.next hb
  replace iU := iU.next hb
  replace HB := HB.trans (hb.mono HB.size)
  clear hb
  have HC := Lib.hid (isOccurrence_spec D E F dk ek fk a b ps x11 ia ib iy)
  go_wp2_with fail
  (with_reducible refine HC.out.mono ?_)
  rintro e x12 ⟨rfl, hb⟩
  clear HC
  replace ip := ip.next hb
  replace iq := iq.next hb
  replace iO := iO.next hb
  replace ia := ia.next hb
  replace ib := ib.next hb
  replace iy := iy.next hb
  replace ir := ir.next hb
  replace iN := iN.next hb
  replace is := is.next hb
  replace iT := iT.next hb
  replace iU := iU.next hb
  replace HB := HB.trans (hb.mono HB.size)
  clear hb
  have c0 : (isoB a b ps != isoB a b ps) = false := by simp
  clear ia ib iy
  have HC := Lib.hid (patternsIn_spec R rk r k (by omega) x12 ir)
  go_wp2_with fail
  (with_reducible refine HC.out.mono ?_)
  rintro e x13 ⟨WA, Wk, Wr, rfl, hXW, hOW, hb⟩
  clear HC
  have HW := Lib.hid hXW
  have iW := hOW.read.toL (small_rows hXW (pi_len r k) (fun l hl => (pi_row hl).2)) (Nat.le_refl _)
  clear hXW hOW
  replace ip := ip.next hb
  replace iq := iq.next hb
  replace iO := iO.next hb
  replace ir := ir.next hb
  replace iN := iN.next hb
  replace is := is.next hb
  replace iT := iT.next hb
  replace iU := iU.next hb
  replace HB := HB.trans (hb.mono HB.size)
  clear hb
  have HC := Lib.hid (sameLists_eq NA WA Nk Wk Nr Wr x13 iN iW (by rw [HN.out, HW.out]))
  go_wp2_with fail
  (with_reducible refine HC.out.mono ?_)
  rintro e x14 ⟨rfl, hb⟩
  clear HC
  replace ip := ip.next hb
  replace iq := iq.next hb
  replace iO := iO.next hb
  replace ir := ir.next hb
  replace iN := iN.next hb
  replace is := is.next hb
  replace iT := iT.next hb
  replace iU := iU.next hb
  replace iW := iW.next hb
  replace HB := HB.trans (hb.mono HB.size)
  clear hb
  clear iW
  have c1 : (wpB s x != wpB s x) = false := by simp
  have HC := Lib.hid (sameInts_eq T U tk uk _ _ (wpG s x) (wpG s x) x14 rfl rfl rfl (by omega) iT.rd iU.rd)
  go_wp2_with fail
  (with_reducible refine HC.out.mono ?_)
  rintro e x15 ⟨rfl, hd⟩
  clear HC
  have hb := (below_dr (Below.refl x14.heap.size x14) hd)
  replace ip := ip.next hb
  replace iq := iq.next hb
  replace iO := iO.next hb
  replace ir := ir.next hb
  replace iN := iN.next hb
  replace is := is.next hb
  replace iT := iT.next hb
  replace iU := iU.next hb
  replace HB := HB.trans (hb.mono HB.size)
  clear hb hd
  clear iU
  have HC := Lib.hid (countPattern_impl P Q pk qk p q x15 ip iq)
  go_wp2_with fail
  (with_reducible refine HC.out.mono ?_)
  rintro e x16 ⟨rfl, hb⟩
  clear HC
  replace ip := ip.next hb
  replace iq := iq.next hb
  replace iO := iO.next hb
  replace ir := ir.next hb
  replace iN := iN.next hb
  replace is := is.next hb
  replace iT := iT.next hb
  replace HB := HB.trans (hb.mono HB.size)
  clear hb
  have HC := Lib.hid (countPattern_spec P Q pk qk p q x16 ip iq)
  go_wp2_with fail
  (with_reducible refine HC.out.mono ?_)
  rintro e x17 ⟨rfl, hb⟩
  clear HC
  replace ip := ip.next hb
  replace iq := iq.next hb
  replace iO := iO.next hb
  replace ir := ir.next hb
  replace iN := iN.next hb
  replace is := is.next hb
  replace iT := iT.next hb
  replace HB := HB.trans (hb.mono HB.size)
  clear hb
  have c2 : (cpG p q != cpG p q) = false := by simp
  have HC := Lib.hid (hasPattern_impl P Q pk qk p q x17 (hpG p q) ip iq rfl)
  go_wp2_with fail
  (with_reducible refine HC.out.mono ?_)
  rintro e x18 ⟨rfl, hb⟩
  clear HC
  replace ip := ip.next hb
  replace iq := iq.next hb
  replace iO := iO.next hb
  replace ir := ir.next hb
  replace iN := iN.next hb
  replace is := is.next hb
  replace iT := iT.next hb
  replace HB := HB.trans (hb.mono HB.size)
  clear hb
  have HC := Lib.hid (hasPattern_spec P Q pk qk p q x18 (hpG p q) ip iq rfl)
  go_wp2_with fail
  (with_reducible refine HC.out.mono ?_)
  rintro e x19 ⟨rfl, hb⟩
  clear HC
  replace ip := ip.next hb
  replace iq := iq.next hb
  replace iO := iO.next hb
  replace ir := ir.next hb
  replace iN := iN.next hb
  replace is := is.next hb
  replace iT := iT.next hb
  replace HB := HB.trans (hb.mono HB.size)
  clear hb
  have c3 : (hpG p q != hpG p q) = false := by simp
  have HC := Lib.hid (lowersOf_impl S sk s x19 is)
  go_wp2_with fail
  (with_reducible refine HC.out.mono ?_)
  rintro e x20 ⟨XA, Xk, Xr, rfl, hXX, hOX, hb⟩
  clear HC
  have HX := Lib.hid hXX
  have iX := hOX.read.toL (small_rows hXX (Nat.le_trans (low_len s) (by omega)) (fun l hl => low_row hl)) (Nat.le_refl _)
  clear hXX hOX
  replace ip := ip.next hb
  replace iq := iq.next hb
  replace iO := iO.next hb
  replace ir := ir.next hb
  replace iN := iN.next hb
  replace is := is.next hb
  replace iT := iT.next hb
  replace HB := HB.trans (hb.mono HB.size)
  clear hb
  have HC := Lib.hid (lowersOf_any S sk s x20 is)
  go_wp2_with fail
  (with_reducible refine HC.out.mono ?_)
  rintro e x21 ⟨YA, Yk, Yr, rfl, hXY, hOY, hb⟩
  clear HC
  have HY := Lib.hid hXY
  have iY := hOY.read.toL (small_rows hXY (Nat.le_trans (low_len s) (by omega)) (fun l hl => low_row hl)) (Nat.le_refl _)
  clear hXY hOY
  replace ip := ip.next hb
  replace iq := iq.next hb
  replace iO := iO.next hb
  replace ir := ir.next hb
  replace iN := iN.next hb
  replace is := is.next hb
  replace iT := iT.next hb
  replace iX := iX.next hb
  replace HB := HB.trans (hb.mono HB.size)
  clear hb
  have HC := Lib.hid (sameLists_eq XA YA Xk Yk Xr Yr x21 iX iY (by rw [HX.out, HY.out]))
  go_wp2_with fail
  (with_reducible refine HC.out.mono ?_)
  rintro e x22 ⟨rfl, hb⟩
  clear HC
  replace ip := ip.next hb
  replace iq := iq.next hb
  replace iO := iO.next hb
  replace ir := ir.next hb
  replace iN := iN.next hb
  replace is := is.next hb
  replace iT := iT.next hb
  replace iX := iX.next hb
  replace iY := iY.next hb
  replace HB := HB.trans (hb.mono HB.size)
  clear hb
  clear iX iY
  have hOl : Or.length ≤ 70 := by have := congrArg List.length HO.out; rw [List.length_map] at this; have := oo_len p q; omega
  have hNl : Nr.length ≤ 70 := by have := congrArg List.length HN.out; rw [List.length_map] at this; have := pi_len r k; omega
  -- the loops
  go_wp2_with fail
  go_loopw [18] (fun i wr => ∃ j : Nat, j ≤ Or.length ∧ i = .int .i64 j ∧ Below x22.heap.size x22 wr) (fun i _ => Or.length - (intOf i).toNat)
  case atStart => exact ⟨0, Nat.zero_le _, rfl, Below.refl _ _⟩
  case round =>
    obtain ⟨j, hj, rfl, hb⟩ := hrel
    rcases Nat.lt_or_ge j Or.length with hlt | hge
    · obtain ⟨bo, oo, rfl, _, hc⟩ := (iO.next hb).read.at (by omega)
      have cc := hc j hlt
      have hin := (iO.next hb).row (List.getElem_mem hlt)
      have hmem : Or[j].xs ∈ ooG p q := by rw [← HO.out]; exact List.mem_map.2 ⟨Or[j], List.getElem_mem hlt, rfl⟩
      obtain ⟨R1, hR1⟩ : ∃ R1 : Row, R1 = Or[j] := ⟨_, rfl⟩
      rw [← hR1] at cc hin hmem
      clear hc hR1
      obtain ⟨RA, Rc, l⟩ := R1
      have HI := Lib.hid (oo_row hmem).1
      clear hmem
      have HC := Lib.hid (isOccurrence_impl P Q RA pk qk Rc p q l wr (ip.next hb) (iq.next hb) hin)
      rw [HI.out] at HC
      go_wp2_with fail
      (with_reducible refine HC.out.mono ?_)
      rintro e y2 ⟨rfl, hb2⟩
      go_wp2_with fail
      go_roundw
      case rel => exact ⟨j + 1, by omega, by go_num, hb.trans (hb2.mono hb.size)⟩
      case measure => simp [intOf]; omega
    · obtain rfl : j = Or.length := by omega
      replace ip := ip.next hb
      replace iq := iq.next hb
      replace ir := ir.next hb
      replace is := is.next hb
      replace iT := iT.next hb
      replace iN := iN.next hb
      replace HB := HB.trans (hb.mono HB.size)
      clear iO hb hge
      obtain ⟨v0, rfl⟩ : ∃ v : World, v = wr := ⟨_, rfl⟩
      go_wp2_with fail
      go_loopw [19] (fun i wr => ∃ j : Nat, j ≤ Nr.length ∧ i = .int .i64 j ∧ Below v0.heap.size v0 wr) (fun i _ => Nr.length - (intOf i).toNat)
      case atStart => exact ⟨0, Nat.zero_le _, rfl, Below.refl _ _⟩
      case round =>
        obtain ⟨j, hj, rfl, hb⟩ := hrel
        rcases Nat.lt_or_ge j Nr.length with hlt | hge
        · obtain ⟨bo, oo, rfl, _, hc⟩ := (iN.next hb).read.at (by omega)
          have cc := hc j hlt
          have hin := (iN.next hb).row (List.getElem_mem hlt)
          have hmem : Nr[j].xs ∈ piG r k := by rw [← HN.out]; exact List.mem_map.2 ⟨Nr[j], List.getElem_mem hlt, rfl⟩
          obtain ⟨R1, hR1⟩ : ∃ R1 : Row, R1 = Nr[j] := ⟨_, rfl⟩
          rw [← hR1] at cc hin hmem
          clear hc hR1
          obtain ⟨RA, Rc, l⟩ := R1
          have HI := Lib.hid (pi_row hmem).1
          clear hmem
          have HC := Lib.hid (hasPattern_impl R RA rk Rc r l wr true (ir.next hb) hin HI.out)
          go_wp2_with fail
          (with_reducible refine HC.out.mono ?_)
          rintro e y2 ⟨rfl, hb2⟩
          go_wp2_with fail
          go_roundw
          case rel => exact ⟨j + 1, by omega, by go_num, hb.trans (hb2.mono hb.size)⟩
          case measure => simp [intOf]; omega
        · obtain rfl : j = Nr.length := by omega
          replace ip := ip.next hb
          replace iq := iq.next hb
          replace is := is.next hb
          replace iT := iT.next hb
          replace HB := HB.trans (hb.mono HB.size)
          clear iN ir hb hge
          rcases two_perms p q with h | h | h
          · have H1 := Lib.hid h.1
            have H2 := Lib.hid h.2
            have HIV := Lib.hid (cp_inv h.1 h.2)
            have HRV := Lib.hid (cp_rev h.1 h.2)
            have HOL := Lib.hid (show ((ooG p q).length : Int) = (Or.length : Int) by rw [← HO.out, List.length_map])
            have hpl := invG1_le p
            have hql := invG1_le q
            have hpl2 := revG_length p
            have hql2 := revG_length q
            clear h
            have HC := Lib.hid (isPerm_sb P pk p wr true ip H1.out)
            go_wp2_with fail
            (with_reducible refine HC.out.mono ?_)
            rintro e z1 ⟨rfl, hd⟩
            have hb := (below_dr (Below.refl wr.heap.size wr) hd)
            replace ip := ip.next hb
            replace iq := iq.next hb
            replace is := is.next hb
            replace iT := iT.next hb
            replace HB := HB.trans (hb.mono HB.size)
            clear hb hd HC
            have HC := Lib.hid (isPerm_sb Q qk q z1 true iq H2.out)
            go_wp2_with fail
            (with_reducible refine HC.out.mono ?_)
            rintro e z2 ⟨rfl, hd⟩
            have hb := (below_dr (Below.refl z1.heap.size z1) hd)
            replace ip := ip.next hb
            replace iq := iq.next hb
            replace is := is.next hb
            replace iT := iT.next hb
            replace HB := HB.trans (hb.mono HB.size)
            clear hb hd HC
            have HC := Lib.hid (inversePerm_spec P pk p z2 ip)
            go_wp2_with fail
            (with_reducible refine HC.out.mono ?_)
            rintro e x23 ⟨IA, Ik, rfl, _, _, own1, hb⟩
            clear HC
            replace ip := ip.next hb
            replace iq := iq.next hb
            replace is := is.next hb
            replace iT := iT.next hb
            replace HB := HB.trans (hb.mono HB.size)
            have i1 := In.of_own own1 (by omega)
            clear own1
            clear hb
            have HC := Lib.hid (inversePerm_spec Q qk q x23 iq)
            go_wp2_with fail
            (with_reducible refine HC.out.mono ?_)
            rintro e x24 ⟨JA, Jk, rfl, _, _, own2, hb⟩
            clear HC
            replace ip := ip.next hb
            replace iq := iq.next hb
            replace is := is.next hb
            replace iT := iT.next hb
            replace i1 := i1.next hb
            replace HB := HB.trans (hb.mono HB.size)
            have i2 := In.of_own own2 (by omega)
            clear own2
            clear hb
            have HC := Lib.hid (countPattern_impl IA JA Ik Jk (invG1 p) (invG1 q) x24 i1 i2)
            go_wp2_with fail
            (with_reducible refine HC.out.mono ?_)
            rintro e x25 ⟨rfl, hb⟩
            clear HC
            replace ip := ip.next hb
            replace iq := iq.next hb
            replace is := is.next hb
            replace iT := iT.next hb
            replace i1 := i1.next hb
            replace i2 := i2.next hb
            replace HB := HB.trans (hb.mono HB.size)
            clear hb
            have c4 : (cpG (invG1 p) (invG1 q) != (Or.length : Int)) = false := by rw [HIV.out, HOL.out]; simp
            clear i1 i2
            have HC := Lib.hid (reversePerm_spec P pk p x25 ip)
            go_wp2_with fail
            (with_reducible refine HC.out.mono ?_)
            rintro e x26 ⟨IA, Ik, rfl, _, _, own1, hb⟩
            clear HC
            replace ip := ip.next hb
            replace iq := iq.next hb
            replace is := is.next hb
            replace iT := iT.next hb
            replace HB := HB.trans (hb.mono HB.size)
            have i1 := In.of_own own1 (by omega)
            clear own1
            clear hb
            have HC := Lib.hid (reversePerm_spec Q qk q x26 iq)
            go_wp2_with fail
            (with_reducible refine HC.out.mono ?_)
            rintro e x27 ⟨JA, Jk, rfl, _, _, own2, hb⟩
            clear HC
            replace ip := ip.next hb
            replace iq := iq.next hb
            replace is := is.next hb
            replace iT := iT.next hb
            replace i1 := i1.next hb
            replace HB := HB.trans (hb.mono HB.size)
            have i2 := In.of_own own2 (by omega)
            clear own2
            clear hb
            have HC := Lib.hid (countPattern_impl IA JA Ik Jk (revG p) (revG q) x27 i1 i2)
            go_wp2_with fail
            (with_reducible refine HC.out.mono ?_)
            rintro e x28 ⟨rfl, hb⟩
            clear HC
            replace ip := ip.next hb
            replace iq := iq.next hb
            replace is := is.next hb
            replace iT := iT.next hb
            replace i1 := i1.next hb
            replace i2 := i2.next hb
            replace HB := HB.trans (hb.mono HB.size)
            clear hb
            have c5 : (cpG (revG p) (revG q) != (Or.length : Int)) = false := by rw [HRV.out, HOL.out]; simp
            clear i1 i2 ip iq
            rcases hok : wpB s x with _ | _
            · go_wp2_with fail
              go_ret
              exact ⟨rfl, HB⟩
            · have HF := Lib.hid (wp_facts hok)
              have HC := Lib.hid (hasPattern_impl S T sk tk s (wpG s x) x28 true is iT HF.out.1)
              go_wp2_with fail
              (with_reducible refine HC.out.mono ?_)
              rintro e u1 ⟨rfl, hb⟩
              replace is := is.next hb
              replace iT := iT.next hb
              replace HB := HB.trans (hb.mono HB.size)
              clear hb HC
              have HC := Lib.hid (lowersOf_impl S sk s u1 is)
              go_wp2_with fail
              (with_reducible refine HC.out.mono ?_)
              rintro e u2 ⟨XA, Xk, Xr, rfl, hXX, hOX, hb⟩
              have HX := Lib.hid hXX
              have iX := hOX.read.toL (small_rows hXX (Nat.le_trans (low_len s) (by omega)) (fun l hl => low_row hl)) (Nat.le_refl _)
              clear hXX hOX
              replace iT := iT.next hb
              replace HB := HB.trans (hb.mono HB.size)
              clear hb HC
              have HC := Lib.hid (hasList_yes XA T Xk tk Xr (wpG s x) u2 iX iT (by rw [HX.out]; exact HF.out.2))
              go_wp2_with fail
              (with_reducible refine HC.out.mono ?_)
              rintro e u3 ⟨rfl, hb⟩
              replace HB := HB.trans (hb.mono HB.size)
              go_wp2_with fail
              go_ret
              exact ⟨rfl, HB⟩
          · have H1 := Lib.hid h.1
            have H2 := Lib.hid h.2
            clear h
            have HC := Lib.hid (isPerm_sb P pk p wr true ip H1.out)
            go_wp2_with fail
            (with_reducible refine HC.out.mono ?_)
            rintro e z1 ⟨rfl, hd⟩
            have hb := (below_dr (Below.refl wr.heap.size wr) hd)
            replace ip := ip.next hb
            replace iq := iq.next hb
            replace is := is.next hb
            replace iT := iT.next hb
            replace HB := HB.trans (hb.mono HB.size)
            clear hb hd HC
            have HC := Lib.hid (isPerm_sb Q qk q z1 false iq H2.out)
            go_wp2_with fail
            (with_reducible refine HC.out.mono ?_)
            rintro e z2 ⟨rfl, hd⟩
            have hb := (below_dr (Below.refl z1.heap.size z1) hd)
            replace ip := ip.next hb
            replace iq := iq.next hb
            replace is := is.next hb
            replace iT := iT.next hb
            replace HB := HB.trans (hb.mono HB.size)
            clear hb hd HC
            rcases hok : wpB s x with _ | _
            · go_wp2_with fail
              go_ret
              exact ⟨rfl, HB⟩
            · have HF := Lib.hid (wp_facts hok)
              have HC := Lib.hid (hasPattern_impl S T sk tk s (wpG s x) z2 true is iT HF.out.1)
              go_wp2_with fail
              (with_reducible refine HC.out.mono ?_)
              rintro e u1 ⟨rfl, hb⟩
              replace is := is.next hb
              replace iT := iT.next hb
              replace HB := HB.trans (hb.mono HB.size)
              clear hb HC
              have HC := Lib.hid (lowersOf_impl S sk s u1 is)
              go_wp2_with fail
              (with_reducible refine HC.out.mono ?_)
              rintro e u2 ⟨XA, Xk, Xr, rfl, hXX, hOX, hb⟩
              have HX := Lib.hid hXX
              have iX := hOX.read.toL (small_rows hXX (Nat.le_trans (low_len s) (by omega)) (fun l hl => low_row hl)) (Nat.le_refl _)
              clear hXX hOX
              replace iT := iT.next hb
              replace HB := HB.trans (hb.mono HB.size)
              clear hb HC
              have HC := Lib.hid (hasList_yes XA T Xk tk Xr (wpG s x) u2 iX iT (by rw [HX.out]; exact HF.out.2))
              go_wp2_with fail
              (with_reducible refine HC.out.mono ?_)
              rintro e u3 ⟨rfl, hb⟩
              replace HB := HB.trans (hb.mono HB.size)
              go_wp2_with fail
              go_ret
              exact ⟨rfl, HB⟩
          · have H1 := Lib.hid h
            clear h
            have HC := Lib.hid (isPerm_sb P pk p wr false ip H1.out)
            go_wp2_with fail
            (with_reducible refine HC.out.mono ?_)
            rintro e z1 ⟨rfl, hd⟩
            have hb := (below_dr (Below.refl wr.heap.size wr) hd)
            replace ip := ip.next hb
            replace iq := iq.next hb
            replace is := is.next hb
            replace iT := iT.next hb
            replace HB := HB.trans (hb.mono HB.size)
            clear hb hd HC
            rcases hok : wpB s x with _ | _
            · go_wp2_with fail
              go_ret
              exact ⟨rfl, HB⟩
            · have HF := Lib.hid (wp_facts hok)
              have HC := Lib.hid (hasPattern_impl S T sk tk s (wpG s x) z1 true is iT HF.out.1)
              go_wp2_with fail
              (with_reducible refine HC.out.mono ?_)
              rintro e u1 ⟨rfl, hb⟩
              replace is := is.next hb
              replace iT := iT.next hb
              replace HB := HB.trans (hb.mono HB.size)
              clear hb HC
              have HC := Lib.hid (lowersOf_impl S sk s u1 is)
              go_wp2_with fail
              (with_reducible refine HC.out.mono ?_)
              rintro e u2 ⟨XA, Xk, Xr, rfl, hXX, hOX, hb⟩
              have HX := Lib.hid hXX
              have iX := hOX.read.toL (small_rows hXX (Nat.le_trans (low_len s) (by omega)) (fun l hl => low_row hl)) (Nat.le_refl _)
              clear hXX hOX
              replace iT := iT.next hb
              replace HB := HB.trans (hb.mono HB.size)
              clear hb HC
              have HC := Lib.hid (hasList_yes XA T Xk tk Xr (wpG s x) u2 iX iT (by rw [HX.out]; exact HF.out.2))
              go_wp2_with fail
              (with_reducible refine HC.out.mono ?_)
              rintro e u3 ⟨rfl, hb⟩
              replace HB := HB.trans (hb.mono HB.size)
              go_wp2_with fail
              go_ret
              exact ⟨rfl, HB⟩
end Go.Proofs.Ytfcgohhmpgffjaa

/- What the arguments of a law read as: from the form's own reading to the words of Base. -/
namespace Go.Proofs.Ytfcgohhmpgffjaa
set_option maxRecDepth 100000
open Go Go.RowKit Go.ChangeShapes Go.WideShapes Go.ChangeAt

theorem ownK : ownKnob Try.prog.godebug = none := by kernel_rfl
theorem wf_i64_bounds {n : Int} (h : (Lit.int .i64 n).wf = true) : -9223372036854775808 ≤ n ∧ n ≤ 9223372036854775807 := by
  have hmin : IntKind.i64.min = -9223372036854775808 := rfl
  have hmax : IntKind.i64.max = 9223372036854775807 := rfl
  simp only [Lit.wf, Bool.and_eq_true, decide_eq_true_eq] at h
  omega
theorem cells_int : Try.prog.cellsOf 3 = 1 := by kernel_rfl
theorem cells_ints : Try.prog.cellsOf 24 = 1 := by kernel_rfl
theorem cells_u8 : Try.prog.cellsOf 5 = 1 := by kernel_rfl
theorem laidOutK : laidOutB Try.prog = true := by kernel_rfl

section
variable {H : Type} {enc : TypeId × Value → H} {P : Program} {W : World} {base : Nat}

/-- A slice of whole numbers that came in, nil or not, reads as a list. -/
theorem open_intsR {t e : TypeId} {k : IntKind} {v : Value} {d : DataW H} {ps : List MemPlace} (ht : P.underlying t = some (.slice e)) (he : P.underlying e = some (.int k)) (ce : P.cellsOf e = 1)
    (hv : Value.okWide P W .any base t v) (h : DataW.Trod enc P W 0 (fun _ => true) true t v d ps) :
    ∃ (A : Option Addr) (xs : List Int) (c : Nat), v = .slice A xs.length c ∧ xs.length ≤ c ∧ c ≤ maxLen ∧ Rd (Value.int k) W W.heap.size A xs ∧ ∀ n ∈ xs, (Lit.int k n).wf = true := by
  obtain ⟨a0, len, cap, rfl⟩ := okWide_slice ht hv
  obtain ⟨fuel, hf⟩ := h
  rcases open_ints ht he ce hf with ⟨hcs, hx⟩ | ⟨a, len', cap', zs, hcs, _, hl, hm, hz, hx, hcell, hwz⟩
  · simp [Value.cells] at hcs
    obtain ⟨rfl, rfl, rfl⟩ := hcs
    exact ⟨none, [], 0, rfl, Nat.le_refl _, Nat.zero_le _, Rd.nil_, by simp⟩
  · simp [Value.cells] at hcs
    obtain ⟨rfl, rfl, rfl⟩ := hcs
    simp only [if_true] at hz
    have hlen : (zs.take len).length = len := by rw [List.length_take]; omega
    refine ⟨some a, zs.take len, cap, by rw [hlen], by omega, hm, fun h0 => ?_, fun n hn => hwz n (List.mem_of_mem_take hn)⟩
    rw [hlen] at h0
    obtain ⟨b, off, spot⟩ := a
    have hc0 := hcell 0 (by omega)
    have hspot : spot = none := by simpa [Addr.add] using World.cell?_spot hc0
    subst hspot
    refine ⟨b, off, rfl, ?_, fun j hj => ?_⟩
    · have := block_lt_of_cell hc0
      simpa [Addr.add] using this
    · have := hcell j (by omega)
      rw [add_plain] at this
      rw [this]
      simp [List.getD, show j < zs.length by omega]
end
end Go.Proofs.Ytfcgohhmpgffjaa
