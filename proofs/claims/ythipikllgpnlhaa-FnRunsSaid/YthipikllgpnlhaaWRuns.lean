/- The walk of FnRuns. Written by gen/genwr.py. -/
import Derived.Test.YthipikllgpnlhaaD5
import Derived.Test.YthipikllgpnlhaaE2
import Derived.Test.YthipikllgpnlhaaP4
import Derived.Test.YthipikllgpnlhaaQ2
import Derived.Test.YthipikllgpnlhaaC1
import Derived.Test.YthipikllgpnlhaaC2
import Derived.Test.YthipikllgpnlhaaR5
import Derived.Test.YthipikllgpnlhaaV4
import Derived.Deep.RegionHeld3
namespace Go.Proofs.Ythipikllgpnlhaa
set_option maxRecDepth 100000
open Go Go.RowKit

theorem In.nextI {w w' : World} {A : Option Addr} {c : Nat} {xs : List Int} (h : In w A c xs) (hb : Below w.heap.size w w') : In w' A c xs := h.next hb

set_option maxHeartbeats 4000000 in
set_option maxRecDepth 100000 in
theorem walk_FnRuns (w : World) (A : Option Addr) (c : Nat) (bs : List Int) (hm : bs.length ≤ 9223372036854775807) (hr : Rd (Value.int .u8) w w.heap.size A bs) :
    Calls Try.prog 5 #[.slice A bs.length c] w (Rb w (.bool true)) := by
  obtain ⟨i0, hi, hz0, hz1, hz2⟩ := info_parts infoI
  rcases Nat.lt_or_ge 1048576 bs.length with hbig | hlen
  · have HC := Lib.hid (big_no A c bs w hbig hm)
    go_enter Try.func5, Try.ntmps5
    go_wp2_with fail
    (with_reducible refine HC.out.mono ?_)
    rintro e w1 ⟨rfl, rfl⟩
    go_wp2_with fail
    go_ret
    exact ⟨rfl, Below.refl _ _⟩
  have h0 : InY w A c bs := ⟨hlen, hr⟩
  have HC := Lib.hid (big_ok A c bs w hlen)
  clear hr hm
  go_enter Try.func5, Try.ntmps5
  go_wp2_with fail
  (with_reducible refine HC.out.mono ?_)
  rintro e w0 ⟨rfl, rfl⟩
  clear HC
  have HB := Below.refl w.heap.size w
  have HC := Lib.hid (drawCountRuns A c bs w h0)
  go_wp2_with fail
  (with_reducible refine HC.out.mono ?_)
  rintro e x1 ⟨P, pk, p, Q, qk, q, rfl, ⟨hp9, hq9⟩, ip, iq, hb⟩
  clear HC
  replace h0 := h0.next hb
  replace HB := HB.trans (hb.mono HB.size)
  clear hb
  have HC := Lib.hid (drawAvoidRuns A c bs x1 h0)
  go_wp2_with fail
  (with_reducible refine HC.out.mono ?_)
  rintro e x2 ⟨n, R, rk, r, rfl, hn0, hn1, hr4, hrp, ir, hb⟩
  clear HC
  replace h0 := h0.next hb
  replace ip := ip.next hb
  replace iq := iq.next hb
  replace HB := HB.trans (hb.mono HB.size)
  clear hb
  have HRP := Lib.hid hrp
  clear hrp
  have HC := Lib.hid (drawOverlaps A c bs x2 h0)
  go_wp2_with fail
  (with_reducible refine HC.out.mono ?_)
  rintro e x3 ⟨O, ok, o, rfl, ho9, own, hb⟩
  clear HC
  replace h0 := h0.next hb
  replace ip := ip.next hb
  replace iq := iq.next hb
  replace ir := ir.next hb
  replace HB := HB.trans (hb.mono HB.size)
  have io := In.of_own own (by omega)
  clear own
  clear hb
  have HC := Lib.hid (overlaps_impl O ok o x3 io)
  go_wp2_with fail
  (with_reducible refine HC.out.mono ?_)
  rintro e x4 ⟨L, Lk, rfl, _, _, ownL, hb⟩
  clear HC
  have rL := Rd.of_own ownL
  replace h0 := h0.next hb
  replace ip := ip.next hb
  replace iq := iq.next hb
  replace ir := ir.next hb
  replace io := io.next hb
  replace HB := HB.trans (hb.mono HB.size)
  clear hb ownL
  have HC := Lib.hid (drawIsAlternating A c bs x4 h0)
  go_wp2_with fail
  (with_reducible refine HC.out.mono ?_)
  rintro e x5 ⟨D, dk, a, rfl, ha9, own, hb⟩
  clear HC
  replace h0 := h0.next hb
  replace ip := ip.next hb
  replace iq := iq.next hb
  replace ir := ir.next hb
  replace io := io.next hb
  replace rL := rL.next hb
  replace HB := HB.trans (hb.mono HB.size)
  have ia := In.of_own own (by omega)
  clear own
  clear hb
  have HC := Lib.hid (drawAlternatingN A c bs x5 h0)
  go_wp2_with fail
  (with_reducible refine HC.out.mono ?_)
  rintro e x6 ⟨k, rfl, hk0, hk1, hb⟩
  clear HC
  replace h0 := h0.next hb
  replace ip := ip.next hb
  replace iq := iq.next hb
  replace ir := ir.next hb
  replace io := io.next hb
  replace rL := rL.next hb
  replace ia := ia.next hb
  replace HB := HB.trans (hb.mono HB.size)
  clear hb
  have HC := Lib.hid (drawChoose A c bs x6 h0)
  go_wp2_with fail
  (with_reducible refine HC.out.mono ?_)
  rintro e x7 ⟨cn, ck, rfl, hcn0, hcn1, hck0, hck1, hb⟩
  clear HC
  replace h0 := h0.next hb
  replace ip := ip.next hb
  replace iq := iq.next hb
  replace ir := ir.next hb
  replace io := io.next hb
  replace rL := rL.next hb
  replace ia := ia.next hb
  replace HB := HB.trans (hb.mono HB.size)
  clear hb
  clear h0
  have HC := Lib.hid (runs_impl P pk p Q qk q x7 ip iq)
  go_wp2_with fail
  (with_reducible refine HC.out.mono ?_)
  rintro e x8 ⟨rfl, hb⟩
  clear HC
  replace ip := ip.next hb
  replace iq := iq.next hb
  replace ir := ir.next hb
  replace io := io.next hb
  replace rL := rL.next hb
  replace ia := ia.next hb
  replace HB := HB.trans (hb.mono HB.size)
  clear hb
  have HC := Lib.hid (runs_spec P pk p Q qk q x8 ip iq)
  go_wp2_with fail
  (with_reducible refine HC.out.mono ?_)
  rintro e x9 ⟨rfl, hb⟩
  clear HC
  replace ip := ip.next hb
  replace iq := iq.next hb
  replace ir := ir.next hb
  replace io := io.next hb
  replace rL := rL.next hb
  replace ia := ia.next hb
  replace HB := HB.trans (hb.mono HB.size)
  clear hb
  have c0 : (runsG p q != runsG p q) = false := by simp
  clear ip iq
  have HC := Lib.hid (avoidRuns_impl n (by omega) R rk r x9 ir)
  go_wp2_with fail
  (with_reducible refine HC.out.mono ?_)
  rintro e x10 ⟨rfl, hb⟩
  clear HC
  replace ir := ir.next hb
  replace io := io.next hb
  replace rL := rL.next hb
  replace ia := ia.next hb
  replace HB := HB.trans (hb.mono HB.size)
  clear hb
  have HC := Lib.hid (avoidRuns_spec n (by omega) R rk r x10 ir)
  go_wp2_with fail
  (with_reducible refine HC.out.mono ?_)
  rintro e x11 ⟨rfl, hb⟩
  clear HC
  replace ir := ir.next hb
  replace io := io.next hb
  replace rL := rL.next hb
  replace ia := ia.next hb
  replace HB := HB.trans (hb.mono HB.size)
  clear hb
  have c1 : (avrG n r != avrG n r) = false := by simp
  have HC := Lib.hid (overlaps_spec O ok o x11 io)
  go_wp2_with fail
  (with_reducible refine HC.out.mono ?_)
  rintro e x12 ⟨V, Vk, rfl, _, _, ownV, hb⟩
  clear HC
  have rV := Rd.of_own ownV
  replace ir := ir.next hb
  replace io := io.next hb
  replace rL := rL.next hb
  replace ia := ia.next hb
  replace HB := HB.trans (hb.mono HB.size)
  clear hb ownV
  have hOl := ovG_length o
  have HC := Lib.hid (sameInts_eq L V Lk Vk _ _ (ovG o) (ovG o) x12 rfl rfl rfl (by omega) rL rV)
  go_wp2_with fail
  (with_reducible refine HC.out.mono ?_)
  rintro e x13 ⟨rfl, hd⟩
  clear HC
  have hb := (below_dr (Below.refl x12.heap.size x12) hd)
  replace ir := ir.next hb
  replace io := io.next hb
  replace rL := rL.next hb
  replace ia := ia.next hb
  replace rV := rV.next hb
  replace HB := HB.trans (hb.mono HB.size)
  clear hb hd
  clear rL rV
  have HC := Lib.hid (alternates_impl D dk a x13 ia)
  go_wp2_with fail
  (with_reducible refine HC.out.mono ?_)
  rintro e x14 ⟨rfl, hb⟩
  clear HC
  replace ir := ir.next hb
  replace io := io.next hb
  replace ia := ia.next hb
  replace HB := HB.trans (hb.mono HB.size)
  clear hb
  have HC := Lib.hid (alternates_spec D dk a x14 ia)
  go_wp2_with fail
  (with_reducible refine HC.out.mono ?_)
  rintro e x15 ⟨rfl, hb⟩
  clear HC
  replace ir := ir.next hb
  replace io := io.next hb
  replace ia := ia.next hb
  replace HB := HB.trans (hb.mono HB.size)
  clear hb
  have c2 : (altG2 a != altG2 a) = false := by simp
  clear ia
  have HC := Lib.hid (alternating_impl k x15)
  go_wp2_with fail
  (with_reducible refine HC.out.mono ?_)
  rintro e x16 ⟨rfl, hb⟩
  clear HC
  replace ir := ir.next hb
  replace io := io.next hb
  replace HB := HB.trans (hb.mono HB.size)
  clear hb
  have HC := Lib.hid (alternating_spec k x16)
  go_wp2_with fail
  (with_reducible refine HC.out.mono ?_)
  rintro e x17 ⟨rfl, hb⟩
  clear HC
  replace ir := ir.next hb
  replace io := io.next hb
  replace HB := HB.trans (hb.mono HB.size)
  clear hb
  have c3 : (altG k != altG k) = false := by simp
  have HC := Lib.hid (choose_impl cn ck x17)
  go_wp2_with fail
  (with_reducible refine HC.out.mono ?_)
  rintro e x18 ⟨rfl, rfl⟩
  clear HC
  have HC := Lib.hid (choose_spec cn ck x17)
  go_wp2_with fail
  (with_reducible refine HC.out.mono ?_)
  rintro e x19 ⟨rfl, rfl⟩
  clear HC
  have c4 : (chooseG cn ck != chooseG cn ck) = false := by simp
  have HC := Lib.hid (loose_impl O ok o x17 io)
  go_wp2_with fail
  (with_reducible refine HC.out.mono ?_)
  rintro e x20 ⟨rfl, hb⟩
  clear HC
  replace ir := ir.next hb
  replace io := io.next hb
  replace HB := HB.trans (hb.mono HB.size)
  clear hb
  have c5 : (decide ((ovG o).length = 1) == (((ovG o).length : Int) == 1)) = true := by by_cases h : (ovG o).length = 1 <;> simp [h] <;> omega
  clear io
  go_upto_region 12 with (fail)
  go_cut [115] from 95 to 115 (fun s wz => s = .bool false ∧ Hid (Below w.heap.size w wz))
  case first =>
    clear c0 c1 c2 c3 c4 c5
    by_cases hn2 : 0 ≤ n
    · by_cases hn5 : n ≤ 5
      · by_cases hr0 : 0 < r.length
        · have hr0i : (0 : Int) < (r.length : Int) := by omega
          have HC := Lib.hid (avoidRuns_impl n (by omega) R rk r x20 ir)
          go_wp2_with fail
          (with_reducible refine HC.out.mono ?_)
          rintro e x21 ⟨rfl, hb⟩
          clear HC
          replace ir := ir.next hb
          replace HB := HB.trans (hb.mono HB.size)
          clear hb
          have HC := Lib.hid (reversePerm_spec R rk r x21 ir)
          go_wp2_with fail
          (with_reducible refine HC.out.mono ?_)
          rintro e x22 ⟨V, Vk, rfl, _, _, ownV, hb⟩
          clear HC
          have rV := Rd.of_own ownV
          replace ir := ir.next hb
          replace HB := HB.trans (hb.mono HB.size)
          clear hb ownV
          have hVl := revG_length r
          have HRR := Lib.hid (show revG r = r.reverse by rw [revG, if_pos (upTo_permB HRP.out (by omega))])
          obtain ⟨hVc⟩ : Nonempty ((revG r).length ≤ Vk) := ⟨by assumption⟩
          have HC := Lib.hid (avoidRuns_impl n (by omega) V Vk (revG r) x22 ⟨by omega, hVc, rV⟩)
          go_wp2_with fail
          (with_reducible refine HC.out.mono ?_)
          rintro e x23 ⟨rfl, hb⟩
          clear HC
          replace ir := ir.next hb
          replace rV := rV.next hb
          replace HB := HB.trans (hb.mono HB.size)
          clear hb
          have c6 : (avrG n r != avrG n (revG r)) = false := by rw [HRR.out, ← avr_reverse (by omega) HRP.out hr4]; simp
          go_wp2_with fail
          go_meet
          case rel => exact ⟨rfl, Lib.hid HB⟩
        · have hr0i : ¬ (0 : Int) < (r.length : Int) := by omega
          go_wp2_with fail
          go_meet
          case rel => exact ⟨rfl, Lib.hid HB⟩
      · omega
    · go_wp2_with fail
      go_meet
      case rel => exact ⟨rfl, Lib.hid HB⟩
  obtain ⟨rfl, HB2⟩ := hcut
  obtain ⟨y0, rfl⟩ : ∃ w', w' = wc := ⟨_, rfl⟩
  clear HB
  have HB := HB2.out
  clear HB2 c0 c1 c2 c3 c4 c5 ir
  by_cases hk2 : k < 0
  · go_wp2_with fail
    go_ret
    exact ⟨rfl, HB⟩
  by_cases hk5 : 5 < k
  · go_wp2_with fail
    go_ret
    exact ⟨rfl, HB⟩
  obtain ⟨m, rfl⟩ := Int.eq_ofNat_of_zero_le (show 0 ≤ k by omega)
  have hm5 : m ≤ 5 := by omega
  have HC := Lib.hid (permsOf_spec (m : Int) y0)
  go_wp2_with fail
  (with_reducible refine HC.out.mono ?_)
  rintro e y1 ⟨PA, pc, rs, rfl, hX, hO, hbC⟩
  have HX : Hid (rs.map Row.xs = permsL m) := Lib.hid (by rw [hX, permsG, if_pos (by omega)]; rfl)
  have hrsl : rs.length ≤ 120 := by
    have h1 := congrArg List.length HX.out
    rw [List.length_map] at h1
    rw [h1]
    exact permsL_120 (by omega)
  have HB := HB.trans (hbC.mono HB.size)
  clear hX hbC HC
  go_wp2_with fail
  go_loopw [13, 15] (fun s i wr => ∃ j : Nat, j ≤ rs.length ∧ i = .int .i64 j ∧ s = .int .i64 ((cntTo altG2 (permsL m) j : Nat) : Int) ∧ Below y1.heap.size y1 wr) (fun _ i _ => rs.length - (intOf i).toNat)
  case atStart => exact ⟨0, Nat.zero_le _, rfl, rfl, Below.refl _ _⟩
  case round =>
    obtain ⟨j, hj, rfl, rfl, hb⟩ := hrel
    have hO2 := hO.below hb
    have hsz := hb.size
    rcases Nat.lt_or_ge j rs.length with hlt | hge
    · have hjl : (j : Int) < (rs.length : Int) := by omega
      have hj0 : (0 : Int) ≤ (j : Int) := Int.natCast_nonneg _
      obtain ⟨pb, cap, hv, hpb, hlp⟩ := hO2.out.form (by simp; omega)
      have hv : PA = some ⟨pb, 0, none⟩ := by injection hv
      subst hv
      have hcell := hO2.read.cellAt j hlt
      have hrow := own_row hO2 (r := rs[j]) (List.getElem_mem hlt) hsz
      have hmem : rs[j].xs ∈ permsL m := by rw [← HX.out]; exact List.mem_map.2 ⟨rs[j], List.getElem_mem hlt, rfl⟩
      have hget : Hid ((permsL m)[j]? = some rs[j].xs) := Lib.hid (by rw [← HX.out]; simp [hlt])
      generalize hrj : rs[j] = r1 at hcell hrow hmem hget
      obtain ⟨rA, rc, rx⟩ := r1
      simp only [Nat.zero_add] at hcell hrow hmem hget
      have hx8 : rx.length ≤ 5 := by have := (permsI_mem hmem).1; omega
      have hle := cntTo_le altG2 (permsL m) j
      have hin : In wr rA rc rx := ⟨by omega, hrow.1, hrow.2⟩
      have HST : Hid (cntTo altG2 (permsL m) (j + 1) = cntTo altG2 (permsL m) j + (if altG2 rx = true then 1 else 0)) := Lib.hid (by
        have hl : j < (permsL m).length := by rw [← HX.out, List.length_map]; exact hlt
        rw [cntTo_succ altG2 (permsL m) j hl]
        have := hget.out
        rw [List.getElem?_eq_getElem hl] at this
        injection this with this
        rw [this])
      have HCA := Lib.hid (alternates_impl rA rc rx wr hin)
      clear hrow hmem hrj hget hO hO2
      go_wp2_with fail
      (with_reducible refine HCA.out.mono ?_)
      rintro e y2 ⟨rfl, hb2⟩
      have hbn := hb.trans (hb2.mono hsz)
      clear HCA hin hb2
      by_cases hal : altG2 rx = true
      · have HN := Lib.hid (show cntTo altG2 (permsL m) (j + 1) = cntTo altG2 (permsL m) j + 1 by rw [HST.out, if_pos hal])
        go_wp2_with fail
        go_roundw
        case rel => exact ⟨j + 1, by omega, by go_num, by rw [HN.out]; go_num, hbn⟩
        case measure => simp [intOf]; omega
      · have hal : altG2 rx = false := by simpa using hal
        have HN := Lib.hid (show cntTo altG2 (permsL m) (j + 1) = cntTo altG2 (permsL m) j by rw [HST.out, hal]; simp)
        go_wp2_with fail
        go_roundw
        case rel => exact ⟨j + 1, by omega, by go_num, by rw [HN.out], hbn⟩
        case measure => simp [intOf]; omega
    · obtain rfl : j = rs.length := by omega
      have HE : Hid (((cntTo altG2 (permsL m) rs.length : Nat) : Int) = altG (m : Int)) := Lib.hid (by
        rw [← alt_count hm5]
        unfold cntTo
        rw [List.take_of_length_le (by rw [← HX.out, List.length_map]; omega)])
      have HC := Lib.hid (alternating_impl (m : Int) wr)
      have HB := HB.trans (hb.mono HB.size)
      clear hO hO2
      go_wp2_with fail
      (with_reducible refine HC.out.mono ?_)
      rintro e y2 ⟨rfl, hb2⟩
      have HB := HB.trans (hb2.mono HB.size)
      go_wp2_with fail
      go_ret
      exact ⟨ret_bool (by rw [HE.out]; simp), HB⟩
end Go.Proofs.Ythipikllgpnlhaa
