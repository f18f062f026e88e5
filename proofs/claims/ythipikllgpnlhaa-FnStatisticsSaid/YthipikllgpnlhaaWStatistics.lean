/- The walk of FnStatistics. Written by gen/genws.py. -/
import Derived.Test.YthipikllgpnlhaaD3
import Derived.Test.YthipikllgpnlhaaE1
import Derived.Test.YthipikllgpnlhaaP3
import Derived.Test.YthipikllgpnlhaaP5
import Derived.Test.YthipikllgpnlhaaV1
import Derived.Deep.RegionHeld3
namespace Go.Proofs.Ythipikllgpnlhaa
set_option maxRecDepth 100000
open Go Go.RowKit

theorem descents_q {Q : Nat} (A : Option Addr) (c : Nat) (xs : List Int) (w : World) (h : In w A c xs) (hQ : (listG xs (descH xs)).length = Q) :
    Calls Try.prog 33 #[.slice A xs.length c] w (fun e w' => ∃ U uk, e = .returned (.slice U Q uk) ∧ Below w.heap.size w w') :=
  (descents_impl A c xs w h).mono (by rintro e w' ⟨U, uk, rfl, _, _, _, hb⟩; exact ⟨U, uk, by rw [hQ], hb⟩)
theorem rises_q {Q : Nat} (A : Option Addr) (c : Nat) (xs : List Int) (w : World) (h : In w A c xs) (hQ : (countG xs (riseH xs) : Int) = Q) :
    Calls Try.prog 41 #[.slice A xs.length c] w (fun e w' => e = .returned (.int .i64 (Q : Int)) ∧ Below w.heap.size w w') :=
  (rises_impl A c xs w h).mono (by rintro e w' ⟨rfl, hb⟩; exact ⟨by rw [hQ], hb⟩)
theorem inv_q {Q : Nat} (A : Option Addr) (c : Nat) (xs : List Int) (w : World) (h : In w A c xs) (hQ : (invG xs : Int) = Q) :
    Calls Try.prog 28 #[.slice A xs.length c] w (fun e w' => e = .returned (.int .i64 (Q : Int)) ∧ Below w.heap.size w w') :=
  (inv_impl A c xs w h).mono (by rintro e w' ⟨rfl, hb⟩; exact ⟨by rw [hQ], hb⟩)
theorem major_q {Q : Nat} (A : Option Addr) (c : Nat) (xs : List Int) (w : World) (h : In w A c xs) (hQ : (majorG xs : Int) = Q) :
    Calls Try.prog 30 #[.slice A xs.length c] w (fun e w' => e = .returned (.int .i64 (Q : Int)) ∧ Below w.heap.size w w') :=
  (major_impl A c xs w h).mono (by rintro e w' ⟨rfl, hb⟩; exact ⟨by rw [hQ], hb⟩)

set_option maxHeartbeats 4000000 in
set_option maxRecDepth 100000 in
theorem walk_FnStatistics (w : World) (A : Option Addr) (c : Nat) (bs : List Int) (hm : bs.length ≤ 9223372036854775807) (hr : Rd (Value.int .u8) w w.heap.size A bs) :
    Calls Try.prog 4 #[.slice A bs.length c] w (Rb w (.bool true)) := by
  obtain ⟨i0, hi, hz0, hz1, hz2⟩ := info_parts infoI
  rcases Nat.lt_or_ge 1048576 bs.length with hbig | hlen
  · have HC := Lib.hid (big_no A c bs w hbig hm)
    go_enter Try.func4, Try.ntmps4
    go_wp2_with fail
    (with_reducible refine HC.out.mono ?_)
    rintro e w1 ⟨rfl, rfl⟩
    go_wp2_with fail
    go_ret
    exact ⟨rfl, Below.refl _ _⟩
  have h0 : InY w A c bs := ⟨hlen, hr⟩
  have HC := Lib.hid (big_ok A c bs w hlen)
  clear hr hm
  go_enter Try.func4, Try.ntmps4
  go_wp2_with fail
  (with_reducible refine HC.out.mono ?_)
  rintro e w0 ⟨rfl, rfl⟩
  have HC := Lib.hid (drawInversions A c bs w h0)
  go_wp2_with fail
  (with_reducible refine HC.out.mono ?_)
  rintro e w1 ⟨D, dk, p, rfl, hp9, own, hb⟩
  have ip : In w1 D dk p := ⟨by omega, (own_caps own).1, Rd.of_own own⟩
  have h1 := h0.next hb
  have HC := Lib.hid (drawEuler A c bs w1 h1)
  clear own HC h0
  have HC := Lib.hid (drawEuler A c bs w1 h1)
  go_wp2_with fail
  (with_reducible refine HC.out.mono ?_)
  rintro e w2 ⟨n, rfl, hn0, hn1, hb2⟩
  have ip2 := ip.next hb2
  have h2 := h1.next hb2
  have HB := hb.trans (hb2.mono hb.size)
  clear ip h1 hb hb2 HC
  have HC := Lib.hid (euler_impl n (by omega) w2)
  go_wp2_with fail
  (with_reducible refine HC.out.mono ?_)
  rintro e w3 ⟨E, ek, rfl, _, _, ownE, hb⟩
  have ip := ip2.next hb
  have h3 := h2.next hb
  have rE := Rd.of_own ownE
  have HB := HB.trans (hb.mono HB.size)
  clear ip2 h2 ownE hb HC
  have HC := Lib.hid (drawMahon A c bs w3 h3)
  go_wp2_with fail
  (with_reducible refine HC.out.mono ?_)
  rintro e w4 ⟨k, rfl, hk0, hk1, hb⟩
  have ip4 := ip.next hb
  have rE4 := rE.next hb
  have HB := HB.trans (hb.mono HB.size)
  clear ip h3 rE hb HC
  have HC := Lib.hid (mahon_impl k (by omega) w4)
  go_wp2_with fail
  (with_reducible refine HC.out.mono ?_)
  rintro e x0 ⟨M, mk, rfl, _, _, ownM, hb⟩
  have ip := ip4.next hb
  have rE := rE4.next hb
  have rM := Rd.of_own ownM
  have HB := HB.trans (hb.mono HB.size)
  have hEl := eulG_length n
  have hMl := mahG_length k
  clear ip4 rE4 ownM hb HC
  have HC := Lib.hid (inv_impl D dk p x0 ip)
  go_wp2_with fail
  (with_reducible refine HC.out.mono ?_)
  rintro e x1 ⟨rfl, hb⟩
  clear HC
  replace ip := ip.next hb
  replace rE := rE.next hb
  replace rM := rM.next hb
  replace HB := HB.trans (hb.mono HB.size)
  clear hb
  have HC := Lib.hid (inv_spec D dk p x1 ip)
  go_wp2_with fail
  (with_reducible refine HC.out.mono ?_)
  rintro e x2 ⟨rfl, hb⟩
  clear HC
  replace ip := ip.next hb
  replace rE := rE.next hb
  replace rM := rM.next hb
  replace HB := HB.trans (hb.mono HB.size)
  clear hb
  have c0 : (invG p != invG p) = false := by simp
  have HC := Lib.hid (major_impl D dk p x2 ip)
  go_wp2_with fail
  (with_reducible refine HC.out.mono ?_)
  rintro e x3 ⟨rfl, hb⟩
  clear HC
  replace ip := ip.next hb
  replace rE := rE.next hb
  replace rM := rM.next hb
  replace HB := HB.trans (hb.mono HB.size)
  clear hb
  have HC := Lib.hid (major_spec D dk p x3 ip)
  go_wp2_with fail
  (with_reducible refine HC.out.mono ?_)
  rintro e x4 ⟨rfl, hb⟩
  clear HC
  replace ip := ip.next hb
  replace rE := rE.next hb
  replace rM := rM.next hb
  replace HB := HB.trans (hb.mono HB.size)
  clear hb
  have c1 : (majorG p != majorG p) = false := by simp
  have HC := Lib.hid (descents_impl D dk p x4 ip)
  go_wp2_with fail
  (with_reducible refine HC.out.mono ?_)
  rintro e x5 ⟨U, Uk, rfl, _, _, ownU, hb⟩
  clear HC
  have rU := Rd.of_own ownU
  replace ip := ip.next hb
  replace rE := rE.next hb
  replace rM := rM.next hb
  replace HB := HB.trans (hb.mono HB.size)
  clear hb ownU
  have HC := Lib.hid (descents_spec D dk p x5 ip)
  go_wp2_with fail
  (with_reducible refine HC.out.mono ?_)
  rintro e x6 ⟨V, Vk, rfl, _, _, ownV, hb⟩
  clear HC
  have rV := Rd.of_own ownV
  replace ip := ip.next hb
  replace rE := rE.next hb
  replace rM := rM.next hb
  replace rU := rU.next hb
  replace HB := HB.trans (hb.mono HB.size)
  clear hb ownV
  have hUl := listG_length p (descH p)
  have HC := Lib.hid (sameInts_eq U V Uk Vk _ _ (listG p (descH p)) (listG p (descH p)) x6 rfl rfl rfl (by omega) rU rV)
  go_wp2_with fail
  (with_reducible refine HC.out.mono ?_)
  rintro e x7 ⟨rfl, hd⟩
  clear HC
  have hb := (below_dr (Below.refl x6.heap.size x6) hd)
  replace ip := ip.next hb
  replace rE := rE.next hb
  replace rM := rM.next hb
  replace HB := HB.trans (hb.mono HB.size)
  clear hb hd
  clear rU rV hUl
  have HC := Lib.hid (records_impl D dk p x7 ip)
  go_wp2_with fail
  (with_reducible refine HC.out.mono ?_)
  rintro e x8 ⟨U, Uk, rfl, _, _, ownU, hb⟩
  clear HC
  have rU := Rd.of_own ownU
  replace ip := ip.next hb
  replace rE := rE.next hb
  replace rM := rM.next hb
  replace HB := HB.trans (hb.mono HB.size)
  clear hb ownU
  have HC := Lib.hid (records_spec D dk p x8 ip)
  go_wp2_with fail
  (with_reducible refine HC.out.mono ?_)
  rintro e x9 ⟨V, Vk, rfl, _, _, ownV, hb⟩
  clear HC
  have rV := Rd.of_own ownV
  replace ip := ip.next hb
  replace rE := rE.next hb
  replace rM := rM.next hb
  replace rU := rU.next hb
  replace HB := HB.trans (hb.mono HB.size)
  clear hb ownV
  have hUl := listG_length p (recH p)
  have HC := Lib.hid (sameInts_eq U V Uk Vk _ _ (listG p (recH p)) (listG p (recH p)) x9 rfl rfl rfl (by omega) rU rV)
  go_wp2_with fail
  (with_reducible refine HC.out.mono ?_)
  rintro e x10 ⟨rfl, hd⟩
  clear HC
  have hb := (below_dr (Below.refl x9.heap.size x9) hd)
  replace ip := ip.next hb
  replace rE := rE.next hb
  replace rM := rM.next hb
  replace HB := HB.trans (hb.mono HB.size)
  clear hb hd
  clear rU rV hUl
  have HC := Lib.hid (lows_impl D dk p x10 ip)
  go_wp2_with fail
  (with_reducible refine HC.out.mono ?_)
  rintro e x11 ⟨U, Uk, rfl, _, _, ownU, hb⟩
  clear HC
  have rU := Rd.of_own ownU
  replace ip := ip.next hb
  replace rE := rE.next hb
  replace rM := rM.next hb
  replace HB := HB.trans (hb.mono HB.size)
  clear hb ownU
  have HC := Lib.hid (lows_spec D dk p x11 ip)
  go_wp2_with fail
  (with_reducible refine HC.out.mono ?_)
  rintro e x12 ⟨V, Vk, rfl, _, _, ownV, hb⟩
  clear HC
  have rV := Rd.of_own ownV
  replace ip := ip.next hb
  replace rE := rE.next hb
  replace rM := rM.next hb
  replace rU := rU.next hb
  replace HB := HB.trans (hb.mono HB.size)
  clear hb ownV
  have hUl := listG_length p (lowH p)
  have HC := Lib.hid (sameInts_eq U V Uk Vk _ _ (listG p (lowH p)) (listG p (lowH p)) x12 rfl rfl rfl (by omega) rU rV)
  go_wp2_with fail
  (with_reducible refine HC.out.mono ?_)
  rintro e x13 ⟨rfl, hd⟩
  clear HC
  have hb := (below_dr (Below.refl x12.heap.size x12) hd)
  replace ip := ip.next hb
  replace rE := rE.next hb
  replace rM := rM.next hb
  replace HB := HB.trans (hb.mono HB.size)
  clear hb hd
  clear rU rV hUl
  have HC := Lib.hid (fixed_impl D dk p x13 ip)
  go_wp2_with fail
  (with_reducible refine HC.out.mono ?_)
  rintro e x14 ⟨rfl, hb⟩
  clear HC
  replace ip := ip.next hb
  replace rE := rE.next hb
  replace rM := rM.next hb
  replace HB := HB.trans (hb.mono HB.size)
  clear hb
  have HC := Lib.hid (fixed_spec D dk p x14 ip)
  go_wp2_with fail
  (with_reducible refine HC.out.mono ?_)
  rintro e x15 ⟨rfl, hb⟩
  clear HC
  replace ip := ip.next hb
  replace rE := rE.next hb
  replace rM := rM.next hb
  replace HB := HB.trans (hb.mono HB.size)
  clear hb
  have c2 : (countG p (fixH p) != countG p (fixH p)) = false := by simp
  have HC := Lib.hid (rises_impl D dk p x15 ip)
  go_wp2_with fail
  (with_reducible refine HC.out.mono ?_)
  rintro e x16 ⟨rfl, hb⟩
  clear HC
  replace ip := ip.next hb
  replace rE := rE.next hb
  replace rM := rM.next hb
  replace HB := HB.trans (hb.mono HB.size)
  clear hb
  have HC := Lib.hid (rises_spec D dk p x16 ip)
  go_wp2_with fail
  (with_reducible refine HC.out.mono ?_)
  rintro e x17 ⟨rfl, hb⟩
  clear HC
  replace ip := ip.next hb
  replace rE := rE.next hb
  replace rM := rM.next hb
  replace HB := HB.trans (hb.mono HB.size)
  clear hb
  have c3 : (countG p (riseH p) != countG p (riseH p)) = false := by simp
  have HC := Lib.hid (cycles_impl D dk p x17 ip)
  go_wp2_with fail
  (with_reducible refine HC.out.mono ?_)
  rintro e x18 ⟨rfl, hb⟩
  clear HC
  replace ip := ip.next hb
  replace rE := rE.next hb
  replace rM := rM.next hb
  replace HB := HB.trans (hb.mono HB.size)
  clear hb
  have HC := Lib.hid (cycles_spec D dk p x18 ip)
  go_wp2_with fail
  (with_reducible refine HC.out.mono ?_)
  rintro e x19 ⟨rfl, hb⟩
  clear HC
  replace ip := ip.next hb
  replace rE := rE.next hb
  replace rM := rM.next hb
  replace HB := HB.trans (hb.mono HB.size)
  clear hb
  have c4 : (cycG p != cycG p) = false := by simp
  have HC := Lib.hid (euler_spec n (by omega) x19)
  go_wp2_with fail
  (with_reducible refine HC.out.mono ?_)
  rintro e x20 ⟨V, Vk, rfl, _, _, ownV, hb⟩
  clear HC
  have rV := Rd.of_own ownV
  replace ip := ip.next hb
  replace rE := rE.next hb
  replace rM := rM.next hb
  replace HB := HB.trans (hb.mono HB.size)
  clear hb ownV
  have HC := Lib.hid (sameInts_eq E V ek Vk _ _ (eulG n) (eulG n) x20 rfl rfl rfl (by omega) rE rV)
  go_wp2_with fail
  (with_reducible refine HC.out.mono ?_)
  rintro e x21 ⟨rfl, hd⟩
  clear HC
  have hb := (below_dr (Below.refl x20.heap.size x20) hd)
  replace ip := ip.next hb
  replace rE := rE.next hb
  replace rM := rM.next hb
  replace HB := HB.trans (hb.mono HB.size)
  clear hb hd
  clear rV
  have HC := Lib.hid (mahon_spec k (by omega) x21)
  go_wp2_with fail
  (with_reducible refine HC.out.mono ?_)
  rintro e x22 ⟨V, Vk, rfl, _, _, ownV, hb⟩
  clear HC
  have rV := Rd.of_own ownV
  replace ip := ip.next hb
  replace rE := rE.next hb
  replace rM := rM.next hb
  replace HB := HB.trans (hb.mono HB.size)
  clear hb ownV
  have HC := Lib.hid (sameInts_eq M V mk Vk _ _ (mahG k) (mahG k) x22 rfl rfl rfl (by omega) rM rV)
  go_wp2_with fail
  (with_reducible refine HC.out.mono ?_)
  rintro e x23 ⟨rfl, hd⟩
  clear HC
  have hb := (below_dr (Below.refl x22.heap.size x22) hd)
  replace ip := ip.next hb
  replace rE := rE.next hb
  replace rM := rM.next hb
  replace HB := HB.trans (hb.mono HB.size)
  clear hb hd
  clear rV
  obtain ⟨bN, hbN⟩ : ∃ b : Bool, b = decide (1 ≤ n ∧ n ≤ 5) := ⟨_, rfl⟩
  go_upto_region 10 with (fail)
  go_cut [104] from 99 to 104 (fun s wz => s = .bool bN ∧ wz = x23)
  case first =>
    by_cases h1 : 1 ≤ n
    · by_cases h5 : n ≤ 5
      · have HB5 := Lib.hid (show true = bN by rw [hbN]; exact (decide_eq_true ⟨h1, h5⟩).symm)
        clear hbN
        go_wp2_with fail
        go_meet
        case rel => exact ⟨by rw [← HB5.out], rfl⟩
      · have HB5 := Lib.hid (show false = bN by rw [hbN]; exact (decide_eq_false (fun h => h5 h.2)).symm)
        clear hbN
        go_wp2_with fail
        go_meet
        case rel => exact ⟨by rw [← HB5.out], rfl⟩
    · have HB5 := Lib.hid (show false = bN by rw [hbN]; exact (decide_eq_false (fun h => h1 h.1)).symm)
      clear hbN
      go_wp2_with fail
      go_meet
      case rel => exact ⟨by rw [← HB5.out], rfl⟩
  obtain ⟨rfl, rfl⟩ := hcut
  obtain ⟨y0, rfl⟩ : ∃ w', w' = wc := ⟨_, rfl⟩
  go_upto_if 104 with (fail)
  go_cut [8, 9, 10, 11] from 105 to 160 (fun _ _ _ _ wz => Hid (Rd (Value.int .i64) wz wz.heap.size M (mahG k) ∧ Below w.heap.size w wz))
  case first =>
    by_cases hN : 1 ≤ n ∧ n ≤ 5
    · obtain rfl : bN = true := by rw [hbN]; exact decide_eq_true hN
      clear hbN
      obtain ⟨m, rfl⟩ := Int.eq_ofNat_of_zero_le (show 0 ≤ n by omega)
      have hm1 : 1 ≤ m ∧ m ≤ 5 := by omega
      have HST := Lib.hid (statN_at hm1)
      clear c0 c1 c2 c3 c4 ip hN hn0 hn1
      have hN1 : (1 : Int) ≤ (m : Int) := by omega
      have hN2 : (m : Int) ≤ 5 := by omega
      go_upto_region 12 with (at_make; refine wpList_make_full _ rfl _ _ 24 rfl (y0.heap.size) 3 i0 (.int .i64 0) 1 Try.underlying24 hi hz0 hz1 .i64 .i64 _ _ (m) rfl rfl (by omega) (by omega) (by rw [hz2]; omega) (by unfold maxLen; omega) (by omega) ?_; intro w1 hown1 hgrow1)
      go_upto_region 13 with (at_make; refine wpList_make_full _ rfl _ _ 24 rfl (w1.heap.size) 3 i0 (.int .i64 0) 1 Try.underlying24 hi hz0 hz1 .i64 .i64 _ _ (m) rfl rfl (by omega) (by omega) (by rw [hz2]; omega) (by unfold maxLen; omega) (by omega) ?_; intro w2 hown2 hgrow2)
      have hbA := below_none hgrow1
      have hbB := below_none hgrow2
      have oD := own_below (made_zeros hown1) hbB
      have oR := made_zeros hown2
      have sz1 : y0.heap.size < w1.heap.size := (oD0_lt hown1 (by omega))
      have sz2 : w1.heap.size < w2.heap.size := (oD0_lt hown2 (by omega))
      have hb := hbA.trans (hbB.mono (by omega))
      clear hown1 hown2 hgrow1 hgrow2 hbA hbB
      have HC := Lib.hid (permsOf_spec (m : Int) w2)
      go_wp2_with fail
      (with_reducible refine HC.out.mono ?_)
      rintro e w3 ⟨PA, pc, rs, rfl, hX, hO, hbC⟩
      have HX : Hid (rs.map Row.xs = permsL m) := Lib.hid (by rw [hX, permsG, if_pos (by omega)]; rfl)
      have hrsl : rs.length ≤ 120 := by
        have h1 := congrArg List.length HX.out
        rw [List.length_map] at h1
        rw [h1]
        exact permsL_120 (by omega)
      have oD := own_below oD hbC
      have oR := own_below oR hbC
      have sz3 := hbC.size
      have hb := hb.trans (hbC.mono (by omega))
      clear hX hbC HC
      go_wp2_with fail
      go_loopw [11] (fun i wr => ∃ k : Nat, k ≤ rs.length ∧ i = .int .i64 k ∧ wr.ownsRow y0.heap.size 3 1 (.slice (some ⟨y0.heap.size, 0, none⟩) m m) m ((histTo fDown m (rs.map Row.xs) k).map (Value.int .i64)) ∧
        wr.ownsRow w1.heap.size 3 1 (.slice (some ⟨w1.heap.size, 0, none⟩) m m) m ((histTo fRise m (rs.map Row.xs) k).map (Value.int .i64)) ∧ Own wr w2.heap.size w3.heap.size rs [⟨PA, pc, rs.map Row.v⟩] ∧ Below y0.heap.size y0 wr ∧ w3.heap.size ≤ wr.heap.size) (fun i _ => rs.length - (intOf i).toNat)
      case atStart => exact ⟨0, Nat.zero_le _, rfl, oD, oR, hO, hb, Nat.le_refl _⟩
      case round =>
        clear oD oR hO hb
        obtain ⟨j, hj, rfl, oD, oR, hO, hb, szr⟩ := hrel
        rcases Nat.lt_or_ge j rs.length with hlt | hge
        · have hjl : (j : Int) < (rs.length : Int) := by omega
          have hj0 : (0 : Int) ≤ (j : Int) := Int.natCast_nonneg _
          obtain ⟨pb, cap, hv, hpb, hlp⟩ := hO.out.form (by simp; omega)
          have hv : PA = some ⟨pb, 0, none⟩ := by injection hv
          subst hv
          have hcell := hO.read.cellAt j hlt
          have hrow := own_row hO (r := rs[j]) (List.getElem_mem hlt) szr
          have hmem : rs[j].xs ∈ permsL m := by rw [← HX.out]; exact List.mem_map.2 ⟨rs[j], List.getElem_mem hlt, rfl⟩
          have hget : Hid ((rs.map Row.xs)[j]?.getD [] = rs[j].xs) := Lib.hid (by simp [hlt])
          generalize hrj : rs[j] = r at hcell hrow hmem hget
          obtain ⟨rA, rc, rx⟩ := r
          simp only [Nat.zero_add] at hcell hrow hmem hget
          obtain ⟨hx5, hxd, hxr, hxe⟩ := statN_row HST.out hmem
          have hin : In wr rA rc rx := ⟨by omega, hrow.1, hrow.2⟩
          have hpl : pb < wr.heap.size := hlp
          have HRJ := Lib.hid hrj
          clear hrow hmem hrj
          go_upto_region 17 with fail
          go_cut [11] (fun s11 wz => s11 = .int .i64 (j : Int) ∧ Hid (wz.ownsRow y0.heap.size 3 1 (.slice (some ⟨y0.heap.size, 0, none⟩) m m) m ((histTo fDown m (rs.map Row.xs) (j + 1)).map (Value.int .i64)) ∧
            wz.ownsRow w1.heap.size 3 1 (.slice (some ⟨w1.heap.size, 0, none⟩) m m) m ((histTo fRise m (rs.map Row.xs) j).map (Value.int .i64)) ∧ Own wz w2.heap.size w3.heap.size rs [⟨some ⟨pb, 0, none⟩, pc, rs.map Row.v⟩] ∧ Below y0.heap.size y0 wz ∧ w3.heap.size ≤ wz.heap.size))
          case first =>
            have hS7 : wr.drew.cell? ⟨pb, j, none⟩ = some (Value.slice rA rx.length rc) := hcell
            have HIN8 := Lib.hid (hin.dr (Dr.refl wr).drew)
            have hpl8 : pb < wr.drew.heap.size := hpl
            obtain ⟨Q, hQe⟩ : ∃ Q, Q = fDown rx := ⟨_, rfl⟩
            have hQ : Q < (histTo fDown m (rs.map Row.xs) j).length := by rw [histTo_length]; omega
            have HOD := Lib.hid ((Dr.refl wr).drew.own oD)
            have HOR := Lib.hid ((Dr.refl wr).drew.own oR)
            have HHO := Lib.hid (hO.dr (Dr.refl wr).drew)
            have HHX := Lib.hid (below_dr hb (Dr.refl wr).drew)
            have HF := Lib.hid (show (listG rx (descH rx)).length = Q from hQe.symm)
            have HH := Lib.hid (show histTo fDown m (rs.map Row.xs) (j + 1) = addAt (histTo fDown m (rs.map Row.xs) j) Q 1 by rw [histTo, hget.out, hQe])
            have hQm : Q < m := by omega
            have hQi : (Q : Int) < (m : Int) := by omega
            have hQ0 : (0 : Int) ≤ (Q : Int) := Int.natCast_nonneg _
            clear hcell hin oD oR hO hb hxd hQe
            refine wp_region_held_drew (S := (fun v => v.cell? ⟨pb, j, none⟩ = some (Value.slice rA rx.length rc))) (by kernel_rfl) hS7 (fun hHeld => ?_)
            refine wpAnyH_take (i := 0) (oi := _) (v := ?_) rfl (by kernel_rfl) (by kernel_rfl) (by kernel_rfl) (fun _ _ _ h => h) (Or.inl ⟨by rfl, ?_⟩) (by assumption) ?_
            rotate_left
            · intro w hSw
              try dsimp only at hSw
              go_simp
              all_goals with_reducible rfl
            try simp only [Act.put, List.setIfInBounds_toArray, List.set_cons_zero, List.set_cons_succ, List.getElem_toArray, List.getElem_cons_zero]
            refine wpAnyH_take (i := 1) (oi := _) (v := ?_) rfl (by kernel_rfl) (by kernel_rfl) (by kernel_rfl) (fun _ _ _ h => h) (Or.inl ⟨by rfl, ?_⟩) (by assumption) ?_
            rotate_left
            · intro w hSw
              try dsimp only at hSw
              go_simp
              all_goals with_reducible rfl
            try simp only [Act.put, List.setIfInBounds_toArray, List.set_cons_zero, List.set_cons_succ, List.getElem_toArray, List.getElem_cons_succ, List.getElem_cons_zero]
            refine wpAnyH_take (i := 2) (oi := _) (v := ?_) rfl (by kernel_rfl) (by kernel_rfl) (by kernel_rfl) (fun _ _ _ h => h) (Or.inl ⟨by rfl, ?_⟩) (by assumption) ?_
            rotate_left
            · intro w hSw
              try dsimp only at hSw
              go_simp
              all_goals with_reducible rfl
            try simp only [Act.put, List.setIfInBounds_toArray, List.set_cons_zero, List.set_cons_succ, List.getElem_toArray, List.getElem_cons_succ, List.getElem_cons_zero]
            refine wpAnyH_take (i := 3) (oi := _) (v := ?_) rfl (by kernel_rfl) (by kernel_rfl) (by kernel_rfl) (fun _ _ _ h => h) (Or.inl ⟨by rfl, ?_⟩) (by assumption) ?_
            rotate_left
            · intro w hSw
              try dsimp only at hSw
              go_simp
              all_goals with_reducible rfl
            try simp only [Act.put, List.setIfInBounds_toArray, List.set_cons_zero, List.set_cons_succ, List.getElem_toArray, List.getElem_cons_succ, List.getElem_cons_zero]
            refine wpAnyH_take (i := 4) (oi := _) (v := ?_) rfl (by kernel_rfl) (by kernel_rfl) (by kernel_rfl) (fun _ _ _ h => h) (Or.inl ⟨by rfl, ?_⟩) (by assumption) ?_
            rotate_left
            · intro w hSw
              try dsimp only at hSw
              go_simp
              all_goals with_reducible rfl
            try simp only [Act.put, List.setIfInBounds_toArray, List.set_cons_zero, List.set_cons_succ, List.getElem_toArray, List.getElem_cons_succ, List.getElem_cons_zero]
            refine wpAnyH_take (i := 7) (oi := _) (v := ?_) rfl (by kernel_rfl) (by kernel_rfl) (by kernel_rfl) (fun _ _ _ h => h) (Or.inl ⟨by rfl, ?_⟩) (by assumption) ?_
            rotate_left
            · intro w hSw
              try dsimp only at hSw
              go_simp
              all_goals with_reducible rfl
            try simp only [Act.put, List.setIfInBounds_toArray, List.set_cons_zero, List.set_cons_succ, List.getElem_toArray, List.getElem_cons_succ, List.getElem_cons_zero]
            refine wpAnyH_take (i := 8) (oi := _) (v := ?_) rfl (by kernel_rfl) (by kernel_rfl) (by kernel_rfl) (fun _ _ _ h => h) (Or.inl ⟨by rfl, ?_⟩) (by assumption) ?_
            rotate_left
            · intro w hSw
              try dsimp only at hSw
              go_simp
              all_goals with_reducible rfl
            try simp only [Act.put, List.setIfInBounds_toArray, List.set_cons_zero, List.set_cons_succ, List.getElem_toArray, List.getElem_cons_succ, List.getElem_cons_zero]
            refine wpAnyH_take (i := 9) (oi := _) (v := ?_) rfl (by kernel_rfl) (by kernel_rfl) (by kernel_rfl) (fun _ _ _ h => h) (Or.inl ⟨by rfl, ?_⟩) (by assumption) ?_
            rotate_left
            · intro w hSw
              try dsimp only at hSw
              go_simp
              all_goals with_reducible rfl
            try simp only [Act.put, List.setIfInBounds_toArray, List.set_cons_zero, List.set_cons_succ, List.getElem_toArray, List.getElem_cons_succ, List.getElem_cons_zero]
            refine wpAnyH_take (i := 10) (oi := _) (v := ?_) rfl (by kernel_rfl) (by kernel_rfl) (by kernel_rfl) (fun _ _ _ h => h) (Or.inl ⟨by rfl, ?_⟩) (by assumption) ?_
            rotate_left
            · intro w hSw
              try dsimp only at hSw
              go_simp
              all_goals with_reducible rfl
            try simp only [Act.put, List.setIfInBounds_toArray, List.set_cons_zero, List.set_cons_succ, List.getElem_toArray, List.getElem_cons_succ, List.getElem_cons_zero]
            refine wpAnyH_take (i := 11) (oi := _) (v := ?_) rfl (by kernel_rfl) (by kernel_rfl) (by kernel_rfl) (fun _ _ _ h => h) (Or.inl ⟨by rfl, ?_⟩) (by assumption) ?_
            rotate_left
            · intro w hSw
              try dsimp only at hSw
              go_simp
              all_goals with_reducible rfl
            try simp only [Act.put, List.setIfInBounds_toArray, List.set_cons_zero, List.set_cons_succ, List.getElem_toArray, List.getElem_cons_succ, List.getElem_cons_zero]
            refine wpAnyH_ready (rs := [5]) (by kernel_rfl) (by simp) ?_
            refine AllReadyH.cons (o := _) rfl (fun K hK => ?_) AllReadyH.nil
            go_simp
            refine Calls.mono (descents_q rA rc rx _ (by with_reducible exact HIN8.out) HF.out) ?_
            rintro e w8 ⟨U8, uk8, rfl, hb8⟩
            have hS8 : w8.cell? ⟨pb, j, none⟩ = some (Value.slice rA rx.length rc) := (hb8.cell hpl8).trans hS7
            have HIN9 := Lib.hid (HIN8.out.next hb8)
            have hpl9 : pb < w8.heap.size := by have := hb8.size; simp at this; omega
            have hq8 := (own_put (own_below HOD.out hb8) Q hQ 0).1
            go_wp2_with fail
            refine hK.out _ _ (hS8) (fun hHeld => ?_)
            clear hK K
            try simp only [Act.put, List.setIfInBounds_toArray, List.set_cons_zero, List.set_cons_succ, List.getElem_toArray, List.getElem_cons_succ, List.getElem_cons_zero]
            refine wpAnyH_take (i := 6) (oi := _) (v := ?_) rfl (by kernel_rfl) (by kernel_rfl) (by kernel_rfl) (fun _ _ _ h => h) (Or.inl ⟨by rfl, ?_⟩) (by assumption) ?_
            rotate_left
            · intro w hSw
              try dsimp only at hSw
              go_simp
              all_goals with_reducible rfl
            try simp only [Act.put, List.setIfInBounds_toArray, List.set_cons_zero, List.set_cons_succ, List.getElem_toArray, List.getElem_cons_succ, List.getElem_cons_zero]
            refine wpAnyH_ready (rs := [12]) (by kernel_rfl) (by simp) ?_
            refine AllReadyH.cons (o := _) rfl (fun K hK => ?_) AllReadyH.nil
            go_simp
            refine Calls.mono (descents_q rA rc rx _ (by with_reducible exact HIN9.out) HF.out) ?_
            rintro e w9 ⟨U9, uk9, rfl, hb9⟩
            have hS9 : w9.cell? ⟨pb, j, none⟩ = some (Value.slice rA rx.length rc) := (hb9.cell hpl9).trans hS8
            have hb := hb8.trans (hb9.mono hb8.size)
            have hq9 := (own_put (own_below HOD.out hb) Q hQ 0).1
            have hf9 := (own_put (own_below HOD.out hb) Q hQ 0).2.1
            go_wp2_with fail
            refine hK.out _ _ (hS9) (fun hHeld => ?_)
            clear hK K
            try simp only [Act.put, List.setIfInBounds_toArray, List.set_cons_zero, List.set_cons_succ, List.getElem_toArray, List.getElem_cons_succ, List.getElem_cons_zero]
            refine wpAnyH_take (i := 13) (oi := _) (v := ?_) rfl (by kernel_rfl) (by kernel_rfl) (by kernel_rfl) (fun _ _ _ h => h) (Or.inl ⟨by rfl, ?_⟩) (by assumption) ?_
            rotate_left
            · intro w hSw
              try dsimp only at hSw
              go_simp
              all_goals with_reducible rfl
            try simp only [Act.put, List.setIfInBounds_toArray, List.set_cons_zero, List.set_cons_succ, List.getElem_toArray, List.getElem_cons_succ, List.getElem_cons_zero]
            refine wpAnyH_take (i := 14) (oi := _) (v := ?_) rfl (by kernel_rfl) (by kernel_rfl) (by kernel_rfl) (fun _ _ _ h => h) (Or.inl ⟨by rfl, ?_⟩) (by assumption) ?_
            rotate_left
            · intro w hSw
              try dsimp only at hSw
              go_simp
              all_goals with_reducible rfl
            try simp only [Act.put, List.setIfInBounds_toArray, List.set_cons_zero, List.set_cons_succ, List.getElem_toArray, List.getElem_cons_succ, List.getElem_cons_zero]
            refine wpAnyH_ready (rs := [15]) (by kernel_rfl) (by simp) ?_
            refine AllReadyH.cons (o := _) rfl (fun K hK => ?_) AllReadyH.nil
            go_simp
            refine hK.out _ _ (hS9) (fun hHeld => ?_)
            clear hK K
            try simp only [Act.put, List.setIfInBounds_toArray, List.set_cons_zero, List.set_cons_succ, List.getElem_toArray, List.getElem_cons_succ, List.getElem_cons_zero]
            refine wpAnyH_take (i := 16) (oi := _) (v := ?_) rfl (by kernel_rfl) (by kernel_rfl) (by kernel_rfl) (fun _ _ _ h => h) (Or.inl ⟨by rfl, ?_⟩) (by assumption) ?_
            rotate_left
            · intro w hSw
              try dsimp only at hSw
              go_simp
              all_goals with_reducible rfl
            try simp only [Act.put, List.setIfInBounds_toArray, List.set_cons_zero, List.set_cons_succ, List.getElem_toArray, List.getElem_cons_succ, List.getElem_cons_zero]
            refine wpAnyH_take (i := 17) (oi := _) (v := ?_) rfl (by kernel_rfl) (by kernel_rfl) (by kernel_rfl) (fun _ _ _ h => h) (Or.inl ⟨by rfl, ?_⟩) (by assumption) ?_
            rotate_left
            · intro w hSw
              try dsimp only at hSw
              go_simp
              all_goals with_reducible rfl
            try simp only [Act.put, List.setIfInBounds_toArray, List.set_cons_zero, List.set_cons_succ, List.getElem_toArray, List.getElem_cons_succ, List.getElem_cons_zero]
            refine wpAnyH_ready (rs := [18]) (by kernel_rfl) (by simp) ?_
            refine AllReadyH.cons (o := _) rfl (fun K hK => ?_) AllReadyH.nil
            go_simp
            refine hK.out _ _ ((World.cell?_setCell_other _ _ _ _ (fun e => by injection e with e; omega)).trans hS9) (fun hHeld => ?_)
            clear hK K
            try simp only [Act.put, List.setIfInBounds_toArray, List.set_cons_zero, List.set_cons_succ, List.getElem_toArray, List.getElem_cons_succ, List.getElem_cons_zero]
            refine wpAnyH_done (by kernel_rfl) ?_ _
            have HK := Lib.hid (bump_facts (B := y0.heap.size) (x0 := y0) (hb.mono (Nat.le_refl _)) HOD.out (HOR.out) HHO.out HHX.out (by omega) (by omega) (Nat.le_refl _) hQ (IntWalk.i64_left _))
            go_wp2_with fail
            go_meet
            case rel => exact ⟨rfl, Lib.hid (by rw [HH.out]; exact ⟨HK.out.1, HK.out.2.1, HK.out.2.2.1, HK.out.2.2.2.1, Nat.le_trans szr HK.out.2.2.2.2⟩)⟩
          obtain ⟨rfl, hK⟩ := hcut
          clear hcell hin oD oR hO hb hpl szr
          obtain ⟨wr, rfl⟩ : ∃ w', w' = wc := ⟨_, rfl⟩
          obtain ⟨oD, oR, hO, hb, szr⟩ := hK.out
          have hcell := hO.read.cellAt j hlt
          have hrow := own_row hO (r := rs[j]) (List.getElem_mem hlt) szr
          rw [HRJ.out] at hcell hrow
          simp only [Nat.zero_add] at hcell hrow
          have hin : In wr rA rc rx := ⟨by omega, hrow.1, hrow.2⟩
          have hpl : pb < wr.heap.size := by
            obtain ⟨q2, _, hv2, _, hlp2⟩ := hO.out.form (by simp; omega)
            injection hv2 with e1
            injection e1 with e1
            injection e1 with e1
            omega
          have hS7 : wr.drew.cell? ⟨pb, j, none⟩ = some (Value.slice rA rx.length rc) := hcell
          have HIN8 := Lib.hid (hin.dr (Dr.refl wr).drew)
          have hpl8 : pb < wr.drew.heap.size := hpl
          obtain ⟨Q, hQe⟩ : ∃ Q, Q = fRise rx := ⟨_, rfl⟩
          have hQ : Q < (histTo fRise m (rs.map Row.xs) j).length := by rw [histTo_length]; omega
          have HOD := Lib.hid ((Dr.refl wr).drew.own oR)
          have HOR := Lib.hid ((Dr.refl wr).drew.own oD)
          have HHO := Lib.hid (hO.dr (Dr.refl wr).drew)
          have HHX := Lib.hid (below_dr hb (Dr.refl wr).drew)
          have HF := Lib.hid (show (countG rx (riseH rx) : Int) = Q by rw [hxe, hQe])
          have HH := Lib.hid (show histTo fRise m (rs.map Row.xs) (j + 1) = addAt (histTo fRise m (rs.map Row.xs) j) Q 1 by rw [histTo, hget.out, hQe])
          have hQm : Q < m := by omega
          have hQi : (Q : Int) < (m : Int) := by omega
          have hQ0 : (0 : Int) ≤ (Q : Int) := Int.natCast_nonneg _
          clear hcell hin oD oR hO hb hxd hxr hxe hQe hK hrow
          go_wp2_with fail
          refine wp_region_held_drew (S := (fun v => v.cell? ⟨pb, j, none⟩ = some (Value.slice rA rx.length rc))) (by kernel_rfl) hS7 (fun hHeld => ?_)
          refine wpAnyH_take (i := 0) (oi := _) (v := ?_) rfl (by kernel_rfl) (by kernel_rfl) (by kernel_rfl) (fun _ _ _ h => h) (Or.inl ⟨by rfl, ?_⟩) (by assumption) ?_
          rotate_left
          · intro w hSw
            try dsimp only at hSw
            go_simp
            all_goals with_reducible rfl
          try simp only [Act.put, List.setIfInBounds_toArray, List.set_cons_zero, List.set_cons_succ, List.getElem_toArray, List.getElem_cons_zero]
          refine wpAnyH_take (i := 1) (oi := _) (v := ?_) rfl (by kernel_rfl) (by kernel_rfl) (by kernel_rfl) (fun _ _ _ h => h) (Or.inl ⟨by rfl, ?_⟩) (by assumption) ?_
          rotate_left
          · intro w hSw
            try dsimp only at hSw
            go_simp
            all_goals with_reducible rfl
          try simp only [Act.put, List.setIfInBounds_toArray, List.set_cons_zero, List.set_cons_succ, List.getElem_toArray, List.getElem_cons_succ, List.getElem_cons_zero]
          refine wpAnyH_take (i := 2) (oi := _) (v := ?_) rfl (by kernel_rfl) (by kernel_rfl) (by kernel_rfl) (fun _ _ _ h => h) (Or.inl ⟨by rfl, ?_⟩) (by assumption) ?_
          rotate_left
          · intro w hSw
            try dsimp only at hSw
            go_simp
            all_goals with_reducible rfl
          try simp only [Act.put, List.setIfInBounds_toArray, List.set_cons_zero, List.set_cons_succ, List.getElem_toArray, List.getElem_cons_succ, List.getElem_cons_zero]
          refine wpAnyH_take (i := 3) (oi := _) (v := ?_) rfl (by kernel_rfl) (by kernel_rfl) (by kernel_rfl) (fun _ _ _ h => h) (Or.inl ⟨by rfl, ?_⟩) (by assumption) ?_
          rotate_left
          · intro w hSw
            try dsimp only at hSw
            go_simp
            all_goals with_reducible rfl
          try simp only [Act.put, List.setIfInBounds_toArray, List.set_cons_zero, List.set_cons_succ, List.getElem_toArray, List.getElem_cons_succ, List.getElem_cons_zero]
          refine wpAnyH_take (i := 4) (oi := _) (v := ?_) rfl (by kernel_rfl) (by kernel_rfl) (by kernel_rfl) (fun _ _ _ h => h) (Or.inl ⟨by rfl, ?_⟩) (by assumption) ?_
          rotate_left
          · intro w hSw
            try dsimp only at hSw
            go_simp
            all_goals with_reducible rfl
          try simp only [Act.put, List.setIfInBounds_toArray, List.set_cons_zero, List.set_cons_succ, List.getElem_toArray, List.getElem_cons_succ, List.getElem_cons_zero]
          refine wpAnyH_take (i := 6) (oi := _) (v := ?_) rfl (by kernel_rfl) (by kernel_rfl) (by kernel_rfl) (fun _ _ _ h => h) (Or.inl ⟨by rfl, ?_⟩) (by assumption) ?_
          rotate_left
          · intro w hSw
            try dsimp only at hSw
            go_simp
            all_goals with_reducible rfl
          try simp only [Act.put, List.setIfInBounds_toArray, List.set_cons_zero, List.set_cons_succ, List.getElem_toArray, List.getElem_cons_succ, List.getElem_cons_zero]
          refine wpAnyH_take (i := 7) (oi := _) (v := ?_) rfl (by kernel_rfl) (by kernel_rfl) (by kernel_rfl) (fun _ _ _ h => h) (Or.inl ⟨by rfl, ?_⟩) (by assumption) ?_
          rotate_left
          · intro w hSw
            try dsimp only at hSw
            go_simp
            all_goals with_reducible rfl
          try simp only [Act.put, List.setIfInBounds_toArray, List.set_cons_zero, List.set_cons_succ, List.getElem_toArray, List.getElem_cons_succ, List.getElem_cons_zero]
          refine wpAnyH_take (i := 8) (oi := _) (v := ?_) rfl (by kernel_rfl) (by kernel_rfl) (by kernel_rfl) (fun _ _ _ h => h) (Or.inl ⟨by rfl, ?_⟩) (by assumption) ?_
          rotate_left
          · intro w hSw
            try dsimp only at hSw
            go_simp
            all_goals with_reducible rfl
          try simp only [Act.put, List.setIfInBounds_toArray, List.set_cons_zero, List.set_cons_succ, List.getElem_toArray, List.getElem_cons_succ, List.getElem_cons_zero]
          refine wpAnyH_take (i := 9) (oi := _) (v := ?_) rfl (by kernel_rfl) (by kernel_rfl) (by kernel_rfl) (fun _ _ _ h => h) (Or.inl ⟨by rfl, ?_⟩) (by assumption) ?_
          rotate_left
          · intro w hSw
            try dsimp only at hSw
            go_simp
            all_goals with_reducible rfl
          try simp only [Act.put, List.setIfInBounds_toArray, List.set_cons_zero, List.set_cons_succ, List.getElem_toArray, List.getElem_cons_succ, List.getElem_cons_zero]
          refine wpAnyH_take (i := 10) (oi := _) (v := ?_) rfl (by kernel_rfl) (by kernel_rfl) (by kernel_rfl) (fun _ _ _ h => h) (Or.inl ⟨by rfl, ?_⟩) (by assumption) ?_
          rotate_left
          · intro w hSw
            try dsimp only at hSw
            go_simp
            all_goals with_reducible rfl
          try simp only [Act.put, List.setIfInBounds_toArray, List.set_cons_zero, List.set_cons_succ, List.getElem_toArray, List.getElem_cons_succ, List.getElem_cons_zero]
          refine wpAnyH_ready (rs := [5]) (by kernel_rfl) (by simp) ?_
          refine AllReadyH.cons (o := _) rfl (fun K hK => ?_) AllReadyH.nil
          go_simp
          refine Calls.mono (rises_q rA rc rx _ (by with_reducible exact HIN8.out) HF.out) ?_
          rintro e w8 ⟨rfl, hb8⟩
          have hS8 : w8.cell? ⟨pb, j, none⟩ = some (Value.slice rA rx.length rc) := (hb8.cell hpl8).trans hS7
          have HIN9 := Lib.hid (HIN8.out.next hb8)
          have hpl9 : pb < w8.heap.size := by have := hb8.size; simp at this; omega
          have hq8 := (own_put (own_below HOD.out hb8) Q hQ 0).1
          go_wp2_with fail
          refine hK.out _ _ (hS8) (fun hHeld => ?_)
          clear hK K
          try simp only [Act.put, List.setIfInBounds_toArray, List.set_cons_zero, List.set_cons_succ, List.getElem_toArray, List.getElem_cons_succ, List.getElem_cons_zero]
          refine wpAnyH_ready (rs := [11]) (by kernel_rfl) (by simp) ?_
          refine AllReadyH.cons (o := _) rfl (fun K hK => ?_) AllReadyH.nil
          go_simp
          refine Calls.mono (rises_q rA rc rx _ (by with_reducible exact HIN9.out) HF.out) ?_
          rintro e w9 ⟨rfl, hb9⟩
          have hS9 : w9.cell? ⟨pb, j, none⟩ = some (Value.slice rA rx.length rc) := (hb9.cell hpl9).trans hS8
          have hb := hb8.trans (hb9.mono hb8.size)
          have hq9 := (own_put (own_below HOD.out hb) Q hQ 0).1
          have hf9 := (own_put (own_below HOD.out hb) Q hQ 0).2.1
          go_wp2_with fail
          refine hK.out _ _ (hS9) (fun hHeld => ?_)
          clear hK K
          try simp only [Act.put, List.setIfInBounds_toArray, List.set_cons_zero, List.set_cons_succ, List.getElem_toArray, List.getElem_cons_succ, List.getElem_cons_zero]
          refine wpAnyH_take (i := 12) (oi := _) (v := ?_) rfl (by kernel_rfl) (by kernel_rfl) (by kernel_rfl) (fun _ _ _ h => h) (Or.inl ⟨by rfl, ?_⟩) (by assumption) ?_
          rotate_left
          · intro w hSw
            try dsimp only at hSw
            go_simp
            all_goals with_reducible rfl
          try simp only [Act.put, List.setIfInBounds_toArray, List.set_cons_zero, List.set_cons_succ, List.getElem_toArray, List.getElem_cons_succ, List.getElem_cons_zero]
          refine wpAnyH_ready (rs := [13]) (by kernel_rfl) (by simp) ?_
          refine AllReadyH.cons (o := _) rfl (fun K hK => ?_) AllReadyH.nil
          go_simp
          refine hK.out _ _ (hS9) (fun hHeld => ?_)
          clear hK K
          try simp only [Act.put, List.setIfInBounds_toArray, List.set_cons_zero, List.set_cons_succ, List.getElem_toArray, List.getElem_cons_succ, List.getElem_cons_zero]
          refine wpAnyH_take (i := 14) (oi := _) (v := ?_) rfl (by kernel_rfl) (by kernel_rfl) (by kernel_rfl) (fun _ _ _ h => h) (Or.inl ⟨by rfl, ?_⟩) (by assumption) ?_
          rotate_left
          · intro w hSw
            try dsimp only at hSw
            go_simp
            all_goals with_reducible rfl
          try simp only [Act.put, List.setIfInBounds_toArray, List.set_cons_zero, List.set_cons_succ, List.getElem_toArray, List.getElem_cons_succ, List.getElem_cons_zero]
          refine wpAnyH_take (i := 15) (oi := _) (v := ?_) rfl (by kernel_rfl) (by kernel_rfl) (by kernel_rfl) (fun _ _ _ h => h) (Or.inl ⟨by rfl, ?_⟩) (by assumption) ?_
          rotate_left
          · intro w hSw
            try dsimp only at hSw
            go_simp
            all_goals with_reducible rfl
          try simp only [Act.put, List.setIfInBounds_toArray, List.set_cons_zero, List.set_cons_succ, List.getElem_toArray, List.getElem_cons_succ, List.getElem_cons_zero]
          refine wpAnyH_ready (rs := [16]) (by kernel_rfl) (by simp) ?_
          refine AllReadyH.cons (o := _) rfl (fun K hK => ?_) AllReadyH.nil
          go_simp
          refine hK.out _ _ ((World.cell?_setCell_other _ _ _ _ (fun e => by injection e with e; omega)).trans hS9) (fun hHeld => ?_)
          clear hK K
          try simp only [Act.put, List.setIfInBounds_toArray, List.set_cons_zero, List.set_cons_succ, List.getElem_toArray, List.getElem_cons_succ, List.getElem_cons_zero]
          refine wpAnyH_done (by kernel_rfl) ?_ _
          have HK := Lib.hid (bump_facts (B := y0.heap.size) (x0 := y0) (hb.mono (Nat.le_refl _)) HOD.out (HOR.out) HHO.out HHX.out (by omega) (by omega) (by omega) hQ (u := wrap64 ((histTo fRise m (rs.map Row.xs) j)[Q] + 1)) rfl)
          go_wp2_with fail
          go_roundw
          case rel => exact ⟨j + 1, by omega, by go_num, by rw [HH.out]; exact ⟨HK.out.2.1, HK.out.1, HK.out.2.2.1, HK.out.2.2.2.1, Nat.le_trans szr HK.out.2.2.2.2⟩⟩
          case measure => simp [intOf]; omega
        · obtain rfl : j = rs.length := by omega
          have HJ1 := Lib.hid (show histTo fDown m (rs.map Row.xs) rs.length = eulG m by
            have h1 := HST.out
            unfold statN at h1
            simp only [Bool.and_eq_true, decide_eq_true_eq] at h1
            rw [HX.out, ← h1.1.2, ← HX.out, List.length_map])
          have HJ2 := Lib.hid (show histTo fRise m (rs.map Row.xs) rs.length = eulG m by
            have h1 := HST.out
            unfold statN at h1
            simp only [Bool.and_eq_true, decide_eq_true_eq] at h1
            rw [HX.out, ← h1.2, ← HX.out, List.length_map])
          rw [HJ1.out] at oD
          rw [HJ2.out] at oR
          have HEL := Lib.hid (show (eulG (m : Int)).length = m by have := own_len oD; simpa using this)
          have rE := (rE.below hb).more hb.size
          have rM := (rM.below hb).more hb.size
          have HB := HB.trans (hb.mono HB.size)
          have HC1 := Lib.hid (sameInts_eq (some ⟨y0.heap.size, 0, none⟩) E m ek m (eulG m).length (eulG m) (eulG m) wr rfl HEL.out rfl (by omega) (Rd.of_own (c := m) (by rw [HEL.out]; exact oD)) rE)
          go_wp2_with fail
          (with_reducible refine HC1.out.mono ?_)
          rintro e wa ⟨rfl, hd⟩
          have hba := below_dr (Below.refl wr.heap.size wr) hd
          have rE := rE.next hba
          have rM := rM.next hba
          have oR := own_below oR hba
          have HB := HB.trans (hba.mono HB.size)
          have HC2 := Lib.hid (sameInts_eq (some ⟨w1.heap.size, 0, none⟩) E m ek m (eulG m).length (eulG m) (eulG m) wa rfl HEL.out rfl (by omega) (Rd.of_own (c := m) (by rw [HEL.out]; exact oR)) rE)
          clear HC1 oD hba
          go_wp2_with fail
          (with_reducible refine HC2.out.mono ?_)
          rintro e wb ⟨rfl, hd2⟩
          have hbb := below_dr (Below.refl wa.heap.size wa) hd2
          have rM := rM.next hbb
          have HB := HB.trans (hbb.mono HB.size)
          go_wp2_with fail
          go_meet
          case rel => exact Lib.hid ⟨rM, HB⟩
    · obtain rfl : bN = false := by rw [hbN]; exact decide_eq_false hN
      clear hbN
      go_wp2_with fail
      go_meet
      case rel => exact Lib.hid ⟨rM, HB⟩
  obtain ⟨rM, HB⟩ := hcut.out
  clear hcut
  obtain ⟨z0, rfl⟩ : ∃ w', w' = wc := ⟨_, rfl⟩
  by_cases hK1 : k < 1
  · go_wp2_with fail
    go_ret
    exact ⟨rfl, HB⟩
  by_cases hK5 : 5 < k
  · go_wp2_with fail
    go_ret
    exact ⟨rfl, HB⟩
  obtain ⟨m, rfl⟩ := Int.eq_ofNat_of_zero_le (show 0 ≤ k by omega)
  have hm1 : 1 ≤ m ∧ m ≤ 5 := by omega
  have HST := Lib.hid (statK_at hm1)
  obtain ⟨Z, hZ⟩ : ∃ Z, Z = m * (m - 1) / 2 + 1 := ⟨_, rfl⟩
  have hZb : Z ≤ 11 := by
    have h1 : (List.range 6).all (fun i => decide (i * (i - 1) / 2 + 1 ≤ 11)) = true := by decide
    rw [hZ]
    exact of_decide_eq_true (List.all_eq_true.1 h1 m (List.mem_range.2 (by omega)))
  have hZ1 : 1 ≤ Z := by omega
  have hNb : m * (m - 1) ≤ 20 := by
    have h1 : (List.range 6).all (fun i => decide (i * (i - 1) ≤ 20)) = true := by decide
    exact of_decide_eq_true (List.all_eq_true.1 h1 m (List.mem_range.2 (by omega)))
  obtain ⟨N2, hN2⟩ : ∃ N, N = m * (m - 1) := ⟨_, rfl⟩
  have e1 : IntKind.i64.wrap ((m : Int) - 1) = ((m - 1 : Nat) : Int) := by rw [IntWalk.i64_in _ (by omega)]; omega
  have e2 : IntKind.i64.wrap ((m : Int) * ((m - 1 : Nat) : Int)) = (N2 : Int) := by
    rw [← Int.natCast_mul, ← hN2, IntWalk.i64_in _ (by omega)]
  have e3 : (N2 : Int).tdiv 2 = ((Z - 1 : Nat) : Int) := by rw [Int.tdiv_eq_ediv_of_nonneg (by omega)]; omega
  have e3b : (N2 : Int) / 2 = ((Z - 1 : Nat) : Int) := by omega
  have e4 : IntKind.i64.wrap (((Z - 1 : Nat) : Int) + 1) = (Z : Int) := by rw [IntWalk.i64_in _ (by omega)]; omega
  have HZZ := Lib.hid hZ
  clear hZ hN2 c0 c1 c2 c3 c4 ip
  go_upto_region 24 with (at_make; refine wpList_make_full _ rfl _ _ 24 rfl (z0.heap.size) 3 i0 (.int .i64 0) 1 Try.underlying24 hi hz0 hz1 .i64 .i64 _ _ (Z) rfl rfl (by omega) (by omega) (by rw [hz2]; omega) (by unfold maxLen; omega) (by omega) ?_; intro w1 hown1 hgrow1)
  go_upto_region 25 with (at_make; refine wpList_make_full _ rfl _ _ 24 rfl (w1.heap.size) 3 i0 (.int .i64 0) 1 Try.underlying24 hi hz0 hz1 .i64 .i64 _ _ (Z) rfl rfl (by omega) (by omega) (by rw [hz2]; omega) (by unfold maxLen; omega) (by omega) ?_; intro w2 hown2 hgrow2)
  have hbA := below_none hgrow1
  have hbB := below_none hgrow2
  have oD := own_below (made_zeros hown1) hbB
  have oR := made_zeros hown2
  have sz1 : z0.heap.size < w1.heap.size := (oD0_lt hown1 (by omega))
  have sz2 : w1.heap.size < w2.heap.size := (oD0_lt hown2 (by omega))
  have hb := hbA.trans (hbB.mono (by omega))
  clear hown1 hown2 hgrow1 hgrow2 hbA hbB e1 e2 e3 e3b e4
  have HC := Lib.hid (permsOf_spec (m : Int) w2)
  go_wp2_with fail
  (with_reducible refine HC.out.mono ?_)
  rintro e w3 ⟨PA, pc, rs, rfl, hX, hO, hbC⟩
  have HX : Hid (rs.map Row.xs = permsL m) := Lib.hid (by rw [hX, permsG, if_pos (by omega)]; rfl)
  have hrsl : rs.length ≤ 120 := by
    have h1 := congrArg List.length HX.out
    rw [List.length_map] at h1
    rw [h1]
    exact permsL_120 (by omega)
  have oD := own_below oD hbC
  have oR := own_below oR hbC
  have sz3 := hbC.size
  have hb := hb.trans (hbC.mono (by omega))
  clear hX hbC HC
  go_wp2_with fail
  go_loopw [15] (fun i wr => ∃ k : Nat, k ≤ rs.length ∧ i = .int .i64 k ∧ wr.ownsRow z0.heap.size 3 1 (.slice (some ⟨z0.heap.size, 0, none⟩) Z Z) Z ((histTo fInv Z (rs.map Row.xs) k).map (Value.int .i64)) ∧
    wr.ownsRow w1.heap.size 3 1 (.slice (some ⟨w1.heap.size, 0, none⟩) Z Z) Z ((histTo fMajor Z (rs.map Row.xs) k).map (Value.int .i64)) ∧ Own wr w2.heap.size w3.heap.size rs [⟨PA, pc, rs.map Row.v⟩] ∧ Below z0.heap.size z0 wr ∧ w3.heap.size ≤ wr.heap.size) (fun i _ => rs.length - (intOf i).toNat)
  case atStart => exact ⟨0, Nat.zero_le _, rfl, oD, oR, hO, hb, Nat.le_refl _⟩
  case round =>
    clear oD oR hO hb
    obtain ⟨j, hj, rfl, oD, oR, hO, hb, szr⟩ := hrel
    rcases Nat.lt_or_ge j rs.length with hlt | hge
    · have hjl : (j : Int) < (rs.length : Int) := by omega
      have hj0 : (0 : Int) ≤ (j : Int) := Int.natCast_nonneg _
      obtain ⟨pb, cap, hv, hpb, hlp⟩ := hO.out.form (by simp; omega)
      have hv : PA = some ⟨pb, 0, none⟩ := by injection hv
      subst hv
      have hcell := hO.read.cellAt j hlt
      have hrow := own_row hO (r := rs[j]) (List.getElem_mem hlt) szr
      have hmem : rs[j].xs ∈ permsL m := by rw [← HX.out]; exact List.mem_map.2 ⟨rs[j], List.getElem_mem hlt, rfl⟩
      have hget : Hid ((rs.map Row.xs)[j]?.getD [] = rs[j].xs) := Lib.hid (by simp [hlt])
      generalize hrj : rs[j] = r at hcell hrow hmem hget
      obtain ⟨rA, rc, rx⟩ := r
      simp only [Nat.zero_add] at hcell hrow hmem hget
      have HSR := Lib.hid (statK_row HST.out hmem)
      rw [← HZZ.out] at HSR
      have hx5 := HSR.out.1
      have hin : In wr rA rc rx := ⟨by omega, hrow.1, hrow.2⟩
      have hpl : pb < wr.heap.size := hlp
      have HRJ := Lib.hid hrj
      clear hrow hmem hrj
      go_upto_region 29 with fail
      go_cut [15] (fun s15 wz => s15 = .int .i64 (j : Int) ∧ Hid (wz.ownsRow z0.heap.size 3 1 (.slice (some ⟨z0.heap.size, 0, none⟩) Z Z) Z ((histTo fInv Z (rs.map Row.xs) (j + 1)).map (Value.int .i64)) ∧
        wz.ownsRow w1.heap.size 3 1 (.slice (some ⟨w1.heap.size, 0, none⟩) Z Z) Z ((histTo fMajor Z (rs.map Row.xs) j).map (Value.int .i64)) ∧ Own wz w2.heap.size w3.heap.size rs [⟨some ⟨pb, 0, none⟩, pc, rs.map Row.v⟩] ∧ Below z0.heap.size z0 wz ∧ w3.heap.size ≤ wz.heap.size))
      case first =>
        have hS7 : wr.drew.cell? ⟨pb, j, none⟩ = some (Value.slice rA rx.length rc) := hcell
        have HIN8 := Lib.hid (hin.dr (Dr.refl wr).drew)
        have hpl8 : pb < wr.drew.heap.size := hpl
        obtain ⟨Q, hQe⟩ : ∃ Q, Q = fInv rx := ⟨_, rfl⟩
        have hQm : Q < Z := by have := HSR.out.2.1; omega
        have hQ : Q < (histTo fInv Z (rs.map Row.xs) j).length := by rw [histTo_length]; exact hQm
        have HOD := Lib.hid ((Dr.refl wr).drew.own oD)
        have HOR := Lib.hid ((Dr.refl wr).drew.own oR)
        have HHO := Lib.hid (hO.dr (Dr.refl wr).drew)
        have HHX := Lib.hid (below_dr hb (Dr.refl wr).drew)
        have HF := Lib.hid (show (invG rx : Int) = Q by rw [HSR.out.2.2.2.1, hQe])
        have HH := Lib.hid (show histTo fInv Z (rs.map Row.xs) (j + 1) = addAt (histTo fInv Z (rs.map Row.xs) j) Q 1 by rw [histTo, hget.out, hQe])
        have hQi : (Q : Int) < (Z : Int) := by omega
        have hQ0 : (0 : Int) ≤ (Q : Int) := Int.natCast_nonneg _
        clear hcell hin oD oR hO hb hQe
        refine wp_region_held_drew (S := (fun v => v.cell? ⟨pb, j, none⟩ = some (Value.slice rA rx.length rc))) (by kernel_rfl) hS7 (fun hHeld => ?_)
        refine wpAnyH_take (i := 0) (oi := _) (v := ?_) rfl (by kernel_rfl) (by kernel_rfl) (by kernel_rfl) (fun _ _ _ h => h) (Or.inl ⟨by rfl, ?_⟩) (by assumption) ?_
        rotate_left
        · intro w hSw
          try dsimp only at hSw
          go_simp
          all_goals with_reducible rfl
        try simp only [Act.put, List.setIfInBounds_toArray, List.set_cons_zero, List.set_cons_succ, List.getElem_toArray, List.getElem_cons_zero]
        refine wpAnyH_take (i := 1) (oi := _) (v := ?_) rfl (by kernel_rfl) (by kernel_rfl) (by kernel_rfl) (fun _ _ _ h => h) (Or.inl ⟨by rfl, ?_⟩) (by assumption) ?_
        rotate_left
        · intro w hSw
          try dsimp only at hSw
          go_simp
          all_goals with_reducible rfl
        try simp only [Act.put, List.setIfInBounds_toArray, List.set_cons_zero, List.set_cons_succ, List.getElem_toArray, List.getElem_cons_succ, List.getElem_cons_zero]
        refine wpAnyH_take (i := 2) (oi := _) (v := ?_) rfl (by kernel_rfl) (by kernel_rfl) (by kernel_rfl) (fun _ _ _ h => h) (Or.inl ⟨by rfl, ?_⟩) (by assumption) ?_
        rotate_left
        · intro w hSw
          try dsimp only at hSw
          go_simp
          all_goals with_reducible rfl
        try simp only [Act.put, List.setIfInBounds_toArray, List.set_cons_zero, List.set_cons_succ, List.getElem_toArray, List.getElem_cons_succ, List.getElem_cons_zero]
        refine wpAnyH_take (i := 3) (oi := _) (v := ?_) rfl (by kernel_rfl) (by kernel_rfl) (by kernel_rfl) (fun _ _ _ h => h) (Or.inl ⟨by rfl, ?_⟩) (by assumption) ?_
        rotate_left
        · intro w hSw
          try dsimp only at hSw
          go_simp
          all_goals with_reducible rfl
        try simp only [Act.put, List.setIfInBounds_toArray, List.set_cons_zero, List.set_cons_succ, List.getElem_toArray, List.getElem_cons_succ, List.getElem_cons_zero]
        refine wpAnyH_take (i := 4) (oi := _) (v := ?_) rfl (by kernel_rfl) (by kernel_rfl) (by kernel_rfl) (fun _ _ _ h => h) (Or.inl ⟨by rfl, ?_⟩) (by assumption) ?_
        rotate_left
        · intro w hSw
          try dsimp only at hSw
          go_simp
          all_goals with_reducible rfl
        try simp only [Act.put, List.setIfInBounds_toArray, List.set_cons_zero, List.set_cons_succ, List.getElem_toArray, List.getElem_cons_succ, List.getElem_cons_zero]
        refine wpAnyH_take (i := 6) (oi := _) (v := ?_) rfl (by kernel_rfl) (by kernel_rfl) (by kernel_rfl) (fun _ _ _ h => h) (Or.inl ⟨by rfl, ?_⟩) (by assumption) ?_
        rotate_left
        · intro w hSw
          try dsimp only at hSw
          go_simp
          all_goals with_reducible rfl
        try simp only [Act.put, List.setIfInBounds_toArray, List.set_cons_zero, List.set_cons_succ, List.getElem_toArray, List.getElem_cons_succ, List.getElem_cons_zero]
        refine wpAnyH_take (i := 7) (oi := _) (v := ?_) rfl (by kernel_rfl) (by kernel_rfl) (by kernel_rfl) (fun _ _ _ h => h) (Or.inl ⟨by rfl, ?_⟩) (by assumption) ?_
        rotate_left
        · intro w hSw
          try dsimp only at hSw
          go_simp
          all_goals with_reducible rfl
        try simp only [Act.put, List.setIfInBounds_toArray, List.set_cons_zero, List.set_cons_succ, List.getElem_toArray, List.getElem_cons_succ, List.getElem_cons_zero]
        refine wpAnyH_take (i := 8) (oi := _) (v := ?_) rfl (by kernel_rfl) (by kernel_rfl) (by kernel_rfl) (fun _ _ _ h => h) (Or.inl ⟨by rfl, ?_⟩) (by assumption) ?_
        rotate_left
        · intro w hSw
          try dsimp only at hSw
          go_simp
          all_goals with_reducible rfl
        try simp only [Act.put, List.setIfInBounds_toArray, List.set_cons_zero, List.set_cons_succ, List.getElem_toArray, List.getElem_cons_succ, List.getElem_cons_zero]
        refine wpAnyH_take (i := 9) (oi := _) (v := ?_) rfl (by kernel_rfl) (by kernel_rfl) (by kernel_rfl) (fun _ _ _ h => h) (Or.inl ⟨by rfl, ?_⟩) (by assumption) ?_
        rotate_left
        · intro w hSw
          try dsimp only at hSw
          go_simp
          all_goals with_reducible rfl
        try simp only [Act.put, List.setIfInBounds_toArray, List.set_cons_zero, List.set_cons_succ, List.getElem_toArray, List.getElem_cons_succ, List.getElem_cons_zero]
        refine wpAnyH_take (i := 10) (oi := _) (v := ?_) rfl (by kernel_rfl) (by kernel_rfl) (by kernel_rfl) (fun _ _ _ h => h) (Or.inl ⟨by rfl, ?_⟩) (by assumption) ?_
        rotate_left
        · intro w hSw
          try dsimp only at hSw
          go_simp
          all_goals with_reducible rfl
        try simp only [Act.put, List.setIfInBounds_toArray, List.set_cons_zero, List.set_cons_succ, List.getElem_toArray, List.getElem_cons_succ, List.getElem_cons_zero]
        refine wpAnyH_ready (rs := [5]) (by kernel_rfl) (by simp) ?_
        refine AllReadyH.cons (o := _) rfl (fun K hK => ?_) AllReadyH.nil
        go_simp
        refine Calls.mono (inv_q rA rc rx _ (by with_reducible exact HIN8.out) HF.out) ?_
        rintro e w8 ⟨rfl, hb8⟩
        have hS8 : w8.cell? ⟨pb, j, none⟩ = some (Value.slice rA rx.length rc) := (hb8.cell hpl8).trans hS7
        have HIN9 := Lib.hid (HIN8.out.next hb8)
        have hpl9 : pb < w8.heap.size := by have := hb8.size; simp at this; omega
        have hq8 := (own_put (own_below HOD.out hb8) Q hQ 0).1
        go_wp2_with fail
        refine hK.out _ _ (hS8) (fun hHeld => ?_)
        clear hK K
        try simp only [Act.put, List.setIfInBounds_toArray, List.set_cons_zero, List.set_cons_succ, List.getElem_toArray, List.getElem_cons_succ, List.getElem_cons_zero]
        refine wpAnyH_ready (rs := [11]) (by kernel_rfl) (by simp) ?_
        refine AllReadyH.cons (o := _) rfl (fun K hK => ?_) AllReadyH.nil
        go_simp
        refine Calls.mono (inv_q rA rc rx _ (by with_reducible exact HIN9.out) HF.out) ?_
        rintro e w9 ⟨rfl, hb9⟩
        have hS9 : w9.cell? ⟨pb, j, none⟩ = some (Value.slice rA rx.length rc) := (hb9.cell hpl9).trans hS8
        have hb := hb8.trans (hb9.mono hb8.size)
        have hq9 := (own_put (own_below HOD.out hb) Q hQ 0).1
        have hf9 := (own_put (own_below HOD.out hb) Q hQ 0).2.1
        go_wp2_with fail
        refine hK.out _ _ (hS9) (fun hHeld => ?_)
        clear hK K
        try simp only [Act.put, List.setIfInBounds_toArray, List.set_cons_zero, List.set_cons_succ, List.getElem_toArray, List.getElem_cons_succ, List.getElem_cons_zero]
        refine wpAnyH_take (i := 12) (oi := _) (v := ?_) rfl (by kernel_rfl) (by kernel_rfl) (by kernel_rfl) (fun _ _ _ h => h) (Or.inl ⟨by rfl, ?_⟩) (by assumption) ?_
        rotate_left
        · intro w hSw
          try dsimp only at hSw
          go_simp
          all_goals with_reducible rfl
        try simp only [Act.put, List.setIfInBounds_toArray, List.set_cons_zero, List.set_cons_succ, List.getElem_toArray, List.getElem_cons_succ, List.getElem_cons_zero]
        refine wpAnyH_ready (rs := [13]) (by kernel_rfl) (by simp) ?_
        refine AllReadyH.cons (o := _) rfl (fun K hK => ?_) AllReadyH.nil
        go_simp
        refine hK.out _ _ (hS9) (fun hHeld => ?_)
        clear hK K
        try simp only [Act.put, List.setIfInBounds_toArray, List.set_cons_zero, List.set_cons_succ, List.getElem_toArray, List.getElem_cons_succ, List.getElem_cons_zero]
        refine wpAnyH_take (i := 14) (oi := _) (v := ?_) rfl (by kernel_rfl) (by kernel_rfl) (by kernel_rfl) (fun _ _ _ h => h) (Or.inl ⟨by rfl, ?_⟩) (by assumption) ?_
        rotate_left
        · intro w hSw
          try dsimp only at hSw
          go_simp
          all_goals with_reducible rfl
        try simp only [Act.put, List.setIfInBounds_toArray, List.set_cons_zero, List.set_cons_succ, List.getElem_toArray, List.getElem_cons_succ, List.getElem_cons_zero]
        refine wpAnyH_take (i := 15) (oi := _) (v := ?_) rfl (by kernel_rfl) (by kernel_rfl) (by kernel_rfl) (fun _ _ _ h => h) (Or.inl ⟨by rfl, ?_⟩) (by assumption) ?_
        rotate_left
        · intro w hSw
          try dsimp only at hSw
          go_simp
          all_goals with_reducible rfl
        try simp only [Act.put, List.setIfInBounds_toArray, List.set_cons_zero, List.set_cons_succ, List.getElem_toArray, List.getElem_cons_succ, List.getElem_cons_zero]
        refine wpAnyH_ready (rs := [16]) (by kernel_rfl) (by simp) ?_
        refine AllReadyH.cons (o := _) rfl (fun K hK => ?_) AllReadyH.nil
        go_simp
        refine hK.out _ _ ((World.cell?_setCell_other _ _ _ _ (fun e => by injection e with e; omega)).trans hS9) (fun hHeld => ?_)
        clear hK K
        try simp only [Act.put, List.setIfInBounds_toArray, List.set_cons_zero, List.set_cons_succ, List.getElem_toArray, List.getElem_cons_succ, List.getElem_cons_zero]
        refine wpAnyH_done (by kernel_rfl) ?_ _
        have HK := Lib.hid (bump_facts (B := z0.heap.size) (x0 := z0) (hb.mono (Nat.le_refl _)) HOD.out (HOR.out) HHO.out HHX.out (by omega) (by omega) (Nat.le_refl _) hQ (IntWalk.i64_left _))
        go_wp2_with fail
        go_meet
        case rel => exact ⟨rfl, Lib.hid (by rw [HH.out]; exact ⟨HK.out.1, HK.out.2.1, HK.out.2.2.1, HK.out.2.2.2.1, Nat.le_trans szr HK.out.2.2.2.2⟩)⟩
      obtain ⟨rfl, hK⟩ := hcut
      clear hcell hin oD oR hO hb hpl szr
      obtain ⟨wr, rfl⟩ : ∃ w', w' = wc := ⟨_, rfl⟩
      obtain ⟨oD, oR, hO, hb, szr⟩ := hK.out
      have hcell := hO.read.cellAt j hlt
      have hrow := own_row hO (r := rs[j]) (List.getElem_mem hlt) szr
      rw [HRJ.out] at hcell hrow
      simp only [Nat.zero_add] at hcell hrow
      have hin : In wr rA rc rx := ⟨by omega, hrow.1, hrow.2⟩
      have hpl : pb < wr.heap.size := by
        obtain ⟨q2, _, hv2, _, hlp2⟩ := hO.out.form (by simp; omega)
        injection hv2 with e1
        injection e1 with e1
        injection e1 with e1
        omega
      have hS7 : wr.drew.cell? ⟨pb, j, none⟩ = some (Value.slice rA rx.length rc) := hcell
      have HIN8 := Lib.hid (hin.dr (Dr.refl wr).drew)
      have hpl8 : pb < wr.drew.heap.size := hpl
      obtain ⟨Q, hQe⟩ : ∃ Q, Q = fMajor rx := ⟨_, rfl⟩
      have hQm : Q < Z := by have := HSR.out.2.2.1; omega
      have hQ : Q < (histTo fMajor Z (rs.map Row.xs) j).length := by rw [histTo_length]; exact hQm
      have HOD := Lib.hid ((Dr.refl wr).drew.own oR)
      have HOR := Lib.hid ((Dr.refl wr).drew.own oD)
      have HHO := Lib.hid (hO.dr (Dr.refl wr).drew)
      have HHX := Lib.hid (below_dr hb (Dr.refl wr).drew)
      have HF := Lib.hid (show (majorG rx : Int) = Q by rw [HSR.out.2.2.2.2, hQe])
      have HH := Lib.hid (show histTo fMajor Z (rs.map Row.xs) (j + 1) = addAt (histTo fMajor Z (rs.map Row.xs) j) Q 1 by rw [histTo, hget.out, hQe])
      have hQi : (Q : Int) < (Z : Int) := by omega
      have hQ0 : (0 : Int) ≤ (Q : Int) := Int.natCast_nonneg _
      clear hcell hin oD oR hO hb hQe hK hrow
      go_wp2_with fail
      refine wp_region_held_drew (S := (fun v => v.cell? ⟨pb, j, none⟩ = some (Value.slice rA rx.length rc))) (by kernel_rfl) hS7 (fun hHeld => ?_)
      refine wpAnyH_take (i := 0) (oi := _) (v := ?_) rfl (by kernel_rfl) (by kernel_rfl) (by kernel_rfl) (fun _ _ _ h => h) (Or.inl ⟨by rfl, ?_⟩) (by assumption) ?_
      rotate_left
      · intro w hSw
        try dsimp only at hSw
        go_simp
        all_goals with_reducible rfl
      try simp only [Act.put, List.setIfInBounds_toArray, List.set_cons_zero, List.set_cons_succ, List.getElem_toArray, List.getElem_cons_zero]
      refine wpAnyH_take (i := 1) (oi := _) (v := ?_) rfl (by kernel_rfl) (by kernel_rfl) (by kernel_rfl) (fun _ _ _ h => h) (Or.inl ⟨by rfl, ?_⟩) (by assumption) ?_
      rotate_left
      · intro w hSw
        try dsimp only at hSw
        go_simp
        all_goals with_reducible rfl
      try simp only [Act.put, List.setIfInBounds_toArray, List.set_cons_zero, List.set_cons_succ, List.getElem_toArray, List.getElem_cons_succ, List.getElem_cons_zero]
      refine wpAnyH_take (i := 2) (oi := _) (v := ?_) rfl (by kernel_rfl) (by kernel_rfl) (by kernel_rfl) (fun _ _ _ h => h) (Or.inl ⟨by rfl, ?_⟩) (by assumption) ?_
      rotate_left
      · intro w hSw
        try dsimp only at hSw
        go_simp
        all_goals with_reducible rfl
      try simp only [Act.put, List.setIfInBounds_toArray, List.set_cons_zero, List.set_cons_succ, List.getElem_toArray, List.getElem_cons_succ, List.getElem_cons_zero]
      refine wpAnyH_take (i := 3) (oi := _) (v := ?_) rfl (by kernel_rfl) (by kernel_rfl) (by kernel_rfl) (fun _ _ _ h => h) (Or.inl ⟨by rfl, ?_⟩) (by assumption) ?_
      rotate_left
      · intro w hSw
        try dsimp only at hSw
        go_simp
        all_goals with_reducible rfl
      try simp only [Act.put, List.setIfInBounds_toArray, List.set_cons_zero, List.set_cons_succ, List.getElem_toArray, List.getElem_cons_succ, List.getElem_cons_zero]
      refine wpAnyH_take (i := 4) (oi := _) (v := ?_) rfl (by kernel_rfl) (by kernel_rfl) (by kernel_rfl) (fun _ _ _ h => h) (Or.inl ⟨by rfl, ?_⟩) (by assumption) ?_
      rotate_left
      · intro w hSw
        try dsimp only at hSw
        go_simp
        all_goals with_reducible rfl
      try simp only [Act.put, List.setIfInBounds_toArray, List.set_cons_zero, List.set_cons_succ, List.getElem_toArray, List.getElem_cons_succ, List.getElem_cons_zero]
      refine wpAnyH_take (i := 6) (oi := _) (v := ?_) rfl (by kernel_rfl) (by kernel_rfl) (by kernel_rfl) (fun _ _ _ h => h) (Or.inl ⟨by rfl, ?_⟩) (by assumption) ?_
      rotate_left
      · intro w hSw
        try dsimp only at hSw
        go_simp
        all_goals with_reducible rfl
      try simp only [Act.put, List.setIfInBounds_toArray, List.set_cons_zero, List.set_cons_succ, List.getElem_toArray, List.getElem_cons_succ, List.getElem_cons_zero]
      refine wpAnyH_take (i := 7) (oi := _) (v := ?_) rfl (by kernel_rfl) (by kernel_rfl) (by kernel_rfl) (fun _ _ _ h => h) (Or.inl ⟨by rfl, ?_⟩) (by assumption) ?_
      rotate_left
      · intro w hSw
        try dsimp only at hSw
        go_simp
        all_goals with_reducible rfl
      try simp only [Act.put, List.setIfInBounds_toArray, List.set_cons_zero, List.set_cons_succ, List.getElem_toArray, List.getElem_cons_succ, List.getElem_cons_zero]
      refine wpAnyH_take (i := 8) (oi := _) (v := ?_) rfl (by kernel_rfl) (by kernel_rfl) (by kernel_rfl) (fun _ _ _ h => h) (Or.inl ⟨by rfl, ?_⟩) (by assumption) ?_
      rotate_left
      · intro w hSw
        try dsimp only at hSw
        go_simp
        all_goals with_reducible rfl
      try simp only [Act.put, List.setIfInBounds_toArray, List.set_cons_zero, List.set_cons_succ, List.getElem_toArray, List.getElem_cons_succ, List.getElem_cons_zero]
      refine wpAnyH_take (i := 9) (oi := _) (v := ?_) rfl (by kernel_rfl) (by kernel_rfl) (by kernel_rfl) (fun _ _ _ h => h) (Or.inl ⟨by rfl, ?_⟩) (by assumption) ?_
      rotate_left
      · intro w hSw
        try dsimp only at hSw
        go_simp
        all_goals with_reducible rfl
      try simp only [Act.put, List.setIfInBounds_toArray, List.set_cons_zero, List.set_cons_succ, List.getElem_toArray, List.getElem_cons_succ, List.getElem_cons_zero]
      refine wpAnyH_take (i := 10) (oi := _) (v := ?_) rfl (by kernel_rfl) (by kernel_rfl) (by kernel_rfl) (fun _ _ _ h => h) (Or.inl ⟨by rfl, ?_⟩) (by assumption) ?_
      rotate_left
      · intro w hSw
        try dsimp only at hSw
        go_simp
        all_goals with_reducible rfl
      try simp only [Act.put, List.setIfInBounds_toArray, List.set_cons_zero, List.set_cons_succ, List.getElem_toArray, List.getElem_cons_succ, List.getElem_cons_zero]
      refine wpAnyH_ready (rs := [5]) (by kernel_rfl) (by simp) ?_
      refine AllReadyH.cons (o := _) rfl (fun K hK => ?_) AllReadyH.nil
      go_simp
      refine Calls.mono (major_q rA rc rx _ (by with_reducible exact HIN8.out) HF.out) ?_
      rintro e w8 ⟨rfl, hb8⟩
      have hS8 : w8.cell? ⟨pb, j, none⟩ = some (Value.slice rA rx.length rc) := (hb8.cell hpl8).trans hS7
      have HIN9 := Lib.hid (HIN8.out.next hb8)
      have hpl9 : pb < w8.heap.size := by have := hb8.size; simp at this; omega
      have hq8 := (own_put (own_below HOD.out hb8) Q hQ 0).1
      go_wp2_with fail
      refine hK.out _ _ (hS8) (fun hHeld => ?_)
      clear hK K
      try simp only [Act.put, List.setIfInBounds_toArray, List.set_cons_zero, List.set_cons_succ, List.getElem_toArray, List.getElem_cons_succ, List.getElem_cons_zero]
      refine wpAnyH_ready (rs := [11]) (by kernel_rfl) (by simp) ?_
      refine AllReadyH.cons (o := _) rfl (fun K hK => ?_) AllReadyH.nil
      go_simp
      refine Calls.mono (major_q rA rc rx _ (by with_reducible exact HIN9.out) HF.out) ?_
      rintro e w9 ⟨rfl, hb9⟩
      have hS9 : w9.cell? ⟨pb, j, none⟩ = some (Value.slice rA rx.length rc) := (hb9.cell hpl9).trans hS8
      have hb := hb8.trans (hb9.mono hb8.size)
      have hq9 := (own_put (own_below HOD.out hb) Q hQ 0).1
      have hf9 := (own_put (own_below HOD.out hb) Q hQ 0).2.1
      go_wp2_with fail
      refine hK.out _ _ (hS9) (fun hHeld => ?_)
      clear hK K
      try simp only [Act.put, List.setIfInBounds_toArray, List.set_cons_zero, List.set_cons_succ, List.getElem_toArray, List.getElem_cons_succ, List.getElem_cons_zero]
      refine wpAnyH_take (i := 12) (oi := _) (v := ?_) rfl (by kernel_rfl) (by kernel_rfl) (by kernel_rfl) (fun _ _ _ h => h) (Or.inl ⟨by rfl, ?_⟩) (by assumption) ?_
      rotate_left
      · intro w hSw
        try dsimp only at hSw
        go_simp
        all_goals with_reducible rfl
      try simp only [Act.put, List.setIfInBounds_toArray, List.set_cons_zero, List.set_cons_succ, List.getElem_toArray, List.getElem_cons_succ, List.getElem_cons_zero]
      refine wpAnyH_ready (rs := [13]) (by kernel_rfl) (by simp) ?_
      refine AllReadyH.cons (o := _) rfl (fun K hK => ?_) AllReadyH.nil
      go_simp
      refine hK.out _ _ (hS9) (fun hHeld => ?_)
      clear hK K
      try simp only [Act.put, List.setIfInBounds_toArray, List.set_cons_zero, List.set_cons_succ, List.getElem_toArray, List.getElem_cons_succ, List.getElem_cons_zero]
      refine wpAnyH_take (i := 14) (oi := _) (v := ?_) rfl (by kernel_rfl) (by kernel_rfl) (by kernel_rfl) (fun _ _ _ h => h) (Or.inl ⟨by rfl, ?_⟩) (by assumption) ?_
      rotate_left
      · intro w hSw
        try dsimp only at hSw
        go_simp
        all_goals with_reducible rfl
      try simp only [Act.put, List.setIfInBounds_toArray, List.set_cons_zero, List.set_cons_succ, List.getElem_toArray, List.getElem_cons_succ, List.getElem_cons_zero]
      refine wpAnyH_take (i := 15) (oi := _) (v := ?_) rfl (by kernel_rfl) (by kernel_rfl) (by kernel_rfl) (fun _ _ _ h => h) (Or.inl ⟨by rfl, ?_⟩) (by assumption) ?_
      rotate_left
      · intro w hSw
        try dsimp only at hSw
        go_simp
        all_goals with_reducible rfl
      try simp only [Act.put, List.setIfInBounds_toArray, List.set_cons_zero, List.set_cons_succ, List.getElem_toArray, List.getElem_cons_succ, List.getElem_cons_zero]
      refine wpAnyH_ready (rs := [16]) (by kernel_rfl) (by simp) ?_
      refine AllReadyH.cons (o := _) rfl (fun K hK => ?_) AllReadyH.nil
      go_simp
      refine hK.out _ _ ((World.cell?_setCell_other _ _ _ _ (fun e => by injection e with e; omega)).trans hS9) (fun hHeld => ?_)
      clear hK K
      try simp only [Act.put, List.setIfInBounds_toArray, List.set_cons_zero, List.set_cons_succ, List.getElem_toArray, List.getElem_cons_succ, List.getElem_cons_zero]
      refine wpAnyH_done (by kernel_rfl) ?_ _
      have HK := Lib.hid (bump_facts (B := z0.heap.size) (x0 := z0) (hb.mono (Nat.le_refl _)) HOD.out (HOR.out) HHO.out HHX.out (by omega) (by omega) (by omega) hQ (u := wrap64 ((histTo fMajor Z (rs.map Row.xs) j)[Q] + 1)) rfl)
      go_wp2_with fail
      go_roundw
      case rel => exact ⟨j + 1, by omega, by go_num, by rw [HH.out]; exact ⟨HK.out.2.1, HK.out.1, HK.out.2.2.1, HK.out.2.2.2.1, Nat.le_trans szr HK.out.2.2.2.2⟩⟩
      case measure => simp [intOf]; omega
    · obtain rfl : j = rs.length := by omega
      have HJ1 := Lib.hid (show histTo fInv Z (rs.map Row.xs) rs.length = mahG m by
        have h1 := HST.out
        unfold statK at h1
        rw [← HZZ.out] at h1
        simp only [Bool.and_eq_true, decide_eq_true_eq] at h1
        rw [HX.out, ← h1.1.2, ← HX.out, List.length_map])
      have HJ2 := Lib.hid (show histTo fMajor Z (rs.map Row.xs) rs.length = mahG m by
        have h1 := HST.out
        unfold statK at h1
        rw [← HZZ.out] at h1
        simp only [Bool.and_eq_true, decide_eq_true_eq] at h1
        rw [HX.out, ← h1.2, ← HX.out, List.length_map])
      rw [HJ1.out] at oD
      rw [HJ2.out] at oR
      have HEL := Lib.hid (show (mahG (m : Int)).length = Z by have := own_len oD; simpa using this)
      have rM := (rM.below hb).more hb.size
      have HB := HB.trans (hb.mono HB.size)
      have HC1 := Lib.hid (sameInts_eq (some ⟨z0.heap.size, 0, none⟩) M Z mk Z (mahG m).length (mahG m) (mahG m) wr rfl HEL.out rfl (by omega) (Rd.of_own (c := Z) (by rw [HEL.out]; exact oD)) rM)
      go_wp2_with fail
      (with_reducible refine HC1.out.mono ?_)
      rintro e wa ⟨rfl, hd⟩
      have hba := below_dr (Below.refl wr.heap.size wr) hd
      have rM := rM.next hba
      have oR := own_below oR hba
      have HB := HB.trans (hba.mono HB.size)
      have HC2 := Lib.hid (sameInts_eq (some ⟨w1.heap.size, 0, none⟩) M Z mk Z (mahG m).length (mahG m) (mahG m) wa rfl HEL.out rfl (by omega) (Rd.of_own (c := Z) (by rw [HEL.out]; exact oR)) rM)
      clear HC1 oD hba
      go_wp2_with fail
      (with_reducible refine HC2.out.mono ?_)
      rintro e wb ⟨rfl, hd2⟩
      have hbb := below_dr (Below.refl wa.heap.size wa) hd2
      have HB := HB.trans (hbb.mono HB.size)
      go_wp2_with fail
      go_ret
      exact ⟨rfl, HB⟩
end Go.Proofs.Ythipikllgpnlhaa
