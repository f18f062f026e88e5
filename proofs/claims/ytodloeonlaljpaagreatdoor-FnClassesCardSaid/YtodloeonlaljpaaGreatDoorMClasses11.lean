/- Several texts in one, each with its own head: WClasses, Open. No program of ours. -/
import Derived.Deep.RegionHeld3
import Derived.Test.YtodloeonlaljpaaGreatDoorRows
import Derived.ProofKit
import Derived.OpenShut
import Derived.Deep.Matrix
import Derived.Test.YtodloeonlaljpaaGreatDoorMClasses10
/- The walk of FnClasses. Written by gen/genwc.py. -/
namespace Go.Proofs.YtodloeonlaljpaaGreatDoor
set_option maxRecDepth 100000
open Go Go.RowKit

theorem rows_fit {rs : List Row} {X : List (List Int)} (hX : rs.map Row.xs = X) (h : X.length + sizeX X ≤ 1048576) : rs.length + sizeR rs ≤ 1048576 := by
  subst hX
  rw [sizeR_eq]
  simpa using h
theorem inClass_iq {b : Bool} (A : Option Addr) (c : Nat) (rs : List Row) (B : Option Addr) (d : Nat) (p : List Int) (w : World) (h : InL w A c rs) (hp : In w B d p) (hb : inClassB (rs.map Row.xs) p = b) :
    Calls Tryz.prog 18 #[.slice A rs.length c, .slice B p.length d] w (Rb w (.bool b)) := by subst hb; exact inClass_impl A c rs B d p w h hp
theorem low_in {X : List (List Int)} {p l : List Int} (h : inClassB X p = true) (hl : l ∈ lowG p) : inClassB X l = true := by
  unfold inClassB at h
  simp only [Bool.and_eq_true] at h
  obtain ⟨⟨hB, hp⟩, ha⟩ := h
  have hl2 : l ∈ lowL p := by
    rwa [lowG, if_pos hp] at hl
  obtain ⟨h1, h2⟩ := lower_avoid (basis_perm hB) hp ha hl2
  unfold inClassB
  rw [hB, h1, h2]; rfl
theorem short_succ (X : List (List Int)) (n k : Nat) (h : k < X.length) : shortL (X.take (k + 1)) n = if X[k].length ≤ n then shortL (X.take k) n ++ [X[k]] else shortL (X.take k) n := by
  unfold shortL
  rw [List.take_succ_eq_append_getElem h, List.filter_append]
  by_cases hl : X[k].length ≤ n
  · rw [if_pos hl]; simp [hl]
  · rw [if_neg hl]; simp [hl]
theorem clsTo_small {X : List (List Int)} {m : Nat} (hm : m ≤ 5) : (clsTo X m).length ≤ m * 3125 ∧ ∀ q ∈ clsTo X m, q.length ≤ 5 := by
  induction m with
  | zero => exact ⟨by simp [clsTo], fun q hq => by simp [clsTo] at hq⟩
  | succ m ih =>
    obtain ⟨h1, h2⟩ := ih (by omega)
    rw [clsTo_succ]
    refine ⟨?_, fun q hq => ?_⟩
    · have := clsL_few (X := X) (n := m) (by omega)
      rw [List.length_append]
      omega
    · rcases List.mem_append.1 hq with hq | hq
      · exact h2 q hq
      · exact clsL_len (by omega) q hq
theorem rows_sub {X Y : List (List Int)} (hs : Y.Sublist X) : Y.length + sizeX Y ≤ X.length + sizeX X := by
  induction hs with
  | slnil => exact Nat.le_refl _
  | cons a _ ih => simp only [List.length_cons, sizeX, List.map_cons, List.sum_cons] at ih ⊢; omega
  | cons_cons a _ ih => simp only [List.length_cons, sizeX, List.map_cons, List.sum_cons] at ih ⊢; omega

set_option maxHeartbeats 16000000 in
set_option maxRecDepth 100000 in
theorem walk_FnClasses (w : World) (A : Option Addr) (c : Nat) (bs : List Int) (hm : bs.length ≤ 9223372036854775807) (hr : Rd (Value.int .u8) w w.heap.size A bs) (mx : Int) (hmx : w.cell? ⟨0, 0, none⟩ = some (.int .i64 mx)) :
    Calls Tryz.prog 3 #[.slice A bs.length c] w (Rb w (.bool true)) := by
  obtain ⟨i0, hi, hz0, hz1, hz2⟩ := info_parts infoI
  have hGl := World.block_lt_of_cell? _ _ hmx
  have HMX := Lib.hid hmx
  clear hmx
  rcases Nat.lt_or_ge 1048576 bs.length with hbig | hlen
  · have HC := Lib.hid (big_no A c bs w hbig hm)
    go_enter Tryz.func3, Tryz.ntmps3
    go_wp2_with fail
    (with_reducible refine HC.out.mono ?_)
    rintro e w1 ⟨rfl, rfl⟩
    go_wp2_with fail
    go_ret
    exact ⟨rfl, Below.refl _ _⟩
  have h0 : InY w A c bs := ⟨hlen, hr⟩
  have HC := Lib.hid (big_ok A c bs w hlen)
  clear hr hm
  go_enter Tryz.func3, Tryz.ntmps3
  go_wp2_with fail
  (with_reducible refine HC.out.mono ?_)
  rintro e w0 ⟨rfl, rfl⟩
  clear HC
  have HB := Below.refl w.heap.size w
  have HC := Lib.hid (drawClassCounts A c bs w h0)
  go_wp2_with fail
  (with_reducible refine HC.out.mono ?_)
  rintro e x1 ⟨L, lk, ls, n, rfl, hn0, hn1, il, hb⟩
  clear HC
  replace h0 := h0.next hb
  replace HB := HB.trans (hb.mono HB.size)
  clear hb
  have hccl := ccG_le (ls.map Row.xs) n
  have HC := Lib.hid (classCounts_impl L lk ls n (by omega) x1 il)
  go_wp2_with fail
  (with_reducible refine HC.out.mono ?_)
  rintro e x2 ⟨C, ck, rfl, _, _, ownC, hb⟩
  clear HC
  replace h0 := h0.next hb
  replace il := il.next hb
  replace HB := HB.trans (hb.mono HB.size)
  have rC := Rd.of_own ownC
  clear ownC
  clear hb
  have HC := Lib.hid (drawParseBasis A c bs x2 h0)
  go_wp2_with fail
  (with_reducible refine HC.out.mono ?_)
  rintro e x3 ⟨t, rfl, ht, hb⟩
  clear HC
  replace h0 := h0.next hb
  replace il := il.next hb
  replace rC := rC.next hb
  replace HB := HB.trans (hb.mono HB.size)
  clear hb
  have HC := Lib.hid (parseBasis_impl t mx x3 (by omega) ((HB.cell (p := ⟨0, 0, none⟩) hGl).trans HMX.out))
  go_wp2_with fail
  (with_reducible refine HC.out.mono ?_)
  rintro e x4 ⟨aA, ak, ar, rfl, hXa, hOa, hb⟩
  clear HC
  have Ha := Lib.hid hXa
  have ia := hOa.read.toL (rows_fit hXa (pbG_le t)) (Nat.le_refl _)
  clear hXa hOa
  replace h0 := h0.next hb
  replace il := il.next hb
  replace rC := rC.next hb
  replace HB := HB.trans (hb.mono HB.size)
  clear hb
  have HC := Lib.hid (parseBasis_spec t x4 (by omega))
  go_wp2_with fail
  (with_reducible refine HC.out.mono ?_)
  rintro e x5 ⟨bA, bk, br, rfl, hXb, hOb, hb⟩
  clear HC
  have Hb := Lib.hid hXb
  have ib := hOb.read.toL (rows_fit hXb (pbG_le t)) (Nat.le_refl _)
  clear hXb hOb
  replace h0 := h0.next hb
  replace il := il.next hb
  replace rC := rC.next hb
  replace ia := ia.next hb
  replace HB := HB.trans (hb.mono HB.size)
  clear hb
  have HC := Lib.hid (drawMakeBasis A c bs x5 h0)
  go_wp2_with fail
  (with_reducible refine HC.out.mono ?_)
  rintro e x6 ⟨M, mk, ms, rfl, im, hb⟩
  clear HC
  replace h0 := h0.next hb
  replace il := il.next hb
  replace rC := rC.next hb
  replace ia := ia.next hb
  replace ib := ib.next hb
  replace HB := HB.trans (hb.mono HB.size)
  clear hb
  have HC := Lib.hid (makeBasis_impl M mk ms x6 im)
  go_wp2_with fail
  (with_reducible refine HC.out.mono ?_)
  rintro e x7 ⟨mcA, mck, mcr, rfl, hXmc, hOmc, hb⟩
  clear HC
  have Hmc := Lib.hid hXmc
  have imc := hOmc.read.toL (rows_fit hXmc (mkG_le _)) (Nat.le_refl _)
  clear hXmc hOmc
  replace h0 := h0.next hb
  replace il := il.next hb
  replace rC := rC.next hb
  replace ia := ia.next hb
  replace ib := ib.next hb
  replace im := im.next hb
  replace HB := HB.trans (hb.mono HB.size)
  clear hb
  have HC := Lib.hid (makeBasis_spec M mk ms x7 im)
  go_wp2_with fail
  (with_reducible refine HC.out.mono ?_)
  rintro e x8 ⟨mdA, mdk, mdr, rfl, hXmd, hOmd, hb⟩
  clear HC
  have Hmd := Lib.hid hXmd
  have imd := hOmd.read.toL (rows_fit hXmd (mkG_le _)) (Nat.le_refl _)
  clear hXmd hOmd
  replace h0 := h0.next hb
  replace il := il.next hb
  replace rC := rC.next hb
  replace ia := ia.next hb
  replace ib := ib.next hb
  replace im := im.next hb
  replace imc := imc.next hb
  replace HB := HB.trans (hb.mono HB.size)
  clear hb
  clear im
  have HC := Lib.hid (drawInClass A c bs x8 h0)
  go_wp2_with fail
  (with_reducible refine HC.out.mono ?_)
  rintro e x9 ⟨E, ek, es, P, pk, p, rfl, ie, ip, hp9, hb⟩
  clear HC
  replace h0 := h0.next hb
  replace il := il.next hb
  replace rC := rC.next hb
  replace ia := ia.next hb
  replace ib := ib.next hb
  replace imc := imc.next hb
  replace imd := imd.next hb
  replace HB := HB.trans (hb.mono HB.size)
  clear hb
  have HC := Lib.hid (drawBasisUpTo A c bs x9 h0)
  go_wp2_with fail
  (with_reducible refine HC.out.mono ?_)
  rintro e x10 ⟨F, fk, fs, k, rfl, hk0, hk1, if_, hb⟩
  clear HC
  replace h0 := h0.next hb
  replace il := il.next hb
  replace rC := rC.next hb
  replace ia := ia.next hb
  replace ib := ib.next hb
  replace imc := imc.next hb
  replace imd := imd.next hb
  replace ie := ie.next hb
  replace ip := ip.next hb
  replace HB := HB.trans (hb.mono HB.size)
  clear hb
  clear h0
  have HC := Lib.hid (classCounts_spec L lk ls n (by omega) x10 il)
  go_wp2_with fail
  (with_reducible refine HC.out.mono ?_)
  rintro e x11 ⟨C2, c2k, rfl, _, _, ownC2, hb⟩
  clear HC
  replace il := il.next hb
  replace rC := rC.next hb
  replace ia := ia.next hb
  replace ib := ib.next hb
  replace imc := imc.next hb
  replace imd := imd.next hb
  replace ie := ie.next hb
  replace ip := ip.next hb
  replace if_ := if_.next hb
  replace HB := HB.trans (hb.mono HB.size)
  have rC2 := Rd.of_own ownC2
  clear ownC2
  clear hb
  have HC := Lib.hid (sameInts_eq C C2 ck c2k _ _ (ccG (ls.map Row.xs) n) (ccG (ls.map Row.xs) n) x11 rfl rfl rfl hccl rC rC2)
  go_wp2_with fail
  (with_reducible refine HC.out.mono ?_)
  rintro e x12 ⟨rfl, hd⟩
  clear HC
  have hb := (below_dr (Below.refl x11.heap.size x11) hd)
  replace il := il.next hb
  replace rC := rC.next hb
  replace ia := ia.next hb
  replace ib := ib.next hb
  replace imc := imc.next hb
  replace imd := imd.next hb
  replace ie := ie.next hb
  replace ip := ip.next hb
  replace if_ := if_.next hb
  replace rC2 := rC2.next hb
  replace HB := HB.trans (hb.mono HB.size)
  clear hb hd
  clear rC2
  have c0 : (pbOk t != pbOk t) = false := by simp
  have HC := Lib.hid (sameLists_eq aA bA ak bk ar br x12 ia ib (by rw [Ha.out, Hb.out]))
  go_wp2_with fail
  (with_reducible refine HC.out.mono ?_)
  rintro e x13 ⟨rfl, hb⟩
  clear HC
  replace il := il.next hb
  replace rC := rC.next hb
  replace ia := ia.next hb
  replace ib := ib.next hb
  replace imc := imc.next hb
  replace imd := imd.next hb
  replace ie := ie.next hb
  replace ip := ip.next hb
  replace if_ := if_.next hb
  replace HB := HB.trans (hb.mono HB.size)
  clear hb
  clear ia ib
  have c1 : (mkB (ms.map Row.xs) != mkB (ms.map Row.xs)) = false := by simp
  have HC := Lib.hid (sameLists_eq mcA mdA mck mdk mcr mdr x13 imc imd (by rw [Hmc.out, Hmd.out]))
  go_wp2_with fail
  (with_reducible refine HC.out.mono ?_)
  rintro e x14 ⟨rfl, hb⟩
  clear HC
  replace il := il.next hb
  replace rC := rC.next hb
  replace imc := imc.next hb
  replace imd := imd.next hb
  replace ie := ie.next hb
  replace ip := ip.next hb
  replace if_ := if_.next hb
  replace HB := HB.trans (hb.mono HB.size)
  clear hb
  clear imc imd
  have HC := Lib.hid (inClass_impl E ek es P pk p x14 ie ip)
  go_wp2_with fail
  (with_reducible refine HC.out.mono ?_)
  rintro e x15 ⟨rfl, hb⟩
  clear HC
  replace il := il.next hb
  replace rC := rC.next hb
  replace ie := ie.next hb
  replace ip := ip.next hb
  replace if_ := if_.next hb
  replace HB := HB.trans (hb.mono HB.size)
  clear hb
  have HC := Lib.hid (inClass_spec E ek es P pk p x15 ie ip)
  go_wp2_with fail
  (with_reducible refine HC.out.mono ?_)
  rintro e x16 ⟨rfl, hb⟩
  clear HC
  replace il := il.next hb
  replace rC := rC.next hb
  replace ie := ie.next hb
  replace ip := ip.next hb
  replace if_ := if_.next hb
  replace HB := HB.trans (hb.mono HB.size)
  clear hb
  have c2 : (inClassB (es.map Row.xs) p != inClassB (es.map Row.xs) p) = false := by simp
  have HC := Lib.hid (basisUpTo_impl F fk fs k (by omega) x16 if_)
  go_wp2_with fail
  (with_reducible refine HC.out.mono ?_)
  rintro e x17 ⟨uA, uk, ur, rfl, hXu, hOu, hb⟩
  clear HC
  have Hu := Lib.hid hXu
  have iu := hOu.read.toL (rows_fit hXu (bupG_le _ _)) (Nat.le_refl _)
  clear hXu hOu
  replace il := il.next hb
  replace rC := rC.next hb
  replace ie := ie.next hb
  replace ip := ip.next hb
  replace if_ := if_.next hb
  replace HB := HB.trans (hb.mono HB.size)
  clear hb
  have HC := Lib.hid (basisUpTo_spec F fk fs k (by omega) x17 if_)
  go_wp2_with fail
  (with_reducible refine HC.out.mono ?_)
  rintro e x18 ⟨vA, vk, vr, rfl, hXv, hOv, hb⟩
  clear HC
  have Hv := Lib.hid hXv
  have iv := hOv.read.toL (rows_fit hXv (bupG_le _ _)) (Nat.le_refl _)
  clear hXv hOv
  replace il := il.next hb
  replace rC := rC.next hb
  replace ie := ie.next hb
  replace ip := ip.next hb
  replace if_ := if_.next hb
  replace iu := iu.next hb
  replace HB := HB.trans (hb.mono HB.size)
  clear hb
  have HC := Lib.hid (sameLists_eq uA vA uk vk ur vr x18 iu iv (by rw [Hu.out, Hv.out]))
  go_wp2_with fail
  (with_reducible refine HC.out.mono ?_)
  rintro e x19 ⟨rfl, hb⟩
  clear HC
  replace il := il.next hb
  replace rC := rC.next hb
  replace ie := ie.next hb
  replace ip := ip.next hb
  replace if_ := if_.next hb
  replace iu := iu.next hb
  replace iv := iv.next hb
  replace HB := HB.trans (hb.mono HB.size)
  clear hb
  clear iu iv if_
  have HC := Lib.hid (basis_impl L lk ls x19 il)
  go_wp2_with fail
  (with_reducible refine HC.out.mono ?_)
  rintro e x20 ⟨rfl, hb⟩
  clear HC
  replace il := il.next hb
  replace rC := rC.next hb
  replace ie := ie.next hb
  replace ip := ip.next hb
  replace HB := HB.trans (hb.mono HB.size)
  clear hb
  have HC := Lib.hid (basis_spec L lk ls x20 il)
  go_wp2_with fail
  (with_reducible refine HC.out.mono ?_)
  rintro e x21 ⟨rfl, hb⟩
  clear HC
  replace il := il.next hb
  replace rC := rC.next hb
  replace ie := ie.next hb
  replace ip := ip.next hb
  replace HB := HB.trans (hb.mono HB.size)
  clear hb
  have c3 : (basisB (ls.map Row.xs) != basisB (ls.map Row.xs)) = false := by simp
  obtain ⟨tx, htx⟩ : ∃ t, btxt (ls.map Row.xs) = t := ⟨_, rfl⟩
  have HTX := Lib.hid htx
  clear htx
  have HC := Lib.hid ((by have h := basisText_impl L lk ls x21 il; rw [HTX.out] at h; exact h : Calls Tryz.prog 24 #[.slice L ls.length lk] x21 (Rb x21 (.string tx))))
  go_wp2_with fail
  (with_reducible refine HC.out.mono ?_)
  rintro e x22 ⟨rfl, hb⟩
  clear HC
  replace il := il.next hb
  replace rC := rC.next hb
  replace ie := ie.next hb
  replace ip := ip.next hb
  replace HB := HB.trans (hb.mono HB.size)
  clear hb
  have HC := Lib.hid ((by have h := basisText_spec L lk ls x22 il; rw [HTX.out] at h; exact h : Calls Tryz.prog 25 #[.slice L ls.length lk] x22 (Rb x22 (.string tx))))
  go_wp2_with fail
  (with_reducible refine HC.out.mono ?_)
  rintro e x23 ⟨rfl, hb⟩
  clear HC
  replace il := il.next hb
  replace rC := rC.next hb
  replace ie := ie.next hb
  replace ip := ip.next hb
  replace HB := HB.trans (hb.mono HB.size)
  clear hb
  obtain ⟨bi, hbi⟩ : ∃ b, inClassB (es.map Row.xs) p = b := ⟨_, rfl⟩
  have HBI := Lib.hid hbi
  clear hbi
  have HC := Lib.hid (inClass_iq E ek es P pk p x23 ie ip HBI.out)
  go_wp2_with fail
  (with_reducible refine HC.out.mono ?_)
  rintro e x24 ⟨rfl, hb⟩
  clear HC
  replace il := il.next hb
  replace rC := rC.next hb
  replace ie := ie.next hb
  replace ip := ip.next hb
  replace HB := HB.trans (hb.mono HB.size)
  clear hb
  go_upto_if 134 with (fail)
  go_cut [20, 21] from 132 to 149 (fun _ _ wz => Below x24.heap.size x24 wz)
  case first =>
    rcases bi with _ | _
    · go_wp2_with fail
      go_meet
      case rel => exact Below.refl _ _
    have HC := Lib.hid (lowersOf_any P pk p x24 ip)
    go_wp2_with fail
    (with_reducible refine HC.out.mono ?_)
    rintro e y1 ⟨XA, Xk, Xr, rfl, hXX, hOX, hb1⟩
    have HX := Lib.hid hXX
    have iX := hOX.read.toL (small_rows hXX (Nat.le_trans (low_len p) (by omega)) (fun l hl => low_row hl)) (Nat.le_refl _)
    have hXl : Xr.length ≤ 8 := by have h1 := congrArg List.length hXX; rw [List.length_map] at h1; have := low_len p; omega
    clear hXX hOX HC
    replace ie := ie.next hb1
    go_wp2_with fail
    go_loopw [21] (fun i wr => ∃ j : Nat, j ≤ Xr.length ∧ i = .int .i64 j ∧ Below y1.heap.size y1 wr) (fun i _ => Xr.length - (intOf i).toNat)
    case atStart => exact ⟨0, Nat.zero_le _, rfl, Below.refl _ _⟩
    case round =>
      obtain ⟨j, hj, rfl, hb⟩ := hrel
      rcases Nat.lt_or_ge j Xr.length with hlt | hge
      · obtain ⟨bo, oo, rfl, _, hc⟩ := (iX.next hb).read.at (by omega)
        have cc := hc j hlt
        have hin := (iX.next hb).row (List.getElem_mem hlt)
        have hmem : Xr[j].xs ∈ lowG p := by rw [← HX.out]; exact List.mem_map.2 ⟨Xr[j], List.getElem_mem hlt, rfl⟩
        obtain ⟨R1, hR1⟩ : ∃ R1 : Row, R1 = Xr[j] := ⟨_, rfl⟩
        rw [← hR1] at cc hin hmem
        clear hc hR1
        obtain ⟨RA, Rc, l⟩ := R1
        have HC := Lib.hid (inClass_iq E ek es RA Rc l wr (ie.next hb) hin (low_in HBI.out hmem))
        clear hmem
        go_wp2_with fail
        (with_reducible refine HC.out.mono ?_)
        rintro e y2 ⟨rfl, hb2⟩
        go_wp2_with fail
        go_roundw
        case rel => exact ⟨j + 1, by omega, by go_num, hb.trans (hb2.mono hb.size)⟩
        case measure => simp [intOf]; omega
      · obtain rfl : j = Xr.length := by omega
        have hbe := hb1.trans (hb.mono hb1.size)
        go_wp2_with fail
        go_meet
        case rel => exact hbe
  have hbz := hcut
  obtain ⟨q1, rfl⟩ : ∃ w', w' = wc := ⟨_, rfl⟩
  replace il := il.next hbz
  replace rC := rC.next hbz
  replace ie := ie.next hbz
  replace ip := ip.next hbz
  replace HB := HB.trans (hbz.mono HB.size)
  clear hbz
  clear ie ip
  go_upto_region 22 with (fail)
  have hln := il.len
  obtain ⟨j0, hj, hy0, hy1, hy2⟩ := info_parts infoL
  by_cases hbs : basisB (ls.map Row.xs) = true ∧ sixB n = true
  case neg =>
    have h0 : (ccG (ls.map Row.xs) n).length = 0 := by rw [ccG, if_neg hbs]; rfl
    rw [h0]
    go_wp2_with fail
    go_ret
    exact ⟨rfl, HB⟩
  have hn6 : 0 ≤ n ∧ n ≤ 6 := of_decide_eq_true hbs.2
  obtain ⟨N, rfl⟩ := Int.eq_ofNat_of_zero_le hn6.1
  have HCC := Lib.hid (show ccG (ls.map Row.xs) (N : Int) = (List.range (N + 1)).map fun k => ((clsL (ls.map Row.xs) k).length : Int) by rw [ccG, if_pos hbs, Int.toNat_natCast])
  have h0 : (ccG (ls.map Row.xs) (N : Int)).length = N + 1 := by rw [HCC.out]; simp
  have hN6 : N ≤ 6 := by omega
  have H1 := Lib.hid hbs.1
  have rC : Rd (Value.int .i64) q1 q1.heap.size C ((List.range (N + 1)).map fun k => ((clsL (ls.map Row.xs) k).length : Int)) := by rw [← HCC.out]; exact rC
  rw [h0]
  have c8 : ((((N + 1 : Nat) : Int)) == 0) = false := by simp; omega
  have c9 : (((N : Int) + 1) == 0) = false := by simp; omega
  clear h0 hbs hn6 hccl
  by_cases hN4 : 4 < N
  · have g1 : decide ((N : Int) > 4) = true := decide_eq_true (by omega)
    have g2 : decide (4 < (N : Int)) = true := decide_eq_true (by omega)
    go_wp2_with fail
    go_ret
    exact ⟨rfl, HB⟩
  have g1 : decide ((N : Int) > 4) = false := decide_eq_false (by omega)
  have g2 : decide (4 < (N : Int)) = false := decide_eq_false (by omega)
  have hN : N ≤ 4 := by omega
  clear hN4 hN6
  have hlit := Own.lit (lo := q1.heap.size) q1 (Nat.le_refl _)
  have hb0 := (Below.refl q1.heap.size q1).alloc (Nat.le_refl _) (.cells #[] 27)
  go_wp2_with fail
  go_loopw [22, 23, 24] (fun v i _ wr => ∃ (m : Nat) (A2 : Option Addr) (c2 : Nat) (ks : List Row), m ≤ N + 1 ∧ i = .int .i64 (m : Int) ∧ v = .slice A2 ks.length c2 ∧ Hid (ks.map Row.xs = clsTo (ls.map Row.xs) m) ∧ Own wr q1.heap.size wr.heap.size ks [⟨A2, c2, ks.map Row.v⟩] ∧ Below q1.heap.size q1 wr) (fun _ i _ _ => N + 1 - (intOf i).toNat)
  case atStart => exact ⟨0, _, _, [], Nat.zero_le _, rfl, rfl, Lib.hid rfl, hlit, hb0⟩
  case round =>
    clear hlit hb0
    obtain ⟨m, A2, c2, ks, hm, rfl, rfl, HX, hO, hb⟩ := hrel
    have HSM := Lib.hid (clsTo_small (X := ls.map Row.xs) (m := m) (by omega))
    have hkl : ks.length ≤ 15625 := by
      have h1 := congrArg List.length HX.out
      have h2 := HSM.out.1
      rw [List.length_map] at h1
      omega
    have hsz := hb.size
    rcases Nat.lt_or_ge m (N + 1) with hlt | hge
    · have d1 : decide ((m : Int) ≤ (N : Int)) = true := decide_eq_true (by omega)
      have HC1 := Lib.hid (classOf_impl L lk ls (m : Int) (by omega) wr (il.next hb))
      have HE1 := Lib.hid (show clG (ls.map Row.xs) (m : Int) = clsL (ls.map Row.xs) m by unfold clG sixB; rw [if_pos ⟨H1.out, decide_eq_true (by omega)⟩]; rfl)
      have HFW := Lib.hid (clsL_few (X := ls.map Row.xs) (n := m) (by omega))
      have HTS := Lib.hid (clsTo_succ (ls.map Row.xs) m)
      have rC1 := rC.next hb
      go_wp2_with fail
      (with_reducible refine HC1.out.mono ?_)
      rintro e w3 ⟨A3, c3, xs, rfl, hX3, hO3, hb3⟩
      have HXL := Lib.hid (show (clsL (ls.map Row.xs) m).length = xs.length by have h1 := congrArg List.length hX3; rw [HE1.out, List.length_map] at h1; exact h1.symm)
      have hxl : xs.length ≤ 3125 := by have h1 := HFW.out; rw [HXL.out] at h1; exact h1
      obtain ⟨bo, oo, rfl, _, hc⟩ := (rC1.next hb3) (by simp)
      have cc : w3.cell? ⟨bo, oo + m, none⟩ = some (.int .i64 (xs.length : Int)) := by
        have h1 := hc m (by simp; omega)
        simp only [List.getElem_map, List.getElem_range, HXL.out] at h1
        exact h1
      have cx : ((xs.length : Int) != (xs.length : Int)) = false := by simp
      have ho3 := own_below (hO.outN (n := ks.length) (by simp)) hb3
      have hx3 := read_rows hO3.read
      have hs3 := hb3.size
      clear hc rC1
      go_wp2_with (at_builtin; refine wpList_append_rd _ rfl _ _ 24 rfl (q1.heap.size) 27 j0 (.slice none 0 0) 24 Tryz.underlying24 hj hy0 hy1 hy2 rfl _ _ _ rfl ho3 _ _ _ _ (xs) rfl rfl hx3 (fun _ => rfl) (by unfold maxLen; omega) (by omega) (by first | omega | (simp; done) | (simp; omega)) ?_; intro v1 w1 hown1 hgrow1)
      obtain ⟨A5, c5, rfl, hO5⟩ := own_join hsz hO hO3 hb3 rfl hown1 hgrow1
      have hb5 := (hb.trans (hb3.mono hsz)).grown hgrow1 (by omega) (fun g hg => (hO.olim (n := ks.length) (by simp) g hg).1)
      have HX5 := Lib.hid (show (ks ++ xs).map Row.xs = clsTo (ls.map Row.xs) (m + 1) by rw [List.map_append, HX.out, hX3, HE1.out, HTS.out])
      have K := Lib.hid (And.intro hO5 hb5)
      clear hown1 hgrow1 ho3 hx3 hO hO3 hb3 hX3 hb hO5 hb5 hs3 cc
      go_wp2_with fail
      go_roundw
      case rel => exact ⟨m + 1, A5, c5, ks ++ xs, by omega, by go_num, by rw [List.length_append], HX5, K.out.1, K.out.2⟩
      case measure => simp [intOf]; omega
    · obtain rfl : m = N + 1 := by omega
      have d1 : decide (((N + 1 : Nat) : Int) ≤ (N : Int)) = false := decide_eq_false (by omega)
      have d2 : decide ((N : Int) + 1 ≤ (N : Int)) = false := decide_eq_false (by omega)
      obtain ⟨z0, rfl⟩ : ∃ z : World, z = wr := ⟨_, rfl⟩
      have il := il.next hb
      have HB := HB.trans (hb.mono HB.size)
      have iall : InL z0 A2 c2 ks := hO.read.toL (rows_fit HX.out (by have := few_size HSM.out.1 HSM.out.2; omega)) (Nat.le_refl _)
      have hS0 : OutL (z0.alloc (.cells #[] 27)) z0.heap.size (some ⟨z0.heap.size, 0, none⟩) 0 [] := ⟨World.ownsRow_lit z0 #[] 0 (Nat.le_refl _) (by unfold maxLen; omega) rfl, fun _ hr => (List.not_mem_nil hr).elim⟩
      have hb0 := (Below.refl z0.heap.size z0).alloc (Nat.le_refl _) (.cells #[] 27)
      clear hO hb rC
      go_wp2_with fail
      go_loopw [25, 26] (fun v i wr => ∃ (k : Nat) (A3 : Option Addr) (c3 : Nat) (ss : List Row), k ≤ ls.length ∧ i = .int .i64 (k : Int) ∧ v = .slice A3 ss.length c3 ∧ ss.length ≤ k ∧ Hid (ss.map Row.xs = shortL ((ls.map Row.xs).take k) N) ∧ OutL wr z0.heap.size A3 c3 ss ∧ Below z0.heap.size z0 wr) (fun _ i _ => ls.length - (intOf i).toNat)
      case atStart => exact ⟨0, _, _, [], Nat.zero_le _, rfl, rfl, Nat.le_refl _, Lib.hid rfl, hS0, hb0⟩
      case round =>
        clear hS0 hb0
        obtain ⟨k, A3, c3, ss, hk, rfl, rfl, hssk, HS, hO, hb⟩ := hrel
        have hsz := hb.size
        rcases Nat.lt_or_ge k ls.length with hlt | hge
        · have il2 := il.next hb
          obtain ⟨bo, oo, rfl, _, hc⟩ := il2.read.at (by omega)
          have cc := hc k hlt
          have hin := il.row (List.getElem_mem hlt)
          have hk2 : k < (ls.map Row.xs).length := by rw [List.length_map]; exact hlt
          have HSS := Lib.hid (short_succ (ls.map Row.xs) N k hk2)
          rw [show (ls.map Row.xs)[k] = ls[k].xs from List.getElem_map _] at HSS
          obtain ⟨R1, hR1⟩ : ∃ R1 : Row, R1 = ls[k] := ⟨_, rfl⟩
          rw [← hR1] at cc hin HSS
          clear hc hR1 il2
          obtain ⟨rA, rc, rx⟩ := R1
          have hrl := hin.len
          have hrk : RowOk wr z0.heap.size ⟨rA, rc, rx⟩ := (RowOk.of_in hin (Nat.le_refl _)).below hb (Nat.le_refl _)
          by_cases hle : rx.length ≤ N
          · have g3 : decide ((rx.length : Int) ≤ (N : Int)) = true := decide_eq_true (by omega)
            have hO1 := hO.out
            go_wp2_with (at_builtin; refine wpList_append_own _ rfl _ _ 24 rfl (z0.heap.size) 27 j0 (.slice none 0 0) 1 24 Tryz.underlying24 hj hy0 hy1 hy2 rfl (by decide) _ _ _ rfl (World.ownsRow.alloc hO1 _) ⟨wr.heap.size, 0, none⟩ 1 1 [Value.slice rA rx.length rc] rfl rfl (cell_one_at _ _ (by simp)) (by intro u hu; simp at hu; subst hu; rfl) (by unfold maxLen; omega) (by omega) (by simp; omega) ?_; intro v9 w9 hown9 hgrow9 _)
            obtain ⟨A5, c5, rfl, hO5, hgg, hsz5⟩ := OutL.push (r := ⟨rA, rc, rx⟩) hO rfl hsz hrk hown9 hgrow9
            have hb5 := hb.grown hgg hsz fun g hg => (hO.lt rfl g hg).1
            have HS5 := Lib.hid (show (ss ++ [(⟨rA, rc, rx⟩ : Row)]).map Row.xs = shortL ((ls.map Row.xs).take (k + 1)) N by rw [HSS.out, if_pos hle, List.map_append, HS.out]; rfl)
            have K := Lib.hid (And.intro hO5 hb5)
            clear hown9 hgrow9 hO1 hO hO5 hgg hsz5 hb hb5 hrk cc
            go_wp2_with fail
            go_roundw
            case rel => exact ⟨k + 1, by omega, by go_num, A5, c5, ss ++ [⟨rA, rc, rx⟩], by rw [List.length_append]; rfl, by rw [List.length_append]; simp; omega, HS5, K.out.1, K.out.2⟩
            case measure => simp [intOf]; omega
          · have g3 : decide ((rx.length : Int) ≤ (N : Int)) = false := decide_eq_false (by omega)
            have HS5 := Lib.hid (show ss.map Row.xs = shortL ((ls.map Row.xs).take (k + 1)) N by rw [HSS.out, if_neg hle, HS.out])
            go_wp2_with fail
            go_roundw
            case rel => exact ⟨k + 1, A3, c3, ss, by omega, by go_num, rfl, by omega, HS5, hO, hb⟩
            case measure => simp [intOf]; omega
        · obtain rfl : k = ls.length := by omega
          have HSE := Lib.hid (show ss.map Row.xs = shortL (ls.map Row.xs) N by have := HS.out; rwa [List.take_of_length_le (by rw [List.length_map]; exact Nat.le_refl _)] at this)
          have iss : InL wr A3 c3 ss := hO.inL hsz (rows_fit HSE.out (Nat.le_trans (rows_sub List.filter_sublist) (basis_size H1.out)))
          have HBU := Lib.hid (show bupG (ks.map Row.xs) (N : Int) = ss.map Row.xs by rw [HX.out, bup_again H1.out (by omega), HSE.out])
          have HC := Lib.hid (basisUpTo_impl A2 c2 ks (N : Int) (by omega) wr (iall.next hb))
          replace HB := HB.trans (hb.mono HB.size)
          go_wp2_with fail
          (with_reducible refine HC.out.mono ?_)
          rintro e w5 ⟨U, uk, us, rfl, hXu, hOu, hb5⟩
          have iu := hOu.read.toL (rows_fit hXu (bupG_le _ _)) (Nat.le_refl _)
          have HD := Lib.hid (sameLists_eq U A3 uk c3 us ss w5 iu (iss.next hb5) (by rw [hXu, HBU.out]))
          replace HB := HB.trans (hb5.mono HB.size)
          clear hOu hXu hO hb hb5 HC
          go_wp2_with fail
          (with_reducible refine HD.out.mono ?_)
          rintro e w6 ⟨rfl, hb6⟩
          go_wp2_with fail
          go_ret
          exact ⟨rfl, HB.trans (hb6.mono HB.size)⟩
end Go.Proofs.YtodloeonlaljpaaGreatDoor

/- What the arguments of a law read as: from the form's own reading to the words of Base. -/
namespace Go.Proofs.YtodloeonlaljpaaGreatDoor
set_option maxRecDepth 100000
open Go Go.RowKit Go.ChangeShapes Go.WideShapes Go.ChangeAt

theorem ownK : ownKnob Tryz.prog.godebug = none := by kernel_rfl
theorem wf_i64_bounds {n : Int} (h : (Lit.int .i64 n).wf = true) : -9223372036854775808 ≤ n ∧ n ≤ 9223372036854775807 := by
  have hmin : IntKind.i64.min = -9223372036854775808 := rfl
  have hmax : IntKind.i64.max = 9223372036854775807 := rfl
  simp only [Lit.wf, Bool.and_eq_true, decide_eq_true_eq] at h
  omega
theorem cells_int : Tryz.prog.cellsOf 3 = 1 := by kernel_rfl
theorem cells_ints : Tryz.prog.cellsOf 27 = 1 := by kernel_rfl
theorem cells_u8 : Tryz.prog.cellsOf 5 = 1 := by kernel_rfl
theorem laidOutK : laidOutB Tryz.prog = true := by kernel_rfl

section
variable {H : Type} {enc : TypeId × Value → H} {P : Program} {W : World} {base : Nat}

/-- A slice of whole numbers that came in, nil or not, reads as a list. -/
theorem open_intsR {t e : TypeId} {k : IntKind} {v : Value} {d : DataW H} {ps : List MemPlace} (ht : P.underlying t = some (.slice e)) (he : P.underlying e = some (.int k)) (ce : P.cellsOf e = 1)
    (hv : Value.okWide P W .any base t v) (h : DataW.Trod enc P W 0 (fun _ => true) true t v d ps) :
    ∃ (A : Option Addr) (xs : List Int) (c : Nat), v = .slice A xs.length c ∧ xs.length ≤ c ∧ c ≤ maxLen ∧ Rd (Value.int k) W W.heap.size A xs ∧ ∀ n ∈ xs, (Lit.int k n).wf = true := by
  obtain ⟨a0, len, cap, rfl⟩ := okWide_slice ht hv
  obtain ⟨fuel, hf⟩ := h
  rcases open_ints ht he ce hf with ⟨hcs, hx⟩ | ⟨a, len', cap', zs, hcs, _, hl, hm, hz, hx, hcell, hwz⟩
  · simp [Value.cells] at hcs
    obtain ⟨rfl, rfl, rfl⟩ := hcs
    exact ⟨none, [], 0, rfl, Nat.le_refl _, Nat.zero_le _, Rd.nil_, by simp⟩
  · simp [Value.cells] at hcs
    obtain ⟨rfl, rfl, rfl⟩ := hcs
    simp only [if_true] at hz
    have hlen : (zs.take len).length = len := by rw [List.length_take]; omega
    refine ⟨some a, zs.take len, cap, by rw [hlen], by omega, hm, fun h0 => ?_, fun n hn => hwz n (List.mem_of_mem_take hn)⟩
    rw [hlen] at h0
    obtain ⟨b, off, spot⟩ := a
    have hc0 := hcell 0 (by omega)
    have hspot : spot = none := by simpa [Addr.add] using World.cell?_spot hc0
    subst hspot
    refine ⟨b, off, rfl, ?_, fun j hj => ?_⟩
    · have := block_lt_of_cell hc0
      simpa [Addr.add] using this
    · have := hcell j (by omega)
      rw [add_plain] at this
      rw [this]
      simp [List.getD, show j < zs.length by omega]
end
end Go.Proofs.YtodloeonlaljpaaGreatDoor
