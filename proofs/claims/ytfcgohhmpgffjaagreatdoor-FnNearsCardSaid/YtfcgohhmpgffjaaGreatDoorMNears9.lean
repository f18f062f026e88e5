/- Several texts in one, each with its own head: WNears. No program of ours. -/
import Derived.Deep.RegionHeld3
import Derived.Test.YtfcgohhmpgffjaaGreatDoorMNears8
/- The walk of FnNears. Written by gen/gennr.py. -/
namespace Go.Proofs.YtfcgohhmpgffjaaGreatDoor
set_option maxRecDepth 100000
open Go Go.RowKit

theorem near_plain0 {p : List Int} (hp : permB p = true) : nearB p [] = true := near_of hp List.Pairwise.nil (by simp)
theorem near_plain {d p : List Int} (hd : permB d = true) (hp : permB p = true) : cnG d p [] = cpG d p := by
  rw [cnG, if_pos ⟨hd, near_plain0 hp⟩, cpG, if_pos ⟨hd, hp⟩, near_none, occ_eq hd hp]
theorem near_fewer {d p ys : List Int} (hd : permB d = true) (h : nearB p ys = true) : cnG d p ys ≤ cpG d p := by
  have hp := (near_parts h).1
  rw [cnG, if_pos ⟨hd, h⟩, cpG, if_pos ⟨hd, hp⟩, occ_eq hd hp]
  have := near_le d p ys
  omega
theorem near_turned {d p ys : List Int} (hd : permB d = true) (h : nearB p ys = true) : cnG d.reverse (rnG1 p ys) (rnG2 p ys) = cnG d p ys := by
  rw [show rnG1 p ys = p.reverse by rw [rnG1, if_pos h]; rfl, show rnG2 p ys = rnTo p.length ys ys.length by rw [rnG2, if_pos h], cnG, if_pos ⟨perm_reverse hd, near_rev h⟩, cnG, if_pos ⟨hd, h⟩, near_count_reverse hd h]
theorem countNear_nq {Q : Int} (A : Option Addr) (c : Nat) (p : List Int) (C D : Option Addr) (e f : Nat) (xs ys : List Int) (w : World) (hp : In w A c p) (hx : InN w C e xs D f ys) (hq : cnG p xs ys = Q) :
    Calls Tryz.prog 6 #[.slice A p.length c, .agg #[.slice C xs.length e, .slice D ys.length f]] w (Rb w (.int .i64 Q)) := by subst hq; exact countNear_impl A c p C D e f xs ys w hp hx
theorem near_sq {b : Bool} (A B : Option Addr) (c k : Nat) (xs ys : List Int) (w : World) (h : InN w A c xs B k ys) (hb : nearB xs ys = b) :
    Calls Tryz.prog 18 #[.agg #[.slice A xs.length c, .slice B ys.length k]] w (Rb w (.bool b)) := by subst hb; exact near_spec A B c k xs ys w h

set_option maxHeartbeats 8000000 in
set_option maxRecDepth 100000 in
theorem walk_FnNears (w : World) (A : Option Addr) (c : Nat) (bs : List Int) (hm : bs.length ≤ 9223372036854775807) (hr : Rd (Value.int .u8) w w.heap.size A bs) (mx : Int) (hmx : w.cell? ⟨0, 0, none⟩ = some (.int .i64 mx)) :
    Calls Tryz.prog 3 #[.slice A bs.length c] w (Rb w (.bool true)) := by
  obtain ⟨i0, hi, hz0, hz1, hz2⟩ := info_parts infoI
  have hGl := World.block_lt_of_cell? _ _ hmx
  have HMX := Lib.hid hmx
  clear hmx
  rcases Nat.lt_or_ge 1048576 bs.length with hbig | hlen
  · have HC := Lib.hid (big_no A c bs w hbig hm)
    go_enter Tryz.func3, Tryz.ntmps3
    go_wp2_with fail
    (with_reducible refine HC.out.mono ?_)
    rintro e w1 ⟨rfl, rfl⟩
    go_wp2_with fail
    go_ret
    exact ⟨rfl, Below.refl _ _⟩
  have h0 : InY w A c bs := ⟨hlen, hr⟩
  have HC := Lib.hid (big_ok A c bs w hlen)
  clear hr hm
  go_enter Tryz.func3, Tryz.ntmps3
  go_wp2_with fail
  (with_reducible refine HC.out.mono ?_)
  rintro e w0 ⟨rfl, rfl⟩
  clear HC
  have HB := Below.refl w.heap.size w
  have HC := Lib.hid (drawCountNear A c bs w h0)
  go_wp2_with fail
  (with_reducible refine HC.out.mono ?_)
  rintro e x1 ⟨D, dk, d, P, pk, p, J, jk, ys, rfl, hd9, hp4, hy4, id, ix, hb⟩
  clear HC
  replace h0 := h0.next hb
  replace HB := HB.trans (hb.mono HB.size)
  clear hb
  have hbA := (Below.refl x1.heap.size x1).alloc (Nat.le_refl _) (Obj.cells #[Value.slice P p.length pk, Value.slice J ys.length jk] 26)
  have o4 := obj_new x1 (Obj.cells #[Value.slice P p.length pk, Value.slice J ys.length jk] 26)
  replace h0 := h0.next hbA
  replace id := id.next hbA
  replace ix := ix.next hbA
  replace HB := HB.trans (hbA.mono HB.size)
  clear hbA
  have f0o4 : (x1.alloc (Obj.cells #[Value.slice P p.length pk, Value.slice J ys.length jk] 26)).cell? ⟨x1.heap.size, 0, none⟩ = some (Value.slice P p.length pk) := (obj_cell o4).trans rfl
  have f1o4 : (x1.alloc (Obj.cells #[Value.slice P p.length pk, Value.slice J ys.length jk] 26)).cell? ⟨x1.heap.size, 1, none⟩ = some (Value.slice J ys.length jk) := (obj_cell o4).trans rfl
  have HC := Lib.hid (countNear_impl D dk d P J pk jk p ys (x1.alloc (Obj.cells #[Value.slice P p.length pk, Value.slice J ys.length jk] 26)) id ix)
  go_wp2_with fail
  (with_reducible refine HC.out.mono ?_)
  rintro e x2 ⟨rfl, hb⟩
  clear HC
  replace o4 := obj_below o4 hb (obj_lt o4)
  replace h0 := h0.next hb
  replace id := id.next hb
  replace ix := ix.next hb
  replace HB := HB.trans (hb.mono HB.size)
  clear hb
  clear f0o4 f1o4
  have HC := Lib.hid (drawParseNear A c bs x2 h0)
  go_wp2_with fail
  (with_reducible refine HC.out.mono ?_)
  rintro e x3 ⟨t0, rfl, ht0, hb⟩
  clear HC
  replace o4 := obj_below o4 hb (obj_lt o4)
  replace h0 := h0.next hb
  replace id := id.next hb
  replace ix := ix.next hb
  replace HB := HB.trans (hb.mono HB.size)
  clear hb
  obtain ⟨l, rfl⟩ : ∃ l, t0 = Go.Proofs.YtfcgohhmpgffjaaGreatDoor.bs l := ⟨t0.data.toList, by unfold Go.Proofs.YtfcgohhmpgffjaaGreatDoor.bs; simp⟩
  have hll : l.length ≤ 100 := by rw [← bs_size l]; exact ht0
  clear ht0
  have hGl2 := pnG_le l
  have HC := Lib.hid (parseNear_impl l mx x3 (by omega) ((HB.cell (p := ⟨0, 0, none⟩) hGl).trans HMX.out))
  go_wp2_with fail
  (with_reducible refine HC.out.mono ?_)
  rintro e x4 ⟨aA, aB, aa, ab, rfl, hO, hb⟩
  clear HC
  replace o4 := obj_below o4 hb (obj_lt o4)
  replace h0 := h0.next hb
  replace id := id.next hb
  replace ix := ix.next hb
  replace HB := HB.trans (hb.mono HB.size)
  have rr := hO.read
  have inna : InN x4 aA aa (pnG1 l) aB ab (pnG2 l) := ⟨⟨by have := hGl2; omega, rr.cap ⟨aA, aa, pnG1 l⟩ (by simp), rr.rd ⟨aA, aa, pnG1 l⟩ (by simp)⟩, ⟨by have := hGl2; omega, rr.cap ⟨aB, ab, pnG2 l⟩ (by simp), rr.rd ⟨aB, ab, pnG2 l⟩ (by simp)⟩⟩
  clear hO rr hb
  have hbA := (Below.refl x4.heap.size x4).alloc (Nat.le_refl _) (Obj.cells #[Value.slice aA (pnG1 l).length aa, Value.slice aB (pnG2 l).length ab] 26)
  replace o4 := obj_alloc o4 (Obj.cells #[Value.slice aA (pnG1 l).length aa, Value.slice aB (pnG2 l).length ab] 26)
  have o7 := obj_new x4 (Obj.cells #[Value.slice aA (pnG1 l).length aa, Value.slice aB (pnG2 l).length ab] 26)
  replace h0 := h0.next hbA
  replace id := id.next hbA
  replace ix := ix.next hbA
  replace inna := inna.next hbA
  replace HB := HB.trans (hbA.mono HB.size)
  clear hbA
  have HC := Lib.hid (parseNear_spec l (x4.alloc (Obj.cells #[Value.slice aA (pnG1 l).length aa, Value.slice aB (pnG2 l).length ab] 26)) (by omega))
  go_wp2_with fail
  (with_reducible refine HC.out.mono ?_)
  rintro e x5 ⟨bA, bB, ba, bb, rfl, hO, hb⟩
  clear HC
  replace o4 := obj_below o4 hb (obj_lt o4)
  replace o7 := obj_below o7 hb (obj_lt o7)
  replace h0 := h0.next hb
  replace id := id.next hb
  replace ix := ix.next hb
  replace inna := inna.next hb
  replace HB := HB.trans (hb.mono HB.size)
  have rr := hO.read
  have innb : InN x5 bA ba (pnG1 l) bB bb (pnG2 l) := ⟨⟨by have := hGl2; omega, rr.cap ⟨bA, ba, pnG1 l⟩ (by simp), rr.rd ⟨bA, ba, pnG1 l⟩ (by simp)⟩, ⟨by have := hGl2; omega, rr.cap ⟨bB, bb, pnG2 l⟩ (by simp), rr.rd ⟨bB, bb, pnG2 l⟩ (by simp)⟩⟩
  clear hO rr hb
  have hbA := (Below.refl x5.heap.size x5).alloc (Nat.le_refl _) (Obj.cells #[Value.slice bA (pnG1 l).length ba, Value.slice bB (pnG2 l).length bb] 26)
  replace o4 := obj_alloc o4 (Obj.cells #[Value.slice bA (pnG1 l).length ba, Value.slice bB (pnG2 l).length bb] 26)
  replace o7 := obj_alloc o7 (Obj.cells #[Value.slice bA (pnG1 l).length ba, Value.slice bB (pnG2 l).length bb] 26)
  have o9 := obj_new x5 (Obj.cells #[Value.slice bA (pnG1 l).length ba, Value.slice bB (pnG2 l).length bb] 26)
  replace h0 := h0.next hbA
  replace id := id.next hbA
  replace ix := ix.next hbA
  replace inna := inna.next hbA
  replace innb := innb.next hbA
  replace HB := HB.trans (hbA.mono HB.size)
  clear hbA
  have f0o4 : (x5.alloc (Obj.cells #[Value.slice bA (pnG1 l).length ba, Value.slice bB (pnG2 l).length bb] 26)).cell? ⟨x1.heap.size, 0, none⟩ = some (Value.slice P p.length pk) := (obj_cell o4).trans rfl
  have f1o4 : (x5.alloc (Obj.cells #[Value.slice bA (pnG1 l).length ba, Value.slice bB (pnG2 l).length bb] 26)).cell? ⟨x1.heap.size, 1, none⟩ = some (Value.slice J ys.length jk) := (obj_cell o4).trans rfl
  have HC := Lib.hid (reverseNear_impl P J pk jk p ys (x5.alloc (Obj.cells #[Value.slice bA (pnG1 l).length ba, Value.slice bB (pnG2 l).length bb] 26)) ix)
  go_wp2_with fail
  (with_reducible refine HC.out.mono ?_)
  rintro e x6 ⟨rA, rB, ra, rb, rfl, hO, hb⟩
  clear HC
  replace o4 := obj_below o4 hb (obj_lt o4)
  replace o7 := obj_below o7 hb (obj_lt o7)
  replace o9 := obj_below o9 hb (obj_lt o9)
  replace h0 := h0.next hb
  replace id := id.next hb
  replace ix := ix.next hb
  replace inna := inna.next hb
  replace innb := innb.next hb
  replace HB := HB.trans (hb.mono HB.size)
  have rr := hO.read
  have innr : InN x6 rA ra (rnG1 p ys) rB rb (rnG2 p ys) := ⟨⟨by have := rnG_le p ys; omega, rr.cap ⟨rA, ra, rnG1 p ys⟩ (by simp), rr.rd ⟨rA, ra, rnG1 p ys⟩ (by simp)⟩, ⟨by have := rnG_le p ys; omega, rr.cap ⟨rB, rb, rnG2 p ys⟩ (by simp), rr.rd ⟨rB, rb, rnG2 p ys⟩ (by simp)⟩⟩
  clear hO rr hb
  clear f0o4 f1o4
  have hbA := (Below.refl x6.heap.size x6).alloc (Nat.le_refl _) (Obj.cells #[Value.slice rA (rnG1 p ys).length ra, Value.slice rB (rnG2 p ys).length rb] 26)
  replace o4 := obj_alloc o4 (Obj.cells #[Value.slice rA (rnG1 p ys).length ra, Value.slice rB (rnG2 p ys).length rb] 26)
  replace o7 := obj_alloc o7 (Obj.cells #[Value.slice rA (rnG1 p ys).length ra, Value.slice rB (rnG2 p ys).length rb] 26)
  replace o9 := obj_alloc o9 (Obj.cells #[Value.slice rA (rnG1 p ys).length ra, Value.slice rB (rnG2 p ys).length rb] 26)
  have o11 := obj_new x6 (Obj.cells #[Value.slice rA (rnG1 p ys).length ra, Value.slice rB (rnG2 p ys).length rb] 26)
  replace h0 := h0.next hbA
  replace id := id.next hbA
  replace ix := ix.next hbA
  replace inna := inna.next hbA
  replace innb := innb.next hbA
  replace innr := innr.next hbA
  replace HB := HB.trans (hbA.mono HB.size)
  clear hbA
  have f0o4 : (x6.alloc (Obj.cells #[Value.slice rA (rnG1 p ys).length ra, Value.slice rB (rnG2 p ys).length rb] 26)).cell? ⟨x1.heap.size, 0, none⟩ = some (Value.slice P p.length pk) := (obj_cell o4).trans rfl
  have f1o4 : (x6.alloc (Obj.cells #[Value.slice rA (rnG1 p ys).length ra, Value.slice rB (rnG2 p ys).length rb] 26)).cell? ⟨x1.heap.size, 1, none⟩ = some (Value.slice J ys.length jk) := (obj_cell o4).trans rfl
  have HC := Lib.hid (reverseNear_spec P J pk jk p ys (x6.alloc (Obj.cells #[Value.slice rA (rnG1 p ys).length ra, Value.slice rB (rnG2 p ys).length rb] 26)) ix)
  go_wp2_with fail
  (with_reducible refine HC.out.mono ?_)
  rintro e x7 ⟨sA, sB, sa, sb, rfl, hO, hb⟩
  clear HC
  replace o4 := obj_below o4 hb (obj_lt o4)
  replace o7 := obj_below o7 hb (obj_lt o7)
  replace o9 := obj_below o9 hb (obj_lt o9)
  replace o11 := obj_below o11 hb (obj_lt o11)
  replace h0 := h0.next hb
  replace id := id.next hb
  replace ix := ix.next hb
  replace inna := inna.next hb
  replace innb := innb.next hb
  replace innr := innr.next hb
  replace HB := HB.trans (hb.mono HB.size)
  have rr := hO.read
  have inns : InN x7 sA sa (rnG1 p ys) sB sb (rnG2 p ys) := ⟨⟨by have := rnG_le p ys; omega, rr.cap ⟨sA, sa, rnG1 p ys⟩ (by simp), rr.rd ⟨sA, sa, rnG1 p ys⟩ (by simp)⟩, ⟨by have := rnG_le p ys; omega, rr.cap ⟨sB, sb, rnG2 p ys⟩ (by simp), rr.rd ⟨sB, sb, rnG2 p ys⟩ (by simp)⟩⟩
  clear hO rr hb
  clear f0o4 f1o4
  have hbA := (Below.refl x7.heap.size x7).alloc (Nat.le_refl _) (Obj.cells #[Value.slice sA (rnG1 p ys).length sa, Value.slice sB (rnG2 p ys).length sb] 26)
  replace o4 := obj_alloc o4 (Obj.cells #[Value.slice sA (rnG1 p ys).length sa, Value.slice sB (rnG2 p ys).length sb] 26)
  replace o7 := obj_alloc o7 (Obj.cells #[Value.slice sA (rnG1 p ys).length sa, Value.slice sB (rnG2 p ys).length sb] 26)
  replace o9 := obj_alloc o9 (Obj.cells #[Value.slice sA (rnG1 p ys).length sa, Value.slice sB (rnG2 p ys).length sb] 26)
  replace o11 := obj_alloc o11 (Obj.cells #[Value.slice sA (rnG1 p ys).length sa, Value.slice sB (rnG2 p ys).length sb] 26)
  have o13 := obj_new x7 (Obj.cells #[Value.slice sA (rnG1 p ys).length sa, Value.slice sB (rnG2 p ys).length sb] 26)
  replace h0 := h0.next hbA
  replace id := id.next hbA
  replace ix := ix.next hbA
  replace inna := inna.next hbA
  replace innb := innb.next hbA
  replace innr := innr.next hbA
  replace inns := inns.next hbA
  replace HB := HB.trans (hbA.mono HB.size)
  clear hbA
  have HC := Lib.hid (drawConsecutiveOf A c bs (x7.alloc (Obj.cells #[Value.slice sA (rnG1 p ys).length sa, Value.slice sB (rnG2 p ys).length sb] 26)) h0)
  go_wp2_with fail
  (with_reducible refine HC.out.mono ?_)
  rintro e x8 ⟨Q, qk, q, rfl, hq9, own, hb⟩
  clear HC
  replace o4 := obj_below o4 hb (obj_lt o4)
  replace o7 := obj_below o7 hb (obj_lt o7)
  replace o9 := obj_below o9 hb (obj_lt o9)
  replace o11 := obj_below o11 hb (obj_lt o11)
  replace o13 := obj_below o13 hb (obj_lt o13)
  replace h0 := h0.next hb
  replace id := id.next hb
  replace ix := ix.next hb
  replace inna := inna.next hb
  replace innb := innb.next hb
  replace innr := innr.next hb
  replace inns := inns.next hb
  replace HB := HB.trans (hb.mono HB.size)
  have iq := In.of_own own (by omega)
  clear own
  clear hb
  have HC := Lib.hid (consecutive_impl Q qk q x8 iq)
  go_wp2_with fail
  (with_reducible refine HC.out.mono ?_)
  rintro e x9 ⟨eA, eB, ea, eb, rfl, hO, hb⟩
  clear HC
  replace o4 := obj_below o4 hb (obj_lt o4)
  replace o7 := obj_below o7 hb (obj_lt o7)
  replace o9 := obj_below o9 hb (obj_lt o9)
  replace o11 := obj_below o11 hb (obj_lt o11)
  replace o13 := obj_below o13 hb (obj_lt o13)
  replace h0 := h0.next hb
  replace id := id.next hb
  replace ix := ix.next hb
  replace inna := inna.next hb
  replace innb := innb.next hb
  replace innr := innr.next hb
  replace inns := inns.next hb
  replace iq := iq.next hb
  replace HB := HB.trans (hb.mono HB.size)
  have rr := hO.read
  have inne : InN x9 eA ea (conG1 q) eB eb (conG2 q) := ⟨⟨by have := conG_le q; omega, rr.cap ⟨eA, ea, conG1 q⟩ (by simp), rr.rd ⟨eA, ea, conG1 q⟩ (by simp)⟩, ⟨by have := conG_le q; omega, rr.cap ⟨eB, eb, conG2 q⟩ (by simp), rr.rd ⟨eB, eb, conG2 q⟩ (by simp)⟩⟩
  clear hO rr hb
  have hbA := (Below.refl x9.heap.size x9).alloc (Nat.le_refl _) (Obj.cells #[Value.slice eA (conG1 q).length ea, Value.slice eB (conG2 q).length eb] 26)
  replace o4 := obj_alloc o4 (Obj.cells #[Value.slice eA (conG1 q).length ea, Value.slice eB (conG2 q).length eb] 26)
  replace o7 := obj_alloc o7 (Obj.cells #[Value.slice eA (conG1 q).length ea, Value.slice eB (conG2 q).length eb] 26)
  replace o9 := obj_alloc o9 (Obj.cells #[Value.slice eA (conG1 q).length ea, Value.slice eB (conG2 q).length eb] 26)
  replace o11 := obj_alloc o11 (Obj.cells #[Value.slice eA (conG1 q).length ea, Value.slice eB (conG2 q).length eb] 26)
  replace o13 := obj_alloc o13 (Obj.cells #[Value.slice eA (conG1 q).length ea, Value.slice eB (conG2 q).length eb] 26)
  have o16 := obj_new x9 (Obj.cells #[Value.slice eA (conG1 q).length ea, Value.slice eB (conG2 q).length eb] 26)
  replace h0 := h0.next hbA
  replace id := id.next hbA
  replace ix := ix.next hbA
  replace inna := inna.next hbA
  replace innb := innb.next hbA
  replace innr := innr.next hbA
  replace inns := inns.next hbA
  replace iq := iq.next hbA
  replace inne := inne.next hbA
  replace HB := HB.trans (hbA.mono HB.size)
  clear hbA
  have HC := Lib.hid (consecutive_spec Q qk q (x9.alloc (Obj.cells #[Value.slice eA (conG1 q).length ea, Value.slice eB (conG2 q).length eb] 26)) iq)
  go_wp2_with fail
  (with_reducible refine HC.out.mono ?_)
  rintro e x10 ⟨fA, fB, fa, fb, rfl, hO, hb⟩
  clear HC
  replace o4 := obj_below o4 hb (obj_lt o4)
  replace o7 := obj_below o7 hb (obj_lt o7)
  replace o9 := obj_below o9 hb (obj_lt o9)
  replace o11 := obj_below o11 hb (obj_lt o11)
  replace o13 := obj_below o13 hb (obj_lt o13)
  replace o16 := obj_below o16 hb (obj_lt o16)
  replace h0 := h0.next hb
  replace id := id.next hb
  replace ix := ix.next hb
  replace inna := inna.next hb
  replace innb := innb.next hb
  replace innr := innr.next hb
  replace inns := inns.next hb
  replace iq := iq.next hb
  replace inne := inne.next hb
  replace HB := HB.trans (hb.mono HB.size)
  have rr := hO.read
  have innf : InN x10 fA fa (conG1 q) fB fb (conG2 q) := ⟨⟨by have := conG_le q; omega, rr.cap ⟨fA, fa, conG1 q⟩ (by simp), rr.rd ⟨fA, fa, conG1 q⟩ (by simp)⟩, ⟨by have := conG_le q; omega, rr.cap ⟨fB, fb, conG2 q⟩ (by simp), rr.rd ⟨fB, fb, conG2 q⟩ (by simp)⟩⟩
  clear hO rr hb
  have hbA := (Below.refl x10.heap.size x10).alloc (Nat.le_refl _) (Obj.cells #[Value.slice fA (conG1 q).length fa, Value.slice fB (conG2 q).length fb] 26)
  replace o4 := obj_alloc o4 (Obj.cells #[Value.slice fA (conG1 q).length fa, Value.slice fB (conG2 q).length fb] 26)
  replace o7 := obj_alloc o7 (Obj.cells #[Value.slice fA (conG1 q).length fa, Value.slice fB (conG2 q).length fb] 26)
  replace o9 := obj_alloc o9 (Obj.cells #[Value.slice fA (conG1 q).length fa, Value.slice fB (conG2 q).length fb] 26)
  replace o11 := obj_alloc o11 (Obj.cells #[Value.slice fA (conG1 q).length fa, Value.slice fB (conG2 q).length fb] 26)
  replace o13 := obj_alloc o13 (Obj.cells #[Value.slice fA (conG1 q).length fa, Value.slice fB (conG2 q).length fb] 26)
  replace o16 := obj_alloc o16 (Obj.cells #[Value.slice fA (conG1 q).length fa, Value.slice fB (conG2 q).length fb] 26)
  have o18 := obj_new x10 (Obj.cells #[Value.slice fA (conG1 q).length fa, Value.slice fB (conG2 q).length fb] 26)
  replace h0 := h0.next hbA
  replace id := id.next hbA
  replace ix := ix.next hbA
  replace inna := inna.next hbA
  replace innb := innb.next hbA
  replace innr := innr.next hbA
  replace inns := inns.next hbA
  replace iq := iq.next hbA
  replace inne := inne.next hbA
  replace innf := innf.next hbA
  replace HB := HB.trans (hbA.mono HB.size)
  clear hbA
  clear h0
  have f0o4 : (x10.alloc (Obj.cells #[Value.slice fA (conG1 q).length fa, Value.slice fB (conG2 q).length fb] 26)).cell? ⟨x1.heap.size, 0, none⟩ = some (Value.slice P p.length pk) := (obj_cell o4).trans rfl
  have f1o4 : (x10.alloc (Obj.cells #[Value.slice fA (conG1 q).length fa, Value.slice fB (conG2 q).length fb] 26)).cell? ⟨x1.heap.size, 1, none⟩ = some (Value.slice J ys.length jk) := (obj_cell o4).trans rfl
  go_upto_region 13 with (fail)
  clear f0o4 f1o4
  generalize hy0 : (x10.alloc (Obj.cells #[Value.slice fA (conG1 q).length fa, Value.slice fB (conG2 q).length fb] 26)) = y0 at o4 o7 o9 o11 o13 o16 o18 id ix inna innb innr inns iq inne innf HB ⊢
  clear hy0
  have c0 : (cnG d p ys != cnG d p ys) = false := by simp
  have c1 : (pnOk l != pnOk l) = false := by simp
  have c2 : (nearB p ys != nearB p ys) = false := by simp
  have c3 : (permB q != permB q) = false := by simp
  go_cut [8, 10, 12, 14, 17, 19, 112] from 24 to 112 (fun _ _ _ _ s17 _ s wz => s17 = .bool (permB q) ∧ s = .bool false ∧ Below y0.heap.size y0 wz)
  case first =>
    have hbd := below_dr (Below.refl y0.heap.size y0) (Dr.refl y0).drew
    have o4 := obj_below o4 hbd (obj_lt o4)
    have o7 := obj_below o7 hbd (obj_lt o7)
    have o9 := obj_below o9 hbd (obj_lt o9)
    have o11 := obj_below o11 hbd (obj_lt o11)
    have o13 := obj_below o13 hbd (obj_lt o13)
    have o16 := obj_below o16 hbd (obj_lt o16)
    have o18 := obj_below o18 hbd (obj_lt o18)
    have id := id.next hbd
    have ix := ix.next hbd
    have inna := inna.next hbd
    have innb := innb.next hbd
    have innr := innr.next hbd
    have inns := inns.next hbd
    have iq := iq.next hbd
    have inne := inne.next hbd
    have innf := innf.next hbd
    have hS0 : y0.drew.cell? ⟨x1.heap.size, 0, none⟩ = some (Value.slice P p.length pk) ∧ y0.drew.cell? ⟨x1.heap.size, 1, none⟩ = some (Value.slice J ys.length jk) ∧ y0.drew.cell? ⟨x4.heap.size, 0, none⟩ = some (Value.slice aA (pnG1 l).length aa) ∧ y0.drew.cell? ⟨x4.heap.size, 1, none⟩ = some (Value.slice aB (pnG2 l).length ab) ∧ y0.drew.cell? ⟨x5.heap.size, 0, none⟩ = some (Value.slice bA (pnG1 l).length ba) ∧ y0.drew.cell? ⟨x5.heap.size, 1, none⟩ = some (Value.slice bB (pnG2 l).length bb) ∧ y0.drew.cell? ⟨x6.heap.size, 0, none⟩ = some (Value.slice rA (rnG1 p ys).length ra) ∧ y0.drew.cell? ⟨x6.heap.size, 1, none⟩ = some (Value.slice rB (rnG2 p ys).length rb) ∧ y0.drew.cell? ⟨x7.heap.size, 0, none⟩ = some (Value.slice sA (rnG1 p ys).length sa) ∧ y0.drew.cell? ⟨x7.heap.size, 1, none⟩ = some (Value.slice sB (rnG2 p ys).length sb) ∧ y0.drew.cell? ⟨x9.heap.size, 0, none⟩ = some (Value.slice eA (conG1 q).length ea) ∧ y0.drew.cell? ⟨x9.heap.size, 1, none⟩ = some (Value.slice eB (conG2 q).length eb) ∧ y0.drew.cell? ⟨x10.heap.size, 0, none⟩ = some (Value.slice fA (conG1 q).length fa) ∧ y0.drew.cell? ⟨x10.heap.size, 1, none⟩ = some (Value.slice fB (conG2 q).length fb) := ⟨(obj_cell o4).trans rfl, (obj_cell o4).trans rfl, (obj_cell o7).trans rfl, (obj_cell o7).trans rfl, (obj_cell o9).trans rfl, (obj_cell o9).trans rfl, (obj_cell o11).trans rfl, (obj_cell o11).trans rfl, (obj_cell o13).trans rfl, (obj_cell o13).trans rfl, (obj_cell o16).trans rfl, (obj_cell o16).trans rfl, (obj_cell o18).trans rfl, (obj_cell o18).trans rfl⟩
    go_wp2_with fail
    refine wp_region_held_drew (S := (fun v => v.cell? ⟨x1.heap.size, 0, none⟩ = some (Value.slice P p.length pk) ∧ v.cell? ⟨x1.heap.size, 1, none⟩ = some (Value.slice J ys.length jk) ∧ v.cell? ⟨x4.heap.size, 0, none⟩ = some (Value.slice aA (pnG1 l).length aa) ∧ v.cell? ⟨x4.heap.size, 1, none⟩ = some (Value.slice aB (pnG2 l).length ab) ∧ v.cell? ⟨x5.heap.size, 0, none⟩ = some (Value.slice bA (pnG1 l).length ba) ∧ v.cell? ⟨x5.heap.size, 1, none⟩ = some (Value.slice bB (pnG2 l).length bb) ∧ v.cell? ⟨x6.heap.size, 0, none⟩ = some (Value.slice rA (rnG1 p ys).length ra) ∧ v.cell? ⟨x6.heap.size, 1, none⟩ = some (Value.slice rB (rnG2 p ys).length rb) ∧ v.cell? ⟨x7.heap.size, 0, none⟩ = some (Value.slice sA (rnG1 p ys).length sa) ∧ v.cell? ⟨x7.heap.size, 1, none⟩ = some (Value.slice sB (rnG2 p ys).length sb) ∧ v.cell? ⟨x9.heap.size, 0, none⟩ = some (Value.slice eA (conG1 q).length ea) ∧ v.cell? ⟨x9.heap.size, 1, none⟩ = some (Value.slice eB (conG2 q).length eb) ∧ v.cell? ⟨x10.heap.size, 0, none⟩ = some (Value.slice fA (conG1 q).length fa) ∧ v.cell? ⟨x10.heap.size, 1, none⟩ = some (Value.slice fB (conG2 q).length fb))) (by kernel_rfl) hS0 (fun hHeld => ?_)
    refine wpAnyH_take (i := 0) (oi := _) (v := ?_) rfl (by kernel_rfl) (by kernel_rfl) (by kernel_rfl) (fun _ _ _ h => h) (Or.inl ⟨by rfl, ?_⟩) (by assumption) ?_
    rotate_left
    · intro w hSw
      try dsimp only at hSw
      go_simp
      all_goals with_reducible rfl
    try simp only [Act.put, List.setIfInBounds_toArray, List.set_cons_zero, List.set_cons_succ, List.getElem_toArray, List.getElem_cons_succ, List.getElem_cons_zero]
    refine wpAnyH_take (i := 1) (oi := _) (v := ?_) rfl (by kernel_rfl) (by kernel_rfl) (by kernel_rfl) (fun _ _ _ h => h) (Or.inl ⟨by rfl, ?_⟩) (by assumption) ?_
    rotate_left
    · intro w hSw
      try dsimp only at hSw
      go_simp
      all_goals with_reducible rfl
    try simp only [Act.put, List.setIfInBounds_toArray, List.set_cons_zero, List.set_cons_succ, List.getElem_toArray, List.getElem_cons_succ, List.getElem_cons_zero]
    refine wpAnyH_take (i := 2) (oi := _) (v := ?_) rfl (by kernel_rfl) (by kernel_rfl) (by kernel_rfl) (fun _ _ _ h => h) (Or.inl ⟨by rfl, ?_⟩) (by assumption) ?_
    rotate_left
    · intro w hSw
      try dsimp only at hSw
      go_simp
      all_goals with_reducible rfl
    try simp only [Act.put, List.setIfInBounds_toArray, List.set_cons_zero, List.set_cons_succ, List.getElem_toArray, List.getElem_cons_succ, List.getElem_cons_zero]
    refine wpAnyH_ready (rs := [3]) (by kernel_rfl) (by simp) ?_
    refine AllReadyH.cons (o := _) rfl (fun K hK => ?_) AllReadyH.nil
    go_simp
    refine Calls.mono (countNear_spec D dk d P J pk jk p ys _ id ix) ?_
    rintro e v1 ⟨rfl, hb⟩
    have o4 := obj_below o4 hb (obj_lt o4)
    have o7 := obj_below o7 hb (obj_lt o7)
    have o9 := obj_below o9 hb (obj_lt o9)
    have o11 := obj_below o11 hb (obj_lt o11)
    have o13 := obj_below o13 hb (obj_lt o13)
    have o16 := obj_below o16 hb (obj_lt o16)
    have o18 := obj_below o18 hb (obj_lt o18)
    have id := id.next hb
    have ix := ix.next hb
    have inna := inna.next hb
    have innb := innb.next hb
    have innr := innr.next hb
    have inns := inns.next hb
    have iq := iq.next hb
    have inne := inne.next hb
    have innf := innf.next hb
    have hbd := hbd.trans (hb.mono hbd.size)
    have hS1 : v1.cell? ⟨x1.heap.size, 0, none⟩ = some (Value.slice P p.length pk) ∧ v1.cell? ⟨x1.heap.size, 1, none⟩ = some (Value.slice J ys.length jk) ∧ v1.cell? ⟨x4.heap.size, 0, none⟩ = some (Value.slice aA (pnG1 l).length aa) ∧ v1.cell? ⟨x4.heap.size, 1, none⟩ = some (Value.slice aB (pnG2 l).length ab) ∧ v1.cell? ⟨x5.heap.size, 0, none⟩ = some (Value.slice bA (pnG1 l).length ba) ∧ v1.cell? ⟨x5.heap.size, 1, none⟩ = some (Value.slice bB (pnG2 l).length bb) ∧ v1.cell? ⟨x6.heap.size, 0, none⟩ = some (Value.slice rA (rnG1 p ys).length ra) ∧ v1.cell? ⟨x6.heap.size, 1, none⟩ = some (Value.slice rB (rnG2 p ys).length rb) ∧ v1.cell? ⟨x7.heap.size, 0, none⟩ = some (Value.slice sA (rnG1 p ys).length sa) ∧ v1.cell? ⟨x7.heap.size, 1, none⟩ = some (Value.slice sB (rnG2 p ys).length sb) ∧ v1.cell? ⟨x9.heap.size, 0, none⟩ = some (Value.slice eA (conG1 q).length ea) ∧ v1.cell? ⟨x9.heap.size, 1, none⟩ = some (Value.slice eB (conG2 q).length eb) ∧ v1.cell? ⟨x10.heap.size, 0, none⟩ = some (Value.slice fA (conG1 q).length fa) ∧ v1.cell? ⟨x10.heap.size, 1, none⟩ = some (Value.slice fB (conG2 q).length fb) := ⟨(obj_cell o4).trans rfl, (obj_cell o4).trans rfl, (obj_cell o7).trans rfl, (obj_cell o7).trans rfl, (obj_cell o9).trans rfl, (obj_cell o9).trans rfl, (obj_cell o11).trans rfl, (obj_cell o11).trans rfl, (obj_cell o13).trans rfl, (obj_cell o13).trans rfl, (obj_cell o16).trans rfl, (obj_cell o16).trans rfl, (obj_cell o18).trans rfl, (obj_cell o18).trans rfl⟩
    clear hb
    go_wp2_with fail
    refine hK.out _ _ (hS1) (fun hHeld => ?_)
    clear hK K
    try simp only [Act.put, List.setIfInBounds_toArray, List.set_cons_zero, List.set_cons_succ, List.getElem_toArray, List.getElem_cons_succ, List.getElem_cons_zero]
    refine wpAnyH_take (i := 4) (oi := _) (v := ?_) rfl (by kernel_rfl) (by kernel_rfl) (by kernel_rfl) (fun _ _ _ h => h) (Or.inl ⟨by rfl, ?_⟩) (by assumption) ?_
    rotate_left
    · intro w hSw
      try dsimp only at hSw
      go_simp
      all_goals with_reducible rfl
    try simp only [Act.put, List.setIfInBounds_toArray, List.set_cons_zero, List.set_cons_succ, List.getElem_toArray, List.getElem_cons_succ, List.getElem_cons_zero]
    refine wpAnyH_take (i := 5) (oi := _) (v := ?_) rfl (by kernel_rfl) (by kernel_rfl) (by kernel_rfl) (fun _ _ _ h => h) (Or.inl ⟨by rfl, ?_⟩) (by assumption) ?_
    rotate_left
    · intro w hSw
      try dsimp only at hSw
      go_simp
      all_goals with_reducible rfl
    try simp only [Act.put, List.setIfInBounds_toArray, List.set_cons_zero, List.set_cons_succ, List.getElem_toArray, List.getElem_cons_succ, List.getElem_cons_zero]
    refine wpAnyH_take (i := 6) (oi := _) (v := ?_) rfl (by kernel_rfl) (by kernel_rfl) (by kernel_rfl) (fun _ _ _ h => h) (Or.inl ⟨by rfl, ?_⟩) (by assumption) ?_
    rotate_left
    · intro w hSw
      try dsimp only at hSw
      go_simp
      all_goals with_reducible rfl
    try simp only [Act.put, List.setIfInBounds_toArray, List.set_cons_zero, List.set_cons_succ, List.getElem_toArray, List.getElem_cons_succ, List.getElem_cons_zero]
    refine wpAnyH_take (i := 7) (oi := _) (v := ?_) rfl (by kernel_rfl) (by kernel_rfl) (by kernel_rfl) (fun _ _ _ h => h) (Or.inl ⟨by rfl, ?_⟩) (by assumption) ?_
    rotate_left
    · intro w hSw
      try dsimp only at hSw
      go_simp
      all_goals with_reducible rfl
    try simp only [Act.put, List.setIfInBounds_toArray, List.set_cons_zero, List.set_cons_succ, List.getElem_toArray, List.getElem_cons_succ, List.getElem_cons_zero]
    refine wpAnyH_take (i := 8) (oi := _) (v := ?_) rfl (by kernel_rfl) (by kernel_rfl) (by kernel_rfl) (fun _ _ _ h => h) (Or.inl ⟨by rfl, ?_⟩) (by assumption) ?_
    rotate_left
    · intro w hSw
      try dsimp only at hSw
      go_simp
      all_goals with_reducible rfl
    try simp only [Act.put, List.setIfInBounds_toArray, List.set_cons_zero, List.set_cons_succ, List.getElem_toArray, List.getElem_cons_succ, List.getElem_cons_zero]
    refine wpAnyH_take (i := 9) (oi := _) (v := ?_) rfl (by kernel_rfl) (by kernel_rfl) (by kernel_rfl) (fun _ _ _ h => h) (Or.inl ⟨by rfl, ?_⟩) (by assumption) ?_
    rotate_left
    · intro w hSw
      try dsimp only at hSw
      go_simp
      all_goals with_reducible rfl
    try simp only [Act.put, List.setIfInBounds_toArray, List.set_cons_zero, List.set_cons_succ, List.getElem_toArray, List.getElem_cons_succ, List.getElem_cons_zero]
    refine wpAnyH_take (i := 10) (oi := _) (v := ?_) rfl (by kernel_rfl) (by kernel_rfl) (by kernel_rfl) (fun _ _ _ h => h) (Or.inl ⟨by rfl, ?_⟩) (by assumption) ?_
    rotate_left
    · intro w hSw
      try dsimp only at hSw
      go_simp
      all_goals with_reducible rfl
    try simp only [Act.put, List.setIfInBounds_toArray, List.set_cons_zero, List.set_cons_succ, List.getElem_toArray, List.getElem_cons_succ, List.getElem_cons_zero]
    refine wpAnyH_take (i := 11) (oi := _) (v := ?_) rfl (by kernel_rfl) (by kernel_rfl) (by kernel_rfl) (fun _ _ _ h => h) (Or.inl ⟨by rfl, ?_⟩) (by assumption) ?_
    rotate_left
    · intro w hSw
      try dsimp only at hSw
      go_simp
      all_goals with_reducible rfl
    try simp only [Act.put, List.setIfInBounds_toArray, List.set_cons_zero, List.set_cons_succ, List.getElem_toArray, List.getElem_cons_succ, List.getElem_cons_zero]
    refine wpAnyH_take (i := 12) (oi := _) (v := ?_) rfl (by kernel_rfl) (by kernel_rfl) (by kernel_rfl) (fun _ _ _ h => h) (Or.inl ⟨by rfl, ?_⟩) (by assumption) ?_
    rotate_left
    · intro w hSw
      try dsimp only at hSw
      go_simp
      all_goals with_reducible rfl
    try simp only [Act.put, List.setIfInBounds_toArray, List.set_cons_zero, List.set_cons_succ, List.getElem_toArray, List.getElem_cons_succ, List.getElem_cons_zero]
    refine wpAnyH_ready (rs := [13]) (by kernel_rfl) (by simp) ?_
    refine AllReadyH.cons (o := _) rfl (fun K hK => ?_) AllReadyH.nil
    go_simp
    refine Calls.mono (sameNear_eq aA aB bA bB aa ab ba bb _ _ _ _ _ inna innb rfl rfl) ?_
    rintro e v2 ⟨rfl, hb⟩
    have o4 := obj_below o4 hb (obj_lt o4)
    have o7 := obj_below o7 hb (obj_lt o7)
    have o9 := obj_below o9 hb (obj_lt o9)
    have o11 := obj_below o11 hb (obj_lt o11)
    have o13 := obj_below o13 hb (obj_lt o13)
    have o16 := obj_below o16 hb (obj_lt o16)
    have o18 := obj_below o18 hb (obj_lt o18)
    have id := id.next hb
    have ix := ix.next hb
    have inna := inna.next hb
    have innb := innb.next hb
    have innr := innr.next hb
    have inns := inns.next hb
    have iq := iq.next hb
    have inne := inne.next hb
    have innf := innf.next hb
    have hbd := hbd.trans (hb.mono hbd.size)
    have hS2 : v2.cell? ⟨x1.heap.size, 0, none⟩ = some (Value.slice P p.length pk) ∧ v2.cell? ⟨x1.heap.size, 1, none⟩ = some (Value.slice J ys.length jk) ∧ v2.cell? ⟨x4.heap.size, 0, none⟩ = some (Value.slice aA (pnG1 l).length aa) ∧ v2.cell? ⟨x4.heap.size, 1, none⟩ = some (Value.slice aB (pnG2 l).length ab) ∧ v2.cell? ⟨x5.heap.size, 0, none⟩ = some (Value.slice bA (pnG1 l).length ba) ∧ v2.cell? ⟨x5.heap.size, 1, none⟩ = some (Value.slice bB (pnG2 l).length bb) ∧ v2.cell? ⟨x6.heap.size, 0, none⟩ = some (Value.slice rA (rnG1 p ys).length ra) ∧ v2.cell? ⟨x6.heap.size, 1, none⟩ = some (Value.slice rB (rnG2 p ys).length rb) ∧ v2.cell? ⟨x7.heap.size, 0, none⟩ = some (Value.slice sA (rnG1 p ys).length sa) ∧ v2.cell? ⟨x7.heap.size, 1, none⟩ = some (Value.slice sB (rnG2 p ys).length sb) ∧ v2.cell? ⟨x9.heap.size, 0, none⟩ = some (Value.slice eA (conG1 q).length ea) ∧ v2.cell? ⟨x9.heap.size, 1, none⟩ = some (Value.slice eB (conG2 q).length eb) ∧ v2.cell? ⟨x10.heap.size, 0, none⟩ = some (Value.slice fA (conG1 q).length fa) ∧ v2.cell? ⟨x10.heap.size, 1, none⟩ = some (Value.slice fB (conG2 q).length fb) := ⟨(obj_cell o4).trans rfl, (obj_cell o4).trans rfl, (obj_cell o7).trans rfl, (obj_cell o7).trans rfl, (obj_cell o9).trans rfl, (obj_cell o9).trans rfl, (obj_cell o11).trans rfl, (obj_cell o11).trans rfl, (obj_cell o13).trans rfl, (obj_cell o13).trans rfl, (obj_cell o16).trans rfl, (obj_cell o16).trans rfl, (obj_cell o18).trans rfl, (obj_cell o18).trans rfl⟩
    clear hb
    go_wp2_with fail
    refine hK.out _ _ (hS2) (fun hHeld => ?_)
    clear hK K
    try simp only [Act.put, List.setIfInBounds_toArray, List.set_cons_zero, List.set_cons_succ, List.getElem_toArray, List.getElem_cons_succ, List.getElem_cons_zero]
    refine wpAnyH_take (i := 14) (oi := _) (v := ?_) rfl (by kernel_rfl) (by kernel_rfl) (by kernel_rfl) (fun _ _ _ h => h) (Or.inl ⟨by rfl, ?_⟩) (by assumption) ?_
    rotate_left
    · intro w hSw
      try dsimp only at hSw
      go_simp
      all_goals with_reducible rfl
    try simp only [Act.put, List.setIfInBounds_toArray, List.set_cons_zero, List.set_cons_succ, List.getElem_toArray, List.getElem_cons_succ, List.getElem_cons_zero]
    refine wpAnyH_take (i := 15) (oi := _) (v := ?_) rfl (by kernel_rfl) (by kernel_rfl) (by kernel_rfl) (fun _ _ _ h => h) (Or.inl ⟨by rfl, ?_⟩) (by assumption) ?_
    rotate_left
    · intro w hSw
      try dsimp only at hSw
      go_simp
      all_goals with_reducible rfl
    try simp only [Act.put, List.setIfInBounds_toArray, List.set_cons_zero, List.set_cons_succ, List.getElem_toArray, List.getElem_cons_succ, List.getElem_cons_zero]
    refine wpAnyH_take (i := 16) (oi := _) (v := ?_) rfl (by kernel_rfl) (by kernel_rfl) (by kernel_rfl) (fun _ _ _ h => h) (Or.inl ⟨by rfl, ?_⟩) (by assumption) ?_
    rotate_left
    · intro w hSw
      try dsimp only at hSw
      go_simp
      all_goals with_reducible rfl
    try simp only [Act.put, List.setIfInBounds_toArray, List.set_cons_zero, List.set_cons_succ, List.getElem_toArray, List.getElem_cons_succ, List.getElem_cons_zero]
    refine wpAnyH_take (i := 17) (oi := _) (v := ?_) rfl (by kernel_rfl) (by kernel_rfl) (by kernel_rfl) (fun _ _ _ h => h) (Or.inl ⟨by rfl, ?_⟩) (by assumption) ?_
    rotate_left
    · intro w hSw
      try dsimp only at hSw
      go_simp
      all_goals with_reducible rfl
    try simp only [Act.put, List.setIfInBounds_toArray, List.set_cons_zero, List.set_cons_succ, List.getElem_toArray, List.getElem_cons_succ, List.getElem_cons_zero]
    refine wpAnyH_take (i := 18) (oi := _) (v := ?_) rfl (by kernel_rfl) (by kernel_rfl) (by kernel_rfl) (fun _ _ _ h => h) (Or.inl ⟨by rfl, ?_⟩) (by assumption) ?_
    rotate_left
    · intro w hSw
      try dsimp only at hSw
      go_simp
      all_goals with_reducible rfl
    try simp only [Act.put, List.setIfInBounds_toArray, List.set_cons_zero, List.set_cons_succ, List.getElem_toArray, List.getElem_cons_succ, List.getElem_cons_zero]
    refine wpAnyH_take (i := 19) (oi := _) (v := ?_) rfl (by kernel_rfl) (by kernel_rfl) (by kernel_rfl) (fun _ _ _ h => h) (Or.inl ⟨by rfl, ?_⟩) (by assumption) ?_
    rotate_left
    · intro w hSw
      try dsimp only at hSw
      go_simp
      all_goals with_reducible rfl
    try simp only [Act.put, List.setIfInBounds_toArray, List.set_cons_zero, List.set_cons_succ, List.getElem_toArray, List.getElem_cons_succ, List.getElem_cons_zero]
    refine wpAnyH_take (i := 20) (oi := _) (v := ?_) rfl (by kernel_rfl) (by kernel_rfl) (by kernel_rfl) (fun _ _ _ h => h) (Or.inl ⟨by rfl, ?_⟩) (by assumption) ?_
    rotate_left
    · intro w hSw
      try dsimp only at hSw
      go_simp
      all_goals with_reducible rfl
    try simp only [Act.put, List.setIfInBounds_toArray, List.set_cons_zero, List.set_cons_succ, List.getElem_toArray, List.getElem_cons_succ, List.getElem_cons_zero]
    refine wpAnyH_take (i := 21) (oi := _) (v := ?_) rfl (by kernel_rfl) (by kernel_rfl) (by kernel_rfl) (fun _ _ _ h => h) (Or.inl ⟨by rfl, ?_⟩) (by assumption) ?_
    rotate_left
    · intro w hSw
      try dsimp only at hSw
      go_simp
      all_goals with_reducible rfl
    try simp only [Act.put, List.setIfInBounds_toArray, List.set_cons_zero, List.set_cons_succ, List.getElem_toArray, List.getElem_cons_succ, List.getElem_cons_zero]
    refine wpAnyH_take (i := 22) (oi := _) (v := ?_) rfl (by kernel_rfl) (by kernel_rfl) (by kernel_rfl) (fun _ _ _ h => h) (Or.inl ⟨by rfl, ?_⟩) (by assumption) ?_
    rotate_left
    · intro w hSw
      try dsimp only at hSw
      go_simp
      all_goals with_reducible rfl
    try simp only [Act.put, List.setIfInBounds_toArray, List.set_cons_zero, List.set_cons_succ, List.getElem_toArray, List.getElem_cons_succ, List.getElem_cons_zero]
    refine wpAnyH_take (i := 23) (oi := _) (v := ?_) rfl (by kernel_rfl) (by kernel_rfl) (by kernel_rfl) (fun _ _ _ h => h) (Or.inl ⟨by rfl, ?_⟩) (by assumption) ?_
    rotate_left
    · intro w hSw
      try dsimp only at hSw
      go_simp
      all_goals with_reducible rfl
    try simp only [Act.put, List.setIfInBounds_toArray, List.set_cons_zero, List.set_cons_succ, List.getElem_toArray, List.getElem_cons_succ, List.getElem_cons_zero]
    refine wpAnyH_ready (rs := [24]) (by kernel_rfl) (by simp) ?_
    refine AllReadyH.cons (o := _) rfl (fun K hK => ?_) AllReadyH.nil
    go_simp
    refine Calls.mono (sameNear_eq rA rB sA sB ra rb sa sb _ _ _ _ _ innr inns rfl rfl) ?_
    rintro e v3 ⟨rfl, hb⟩
    have o4 := obj_below o4 hb (obj_lt o4)
    have o7 := obj_below o7 hb (obj_lt o7)
    have o9 := obj_below o9 hb (obj_lt o9)
    have o11 := obj_below o11 hb (obj_lt o11)
    have o13 := obj_below o13 hb (obj_lt o13)
    have o16 := obj_below o16 hb (obj_lt o16)
    have o18 := obj_below o18 hb (obj_lt o18)
    have id := id.next hb
    have ix := ix.next hb
    have inna := inna.next hb
    have innb := innb.next hb
    have innr := innr.next hb
    have inns := inns.next hb
    have iq := iq.next hb
    have inne := inne.next hb
    have innf := innf.next hb
    have hbd := hbd.trans (hb.mono hbd.size)
    have hS3 : v3.cell? ⟨x1.heap.size, 0, none⟩ = some (Value.slice P p.length pk) ∧ v3.cell? ⟨x1.heap.size, 1, none⟩ = some (Value.slice J ys.length jk) ∧ v3.cell? ⟨x4.heap.size, 0, none⟩ = some (Value.slice aA (pnG1 l).length aa) ∧ v3.cell? ⟨x4.heap.size, 1, none⟩ = some (Value.slice aB (pnG2 l).length ab) ∧ v3.cell? ⟨x5.heap.size, 0, none⟩ = some (Value.slice bA (pnG1 l).length ba) ∧ v3.cell? ⟨x5.heap.size, 1, none⟩ = some (Value.slice bB (pnG2 l).length bb) ∧ v3.cell? ⟨x6.heap.size, 0, none⟩ = some (Value.slice rA (rnG1 p ys).length ra) ∧ v3.cell? ⟨x6.heap.size, 1, none⟩ = some (Value.slice rB (rnG2 p ys).length rb) ∧ v3.cell? ⟨x7.heap.size, 0, none⟩ = some (Value.slice sA (rnG1 p ys).length sa) ∧ v3.cell? ⟨x7.heap.size, 1, none⟩ = some (Value.slice sB (rnG2 p ys).length sb) ∧ v3.cell? ⟨x9.heap.size, 0, none⟩ = some (Value.slice eA (conG1 q).length ea) ∧ v3.cell? ⟨x9.heap.size, 1, none⟩ = some (Value.slice eB (conG2 q).length eb) ∧ v3.cell? ⟨x10.heap.size, 0, none⟩ = some (Value.slice fA (conG1 q).length fa) ∧ v3.cell? ⟨x10.heap.size, 1, none⟩ = some (Value.slice fB (conG2 q).length fb) := ⟨(obj_cell o4).trans rfl, (obj_cell o4).trans rfl, (obj_cell o7).trans rfl, (obj_cell o7).trans rfl, (obj_cell o9).trans rfl, (obj_cell o9).trans rfl, (obj_cell o11).trans rfl, (obj_cell o11).trans rfl, (obj_cell o13).trans rfl, (obj_cell o13).trans rfl, (obj_cell o16).trans rfl, (obj_cell o16).trans rfl, (obj_cell o18).trans rfl, (obj_cell o18).trans rfl⟩
    clear hb
    go_wp2_with fail
    refine hK.out _ _ (hS3) (fun hHeld => ?_)
    clear hK K
    try simp only [Act.put, List.setIfInBounds_toArray, List.set_cons_zero, List.set_cons_succ, List.getElem_toArray, List.getElem_cons_succ, List.getElem_cons_zero]
    refine wpAnyH_take (i := 25) (oi := _) (v := ?_) rfl (by kernel_rfl) (by kernel_rfl) (by kernel_rfl) (fun _ _ _ h => h) (Or.inl ⟨by rfl, ?_⟩) (by assumption) ?_
    rotate_left
    · intro w hSw
      try dsimp only at hSw
      go_simp
      all_goals with_reducible rfl
    try simp only [Act.put, List.setIfInBounds_toArray, List.set_cons_zero, List.set_cons_succ, List.getElem_toArray, List.getElem_cons_succ, List.getElem_cons_zero]
    refine wpAnyH_take (i := 26) (oi := _) (v := ?_) rfl (by kernel_rfl) (by kernel_rfl) (by kernel_rfl) (fun _ _ _ h => h) (Or.inl ⟨by rfl, ?_⟩) (by assumption) ?_
    rotate_left
    · intro w hSw
      try dsimp only at hSw
      go_simp
      all_goals with_reducible rfl
    try simp only [Act.put, List.setIfInBounds_toArray, List.set_cons_zero, List.set_cons_succ, List.getElem_toArray, List.getElem_cons_succ, List.getElem_cons_zero]
    refine wpAnyH_take (i := 27) (oi := _) (v := ?_) rfl (by kernel_rfl) (by kernel_rfl) (by kernel_rfl) (fun _ _ _ h => h) (Or.inl ⟨by rfl, ?_⟩) (by assumption) ?_
    rotate_left
    · intro w hSw
      try dsimp only at hSw
      go_simp
      all_goals with_reducible rfl
    try simp only [Act.put, List.setIfInBounds_toArray, List.set_cons_zero, List.set_cons_succ, List.getElem_toArray, List.getElem_cons_succ, List.getElem_cons_zero]
    refine wpAnyH_take (i := 28) (oi := _) (v := ?_) rfl (by kernel_rfl) (by kernel_rfl) (by kernel_rfl) (fun _ _ _ h => h) (Or.inl ⟨by rfl, ?_⟩) (by assumption) ?_
    rotate_left
    · intro w hSw
      try dsimp only at hSw
      go_simp
      all_goals with_reducible rfl
    try simp only [Act.put, List.setIfInBounds_toArray, List.set_cons_zero, List.set_cons_succ, List.getElem_toArray, List.getElem_cons_succ, List.getElem_cons_zero]
    refine wpAnyH_take (i := 29) (oi := _) (v := ?_) rfl (by kernel_rfl) (by kernel_rfl) (by kernel_rfl) (fun _ _ _ h => h) (Or.inl ⟨by rfl, ?_⟩) (by assumption) ?_
    rotate_left
    · intro w hSw
      try dsimp only at hSw
      go_simp
      all_goals with_reducible rfl
    try simp only [Act.put, List.setIfInBounds_toArray, List.set_cons_zero, List.set_cons_succ, List.getElem_toArray, List.getElem_cons_succ, List.getElem_cons_zero]
    refine wpAnyH_take (i := 30) (oi := _) (v := ?_) rfl (by kernel_rfl) (by kernel_rfl) (by kernel_rfl) (fun _ _ _ h => h) (Or.inl ⟨by rfl, ?_⟩) (by assumption) ?_
    rotate_left
    · intro w hSw
      try dsimp only at hSw
      go_simp
      all_goals with_reducible rfl
    try simp only [Act.put, List.setIfInBounds_toArray, List.set_cons_zero, List.set_cons_succ, List.getElem_toArray, List.getElem_cons_succ, List.getElem_cons_zero]
    refine wpAnyH_take (i := 31) (oi := _) (v := ?_) rfl (by kernel_rfl) (by kernel_rfl) (by kernel_rfl) (fun _ _ _ h => h) (Or.inl ⟨by rfl, ?_⟩) (by assumption) ?_
    rotate_left
    · intro w hSw
      try dsimp only at hSw
      go_simp
      all_goals with_reducible rfl
    try simp only [Act.put, List.setIfInBounds_toArray, List.set_cons_zero, List.set_cons_succ, List.getElem_toArray, List.getElem_cons_succ, List.getElem_cons_zero]
    refine wpAnyH_take (i := 32) (oi := _) (v := ?_) rfl (by kernel_rfl) (by kernel_rfl) (by kernel_rfl) (fun _ _ _ h => h) (Or.inl ⟨by rfl, ?_⟩) (by assumption) ?_
    rotate_left
    · intro w hSw
      try dsimp only at hSw
      go_simp
      all_goals with_reducible rfl
    try simp only [Act.put, List.setIfInBounds_toArray, List.set_cons_zero, List.set_cons_succ, List.getElem_toArray, List.getElem_cons_succ, List.getElem_cons_zero]
    refine wpAnyH_take (i := 33) (oi := _) (v := ?_) rfl (by kernel_rfl) (by kernel_rfl) (by kernel_rfl) (fun _ _ _ h => h) (Or.inl ⟨by rfl, ?_⟩) (by assumption) ?_
    rotate_left
    · intro w hSw
      try dsimp only at hSw
      go_simp
      all_goals with_reducible rfl
    try simp only [Act.put, List.setIfInBounds_toArray, List.set_cons_zero, List.set_cons_succ, List.getElem_toArray, List.getElem_cons_succ, List.getElem_cons_zero]
    refine wpAnyH_take (i := 34) (oi := _) (v := ?_) rfl (by kernel_rfl) (by kernel_rfl) (by kernel_rfl) (fun _ _ _ h => h) (Or.inl ⟨by rfl, ?_⟩) (by assumption) ?_
    rotate_left
    · intro w hSw
      try dsimp only at hSw
      go_simp
      all_goals with_reducible rfl
    try simp only [Act.put, List.setIfInBounds_toArray, List.set_cons_zero, List.set_cons_succ, List.getElem_toArray, List.getElem_cons_succ, List.getElem_cons_zero]
    refine wpAnyH_ready (rs := [35]) (by kernel_rfl) (by simp) ?_
    refine AllReadyH.cons (o := _) rfl (fun K hK => ?_) AllReadyH.nil
    go_simp
    refine Calls.mono (sameNear_eq eA eB fA fB ea eb fa fb _ _ _ _ _ inne innf rfl rfl) ?_
    rintro e v4 ⟨rfl, hb⟩
    have o4 := obj_below o4 hb (obj_lt o4)
    have o7 := obj_below o7 hb (obj_lt o7)
    have o9 := obj_below o9 hb (obj_lt o9)
    have o11 := obj_below o11 hb (obj_lt o11)
    have o13 := obj_below o13 hb (obj_lt o13)
    have o16 := obj_below o16 hb (obj_lt o16)
    have o18 := obj_below o18 hb (obj_lt o18)
    have id := id.next hb
    have ix := ix.next hb
    have inna := inna.next hb
    have innb := innb.next hb
    have innr := innr.next hb
    have inns := inns.next hb
    have iq := iq.next hb
    have inne := inne.next hb
    have innf := innf.next hb
    have hbd := hbd.trans (hb.mono hbd.size)
    have hS4 : v4.cell? ⟨x1.heap.size, 0, none⟩ = some (Value.slice P p.length pk) ∧ v4.cell? ⟨x1.heap.size, 1, none⟩ = some (Value.slice J ys.length jk) ∧ v4.cell? ⟨x4.heap.size, 0, none⟩ = some (Value.slice aA (pnG1 l).length aa) ∧ v4.cell? ⟨x4.heap.size, 1, none⟩ = some (Value.slice aB (pnG2 l).length ab) ∧ v4.cell? ⟨x5.heap.size, 0, none⟩ = some (Value.slice bA (pnG1 l).length ba) ∧ v4.cell? ⟨x5.heap.size, 1, none⟩ = some (Value.slice bB (pnG2 l).length bb) ∧ v4.cell? ⟨x6.heap.size, 0, none⟩ = some (Value.slice rA (rnG1 p ys).length ra) ∧ v4.cell? ⟨x6.heap.size, 1, none⟩ = some (Value.slice rB (rnG2 p ys).length rb) ∧ v4.cell? ⟨x7.heap.size, 0, none⟩ = some (Value.slice sA (rnG1 p ys).length sa) ∧ v4.cell? ⟨x7.heap.size, 1, none⟩ = some (Value.slice sB (rnG2 p ys).length sb) ∧ v4.cell? ⟨x9.heap.size, 0, none⟩ = some (Value.slice eA (conG1 q).length ea) ∧ v4.cell? ⟨x9.heap.size, 1, none⟩ = some (Value.slice eB (conG2 q).length eb) ∧ v4.cell? ⟨x10.heap.size, 0, none⟩ = some (Value.slice fA (conG1 q).length fa) ∧ v4.cell? ⟨x10.heap.size, 1, none⟩ = some (Value.slice fB (conG2 q).length fb) := ⟨(obj_cell o4).trans rfl, (obj_cell o4).trans rfl, (obj_cell o7).trans rfl, (obj_cell o7).trans rfl, (obj_cell o9).trans rfl, (obj_cell o9).trans rfl, (obj_cell o11).trans rfl, (obj_cell o11).trans rfl, (obj_cell o13).trans rfl, (obj_cell o13).trans rfl, (obj_cell o16).trans rfl, (obj_cell o16).trans rfl, (obj_cell o18).trans rfl, (obj_cell o18).trans rfl⟩
    clear hb
    go_wp2_with fail
    refine hK.out _ _ (hS4) (fun hHeld => ?_)
    clear hK K
    try simp only [Act.put, List.setIfInBounds_toArray, List.set_cons_zero, List.set_cons_succ, List.getElem_toArray, List.getElem_cons_succ, List.getElem_cons_zero]
    refine wpAnyH_take (i := 36) (oi := _) (v := ?_) rfl (by kernel_rfl) (by kernel_rfl) (by kernel_rfl) (fun _ _ _ h => h) (Or.inl ⟨by rfl, ?_⟩) (by assumption) ?_
    rotate_left
    · intro w hSw
      try dsimp only at hSw
      go_simp
      all_goals with_reducible rfl
    try simp only [Act.put, List.setIfInBounds_toArray, List.set_cons_zero, List.set_cons_succ, List.getElem_toArray, List.getElem_cons_succ, List.getElem_cons_zero]
    refine wpAnyH_take (i := 37) (oi := _) (v := ?_) rfl (by kernel_rfl) (by kernel_rfl) (by kernel_rfl) (fun _ _ _ h => h) (Or.inl ⟨by rfl, ?_⟩) (by assumption) ?_
    rotate_left
    · intro w hSw
      try dsimp only at hSw
      go_simp
      all_goals with_reducible rfl
    try simp only [Act.put, List.setIfInBounds_toArray, List.set_cons_zero, List.set_cons_succ, List.getElem_toArray, List.getElem_cons_succ, List.getElem_cons_zero]
    refine wpAnyH_take (i := 38) (oi := _) (v := ?_) rfl (by kernel_rfl) (by kernel_rfl) (by kernel_rfl) (fun _ _ _ h => h) (Or.inl ⟨by rfl, ?_⟩) (by assumption) ?_
    rotate_left
    · intro w hSw
      try dsimp only at hSw
      go_simp
      all_goals with_reducible rfl
    try simp only [Act.put, List.setIfInBounds_toArray, List.set_cons_zero, List.set_cons_succ, List.getElem_toArray, List.getElem_cons_succ, List.getElem_cons_zero]
    refine wpAnyH_take (i := 39) (oi := _) (v := ?_) rfl (by kernel_rfl) (by kernel_rfl) (by kernel_rfl) (fun _ _ _ h => h) (Or.inl ⟨by rfl, ?_⟩) (by assumption) ?_
    rotate_left
    · intro w hSw
      try dsimp only at hSw
      go_simp
      all_goals with_reducible rfl
    try simp only [Act.put, List.setIfInBounds_toArray, List.set_cons_zero, List.set_cons_succ, List.getElem_toArray, List.getElem_cons_succ, List.getElem_cons_zero]
    refine wpAnyH_take (i := 41) (oi := _) (v := ?_) rfl (by kernel_rfl) (by kernel_rfl) (by kernel_rfl) (fun _ _ _ h => h) (Or.inl ⟨by rfl, ?_⟩) (by assumption) ?_
    rotate_left
    · intro w hSw
      try dsimp only at hSw
      go_simp
      all_goals with_reducible rfl
    try simp only [Act.put, List.setIfInBounds_toArray, List.set_cons_zero, List.set_cons_succ, List.getElem_toArray, List.getElem_cons_succ, List.getElem_cons_zero]
    refine wpAnyH_ready (rs := [40]) (by kernel_rfl) (by simp) ?_
    refine AllReadyH.cons (o := _) rfl (fun K hK => ?_) AllReadyH.nil
    go_simp
    refine Calls.mono (near_impl P J pk jk p ys _ ix) ?_
    rintro e v5 ⟨rfl, hb⟩
    have o4 := obj_below o4 hb (obj_lt o4)
    have o7 := obj_below o7 hb (obj_lt o7)
    have o9 := obj_below o9 hb (obj_lt o9)
    have o11 := obj_below o11 hb (obj_lt o11)
    have o13 := obj_below o13 hb (obj_lt o13)
    have o16 := obj_below o16 hb (obj_lt o16)
    have o18 := obj_below o18 hb (obj_lt o18)
    have id := id.next hb
    have ix := ix.next hb
    have inna := inna.next hb
    have innb := innb.next hb
    have innr := innr.next hb
    have inns := inns.next hb
    have iq := iq.next hb
    have inne := inne.next hb
    have innf := innf.next hb
    have hbd := hbd.trans (hb.mono hbd.size)
    have hS5 : v5.cell? ⟨x1.heap.size, 0, none⟩ = some (Value.slice P p.length pk) ∧ v5.cell? ⟨x1.heap.size, 1, none⟩ = some (Value.slice J ys.length jk) ∧ v5.cell? ⟨x4.heap.size, 0, none⟩ = some (Value.slice aA (pnG1 l).length aa) ∧ v5.cell? ⟨x4.heap.size, 1, none⟩ = some (Value.slice aB (pnG2 l).length ab) ∧ v5.cell? ⟨x5.heap.size, 0, none⟩ = some (Value.slice bA (pnG1 l).length ba) ∧ v5.cell? ⟨x5.heap.size, 1, none⟩ = some (Value.slice bB (pnG2 l).length bb) ∧ v5.cell? ⟨x6.heap.size, 0, none⟩ = some (Value.slice rA (rnG1 p ys).length ra) ∧ v5.cell? ⟨x6.heap.size, 1, none⟩ = some (Value.slice rB (rnG2 p ys).length rb) ∧ v5.cell? ⟨x7.heap.size, 0, none⟩ = some (Value.slice sA (rnG1 p ys).length sa) ∧ v5.cell? ⟨x7.heap.size, 1, none⟩ = some (Value.slice sB (rnG2 p ys).length sb) ∧ v5.cell? ⟨x9.heap.size, 0, none⟩ = some (Value.slice eA (conG1 q).length ea) ∧ v5.cell? ⟨x9.heap.size, 1, none⟩ = some (Value.slice eB (conG2 q).length eb) ∧ v5.cell? ⟨x10.heap.size, 0, none⟩ = some (Value.slice fA (conG1 q).length fa) ∧ v5.cell? ⟨x10.heap.size, 1, none⟩ = some (Value.slice fB (conG2 q).length fb) := ⟨(obj_cell o4).trans rfl, (obj_cell o4).trans rfl, (obj_cell o7).trans rfl, (obj_cell o7).trans rfl, (obj_cell o9).trans rfl, (obj_cell o9).trans rfl, (obj_cell o11).trans rfl, (obj_cell o11).trans rfl, (obj_cell o13).trans rfl, (obj_cell o13).trans rfl, (obj_cell o16).trans rfl, (obj_cell o16).trans rfl, (obj_cell o18).trans rfl, (obj_cell o18).trans rfl⟩
    clear hb
    go_wp2_with fail
    refine hK.out _ _ (hS5) (fun hHeld => ?_)
    clear hK K
    try simp only [Act.put, List.setIfInBounds_toArray, List.set_cons_zero, List.set_cons_succ, List.getElem_toArray, List.getElem_cons_succ, List.getElem_cons_zero]
    refine wpAnyH_ready (rs := [42]) (by kernel_rfl) (by simp) ?_
    refine AllReadyH.cons (o := _) rfl (fun K hK => ?_) AllReadyH.nil
    go_simp
    refine Calls.mono (near_spec P J pk jk p ys _ ix) ?_
    rintro e v6 ⟨rfl, hb⟩
    have o4 := obj_below o4 hb (obj_lt o4)
    have o7 := obj_below o7 hb (obj_lt o7)
    have o9 := obj_below o9 hb (obj_lt o9)
    have o11 := obj_below o11 hb (obj_lt o11)
    have o13 := obj_below o13 hb (obj_lt o13)
    have o16 := obj_below o16 hb (obj_lt o16)
    have o18 := obj_below o18 hb (obj_lt o18)
    have id := id.next hb
    have ix := ix.next hb
    have inna := inna.next hb
    have innb := innb.next hb
    have innr := innr.next hb
    have inns := inns.next hb
    have iq := iq.next hb
    have inne := inne.next hb
    have innf := innf.next hb
    have hbd := hbd.trans (hb.mono hbd.size)
    have hS6 : v6.cell? ⟨x1.heap.size, 0, none⟩ = some (Value.slice P p.length pk) ∧ v6.cell? ⟨x1.heap.size, 1, none⟩ = some (Value.slice J ys.length jk) ∧ v6.cell? ⟨x4.heap.size, 0, none⟩ = some (Value.slice aA (pnG1 l).length aa) ∧ v6.cell? ⟨x4.heap.size, 1, none⟩ = some (Value.slice aB (pnG2 l).length ab) ∧ v6.cell? ⟨x5.heap.size, 0, none⟩ = some (Value.slice bA (pnG1 l).length ba) ∧ v6.cell? ⟨x5.heap.size, 1, none⟩ = some (Value.slice bB (pnG2 l).length bb) ∧ v6.cell? ⟨x6.heap.size, 0, none⟩ = some (Value.slice rA (rnG1 p ys).length ra) ∧ v6.cell? ⟨x6.heap.size, 1, none⟩ = some (Value.slice rB (rnG2 p ys).length rb) ∧ v6.cell? ⟨x7.heap.size, 0, none⟩ = some (Value.slice sA (rnG1 p ys).length sa) ∧ v6.cell? ⟨x7.heap.size, 1, none⟩ = some (Value.slice sB (rnG2 p ys).length sb) ∧ v6.cell? ⟨x9.heap.size, 0, none⟩ = some (Value.slice eA (conG1 q).length ea) ∧ v6.cell? ⟨x9.heap.size, 1, none⟩ = some (Value.slice eB (conG2 q).length eb) ∧ v6.cell? ⟨x10.heap.size, 0, none⟩ = some (Value.slice fA (conG1 q).length fa) ∧ v6.cell? ⟨x10.heap.size, 1, none⟩ = some (Value.slice fB (conG2 q).length fb) := ⟨(obj_cell o4).trans rfl, (obj_cell o4).trans rfl, (obj_cell o7).trans rfl, (obj_cell o7).trans rfl, (obj_cell o9).trans rfl, (obj_cell o9).trans rfl, (obj_cell o11).trans rfl, (obj_cell o11).trans rfl, (obj_cell o13).trans rfl, (obj_cell o13).trans rfl, (obj_cell o16).trans rfl, (obj_cell o16).trans rfl, (obj_cell o18).trans rfl, (obj_cell o18).trans rfl⟩
    clear hb
    go_wp2_with fail
    refine hK.out _ _ (hS6) (fun hHeld => ?_)
    clear hK K
    try simp only [Act.put, List.setIfInBounds_toArray, List.set_cons_zero, List.set_cons_succ, List.getElem_toArray, List.getElem_cons_succ, List.getElem_cons_zero]
    refine wpAnyH_take (i := 43) (oi := _) (v := ?_) rfl (by kernel_rfl) (by kernel_rfl) (by kernel_rfl) (fun _ _ _ h => h) (Or.inl ⟨by rfl, ?_⟩) (by assumption) ?_
    rotate_left
    · intro w hSw
      try dsimp only at hSw
      go_simp
      all_goals with_reducible rfl
    try simp only [Act.put, List.setIfInBounds_toArray, List.set_cons_zero, List.set_cons_succ, List.getElem_toArray, List.getElem_cons_succ, List.getElem_cons_zero]
    refine wpAnyH_take (i := 44) (oi := _) (v := ?_) rfl (by kernel_rfl) (by kernel_rfl) (by kernel_rfl) (fun _ _ _ h => h) (Or.inl ⟨by rfl, ?_⟩) (by assumption) ?_
    rotate_left
    · intro w hSw
      try dsimp only at hSw
      go_simp
      all_goals with_reducible rfl
    try simp only [Act.put, List.setIfInBounds_toArray, List.set_cons_zero, List.set_cons_succ, List.getElem_toArray, List.getElem_cons_succ, List.getElem_cons_zero]
    refine wpAnyH_done (by kernel_rfl) ?_ _
    go_wp2_with fail
    go_meet
    case rel => exact ⟨rfl, rfl, hbd⟩
  obtain ⟨rfl, rfl, hbz⟩ := hcut
  obtain ⟨y1, rfl⟩ : ∃ w', w' = wc := ⟨_, rfl⟩
  replace o4 := obj_below o4 hbz (obj_lt o4)
  replace o7 := obj_below o7 hbz (obj_lt o7)
  replace o9 := obj_below o9 hbz (obj_lt o9)
  replace o11 := obj_below o11 hbz (obj_lt o11)
  replace o13 := obj_below o13 hbz (obj_lt o13)
  replace o16 := obj_below o16 hbz (obj_lt o16)
  replace o18 := obj_below o18 hbz (obj_lt o18)
  replace id := id.next hbz
  replace ix := ix.next hbz
  replace inna := inna.next hbz
  replace innb := innb.next hbz
  replace innr := innr.next hbz
  replace inns := inns.next hbz
  replace iq := iq.next hbz
  replace inne := inne.next hbz
  replace innf := innf.next hbz
  replace HB := HB.trans (hbz.mono HB.size)
  clear hbz c0 c1 c2 c3
  obtain ⟨l2, hl2e⟩ : ∃ l2, l2 = (ntext p ys).data.toList := ⟨_, rfl⟩
  have hl2 : ntext p ys = Go.Proofs.YtfcgohhmpgffjaaGreatDoor.bs l2 := by rw [hl2e]; unfold Go.Proofs.YtfcgohhmpgffjaaGreatDoor.bs; simp
  have hl2n : l2.length ≤ 100 := by
    rw [hl2e]
    unfold ntext
    split
    · have h1 := joinT_size (textD p) ys (textD p).length
      have h2 := textD_len p
      simp only [Go.Proofs.YtfcgohhmpgffjaaGreatDoor.bs]
      simp
      omega
    · simp [Go.Proofs.YtfcgohhmpgffjaaGreatDoor.bs]
  have hTI := Lib.hid (fun w h => nearText_impl P J pk jk p ys w h)
  have hTS := Lib.hid (fun w h => nearText_spec P J pk jk p ys w h)
  rw [hl2] at hTI hTS
  have hGl3 := pnG_le l2
  have HL2 := Lib.hid hl2e
  clear hl2 hl2e
  have f0o4 : y1.cell? ⟨x1.heap.size, 0, none⟩ = some (Value.slice P p.length pk) := (obj_cell o4).trans rfl
  have f1o4 : y1.cell? ⟨x1.heap.size, 1, none⟩ = some (Value.slice J ys.length jk) := (obj_cell o4).trans rfl
  have HC := Lib.hid (hTI.out y1 ix)
  go_wp2_with fail
  (with_reducible refine HC.out.mono ?_)
  rintro e x11 ⟨rfl, hb⟩
  clear HC
  replace o4 := obj_below o4 hb (obj_lt o4)
  replace o7 := obj_below o7 hb (obj_lt o7)
  replace o9 := obj_below o9 hb (obj_lt o9)
  replace o11 := obj_below o11 hb (obj_lt o11)
  replace o13 := obj_below o13 hb (obj_lt o13)
  replace o16 := obj_below o16 hb (obj_lt o16)
  replace o18 := obj_below o18 hb (obj_lt o18)
  replace id := id.next hb
  replace ix := ix.next hb
  replace inna := inna.next hb
  replace innb := innb.next hb
  replace innr := innr.next hb
  replace inns := inns.next hb
  replace iq := iq.next hb
  replace inne := inne.next hb
  replace innf := innf.next hb
  replace HB := HB.trans (hb.mono HB.size)
  clear hb
  clear f0o4 f1o4
  have HC := Lib.hid (parseNear_impl l2 mx x11 (by omega) ((HB.cell (p := ⟨0, 0, none⟩) hGl).trans HMX.out))
  go_wp2_with fail
  (with_reducible refine HC.out.mono ?_)
  rintro e x12 ⟨yA, yB, ya, yb, rfl, hO, hb⟩
  clear HC
  replace o4 := obj_below o4 hb (obj_lt o4)
  replace o7 := obj_below o7 hb (obj_lt o7)
  replace o9 := obj_below o9 hb (obj_lt o9)
  replace o11 := obj_below o11 hb (obj_lt o11)
  replace o13 := obj_below o13 hb (obj_lt o13)
  replace o16 := obj_below o16 hb (obj_lt o16)
  replace o18 := obj_below o18 hb (obj_lt o18)
  replace id := id.next hb
  replace ix := ix.next hb
  replace inna := inna.next hb
  replace innb := innb.next hb
  replace innr := innr.next hb
  replace inns := inns.next hb
  replace iq := iq.next hb
  replace inne := inne.next hb
  replace innf := innf.next hb
  replace HB := HB.trans (hb.mono HB.size)
  have rr := hO.read
  have inny : InN x12 yA ya (pnG1 l2) yB yb (pnG2 l2) := ⟨⟨by have := hGl3; omega, rr.cap ⟨yA, ya, pnG1 l2⟩ (by simp), rr.rd ⟨yA, ya, pnG1 l2⟩ (by simp)⟩, ⟨by have := hGl3; omega, rr.cap ⟨yB, yb, pnG2 l2⟩ (by simp), rr.rd ⟨yB, yb, pnG2 l2⟩ (by simp)⟩⟩
  clear hO rr hb
  have hbA := (Below.refl x12.heap.size x12).alloc (Nat.le_refl _) (Obj.cells #[Value.slice yA (pnG1 l2).length ya, Value.slice yB (pnG2 l2).length yb] 26)
  replace o4 := obj_alloc o4 (Obj.cells #[Value.slice yA (pnG1 l2).length ya, Value.slice yB (pnG2 l2).length yb] 26)
  replace o7 := obj_alloc o7 (Obj.cells #[Value.slice yA (pnG1 l2).length ya, Value.slice yB (pnG2 l2).length yb] 26)
  replace o9 := obj_alloc o9 (Obj.cells #[Value.slice yA (pnG1 l2).length ya, Value.slice yB (pnG2 l2).length yb] 26)
  replace o11 := obj_alloc o11 (Obj.cells #[Value.slice yA (pnG1 l2).length ya, Value.slice yB (pnG2 l2).length yb] 26)
  replace o13 := obj_alloc o13 (Obj.cells #[Value.slice yA (pnG1 l2).length ya, Value.slice yB (pnG2 l2).length yb] 26)
  replace o16 := obj_alloc o16 (Obj.cells #[Value.slice yA (pnG1 l2).length ya, Value.slice yB (pnG2 l2).length yb] 26)
  replace o18 := obj_alloc o18 (Obj.cells #[Value.slice yA (pnG1 l2).length ya, Value.slice yB (pnG2 l2).length yb] 26)
  have o21 := obj_new x12 (Obj.cells #[Value.slice yA (pnG1 l2).length ya, Value.slice yB (pnG2 l2).length yb] 26)
  replace id := id.next hbA
  replace ix := ix.next hbA
  replace inna := inna.next hbA
  replace innb := innb.next hbA
  replace innr := innr.next hbA
  replace inns := inns.next hbA
  replace iq := iq.next hbA
  replace inne := inne.next hbA
  replace innf := innf.next hbA
  replace inny := inny.next hbA
  replace HB := HB.trans (hbA.mono HB.size)
  clear hbA
  obtain ⟨nb, hnb⟩ : ∃ b, nearB p ys = b := ⟨_, rfl⟩
  have HNB := Lib.hid hnb
  have hok : pnOk l2 = nb := by
    rw [HL2.out, ← HNB.out]
    rcases h : nearB p ys with _ | _
    · exact near_not h
    · exact (near_back h).1
  rw [hok]
  rcases nb with _ | _
  · have hlt : cnG d p ys < 0 := by unfold cnG; rw [HNB.out]; simp
    have f0o4 : (x12.alloc (Obj.cells #[Value.slice yA (pnG1 l2).length ya, Value.slice yB (pnG2 l2).length yb] 26)).cell? ⟨x1.heap.size, 0, none⟩ = some (Value.slice P p.length pk) := (obj_cell o4).trans rfl
    have f1o4 : (x12.alloc (Obj.cells #[Value.slice yA (pnG1 l2).length ya, Value.slice yB (pnG2 l2).length yb] 26)).cell? ⟨x1.heap.size, 1, none⟩ = some (Value.slice J ys.length jk) := (obj_cell o4).trans rfl
    have f0o21 : (x12.alloc (Obj.cells #[Value.slice yA (pnG1 l2).length ya, Value.slice yB (pnG2 l2).length yb] 26)).cell? ⟨x12.heap.size, 0, none⟩ = some (Value.slice yA (pnG1 l2).length ya) := (obj_cell o21).trans rfl
    have f1o21 : (x12.alloc (Obj.cells #[Value.slice yA (pnG1 l2).length ya, Value.slice yB (pnG2 l2).length yb] 26)).cell? ⟨x12.heap.size, 1, none⟩ = some (Value.slice yB (pnG2 l2).length yb) := (obj_cell o21).trans rfl
    have HC := Lib.hid (hTS.out (x12.alloc (Obj.cells #[Value.slice yA (pnG1 l2).length ya, Value.slice yB (pnG2 l2).length yb] 26)) ix)
    go_wp2_with fail
    (with_reducible refine HC.out.mono ?_)
    rintro e x13 ⟨rfl, hb⟩
    clear HC
    replace o4 := obj_below o4 hb (obj_lt o4)
    replace o7 := obj_below o7 hb (obj_lt o7)
    replace o9 := obj_below o9 hb (obj_lt o9)
    replace o11 := obj_below o11 hb (obj_lt o11)
    replace o13 := obj_below o13 hb (obj_lt o13)
    replace o16 := obj_below o16 hb (obj_lt o16)
    replace o18 := obj_below o18 hb (obj_lt o18)
    replace o21 := obj_below o21 hb (obj_lt o21)
    replace id := id.next hb
    replace ix := ix.next hb
    replace inna := inna.next hb
    replace innb := innb.next hb
    replace innr := innr.next hb
    replace inns := inns.next hb
    replace iq := iq.next hb
    replace inne := inne.next hb
    replace innf := innf.next hb
    replace inny := inny.next hb
    replace HB := HB.trans (hb.mono HB.size)
    clear hb
    clear f0o4 f1o4 f0o21 f1o21
    have f0o4 : x13.cell? ⟨x1.heap.size, 0, none⟩ = some (Value.slice P p.length pk) := (obj_cell o4).trans rfl
    have f1o4 : x13.cell? ⟨x1.heap.size, 1, none⟩ = some (Value.slice J ys.length jk) := (obj_cell o4).trans rfl
    have f0o21 : x13.cell? ⟨x12.heap.size, 0, none⟩ = some (Value.slice yA (pnG1 l2).length ya) := (obj_cell o21).trans rfl
    have f1o21 : x13.cell? ⟨x12.heap.size, 1, none⟩ = some (Value.slice yB (pnG2 l2).length yb) := (obj_cell o21).trans rfl
    have HC := Lib.hid (near_sq P J pk jk p ys x13 ix HNB.out)
    go_wp2_with fail
    (with_reducible refine HC.out.mono ?_)
    rintro e x14 ⟨rfl, hb⟩
    clear HC
    replace o4 := obj_below o4 hb (obj_lt o4)
    replace o7 := obj_below o7 hb (obj_lt o7)
    replace o9 := obj_below o9 hb (obj_lt o9)
    replace o11 := obj_below o11 hb (obj_lt o11)
    replace o13 := obj_below o13 hb (obj_lt o13)
    replace o16 := obj_below o16 hb (obj_lt o16)
    replace o18 := obj_below o18 hb (obj_lt o18)
    replace o21 := obj_below o21 hb (obj_lt o21)
    replace id := id.next hb
    replace ix := ix.next hb
    replace inna := inna.next hb
    replace innb := innb.next hb
    replace innr := innr.next hb
    replace inns := inns.next hb
    replace iq := iq.next hb
    replace inne := inne.next hb
    replace innf := innf.next hb
    replace inny := inny.next hb
    replace HB := HB.trans (hb.mono HB.size)
    clear hb
    clear f0o4 f1o4 f0o21 f1o21
    go_wp2_with fail
    go_ret
    exact ⟨rfl, HB⟩
  have HYB := Lib.hid (show pnG1 l2 = p ∧ pnG2 l2 = ys by rw [HL2.out]; exact (near_back HNB.out).2)
  have f0o4 : (x12.alloc (Obj.cells #[Value.slice yA (pnG1 l2).length ya, Value.slice yB (pnG2 l2).length yb] 26)).cell? ⟨x1.heap.size, 0, none⟩ = some (Value.slice P p.length pk) := (obj_cell o4).trans rfl
  have f1o4 : (x12.alloc (Obj.cells #[Value.slice yA (pnG1 l2).length ya, Value.slice yB (pnG2 l2).length yb] 26)).cell? ⟨x1.heap.size, 1, none⟩ = some (Value.slice J ys.length jk) := (obj_cell o4).trans rfl
  have f0o21 : (x12.alloc (Obj.cells #[Value.slice yA (pnG1 l2).length ya, Value.slice yB (pnG2 l2).length yb] 26)).cell? ⟨x12.heap.size, 0, none⟩ = some (Value.slice yA (pnG1 l2).length ya) := (obj_cell o21).trans rfl
  have f1o21 : (x12.alloc (Obj.cells #[Value.slice yA (pnG1 l2).length ya, Value.slice yB (pnG2 l2).length yb] 26)).cell? ⟨x12.heap.size, 1, none⟩ = some (Value.slice yB (pnG2 l2).length yb) := (obj_cell o21).trans rfl
  have HC := Lib.hid (hTS.out (x12.alloc (Obj.cells #[Value.slice yA (pnG1 l2).length ya, Value.slice yB (pnG2 l2).length yb] 26)) ix)
  go_wp2_with fail
  (with_reducible refine HC.out.mono ?_)
  rintro e x13 ⟨rfl, hb⟩
  clear HC
  replace o4 := obj_below o4 hb (obj_lt o4)
  replace o7 := obj_below o7 hb (obj_lt o7)
  replace o9 := obj_below o9 hb (obj_lt o9)
  replace o11 := obj_below o11 hb (obj_lt o11)
  replace o13 := obj_below o13 hb (obj_lt o13)
  replace o16 := obj_below o16 hb (obj_lt o16)
  replace o18 := obj_below o18 hb (obj_lt o18)
  replace o21 := obj_below o21 hb (obj_lt o21)
  replace id := id.next hb
  replace ix := ix.next hb
  replace inna := inna.next hb
  replace innb := innb.next hb
  replace innr := innr.next hb
  replace inns := inns.next hb
  replace iq := iq.next hb
  replace inne := inne.next hb
  replace innf := innf.next hb
  replace inny := inny.next hb
  replace HB := HB.trans (hb.mono HB.size)
  clear hb
  clear f0o4 f1o4 f0o21 f1o21
  have f0o4 : x13.cell? ⟨x1.heap.size, 0, none⟩ = some (Value.slice P p.length pk) := (obj_cell o4).trans rfl
  have f1o4 : x13.cell? ⟨x1.heap.size, 1, none⟩ = some (Value.slice J ys.length jk) := (obj_cell o4).trans rfl
  have f0o21 : x13.cell? ⟨x12.heap.size, 0, none⟩ = some (Value.slice yA (pnG1 l2).length ya) := (obj_cell o21).trans rfl
  have f1o21 : x13.cell? ⟨x12.heap.size, 1, none⟩ = some (Value.slice yB (pnG2 l2).length yb) := (obj_cell o21).trans rfl
  have HC := Lib.hid (near_sq P J pk jk p ys x13 ix HNB.out)
  go_wp2_with fail
  (with_reducible refine HC.out.mono ?_)
  rintro e x14 ⟨rfl, hb⟩
  clear HC
  replace o4 := obj_below o4 hb (obj_lt o4)
  replace o7 := obj_below o7 hb (obj_lt o7)
  replace o9 := obj_below o9 hb (obj_lt o9)
  replace o11 := obj_below o11 hb (obj_lt o11)
  replace o13 := obj_below o13 hb (obj_lt o13)
  replace o16 := obj_below o16 hb (obj_lt o16)
  replace o18 := obj_below o18 hb (obj_lt o18)
  replace o21 := obj_below o21 hb (obj_lt o21)
  replace id := id.next hb
  replace ix := ix.next hb
  replace inna := inna.next hb
  replace innb := innb.next hb
  replace innr := innr.next hb
  replace inns := inns.next hb
  replace iq := iq.next hb
  replace inne := inne.next hb
  replace innf := innf.next hb
  replace inny := inny.next hb
  replace HB := HB.trans (hb.mono HB.size)
  clear hb
  clear f0o4 f1o4 f0o21 f1o21
  have f0o4 : x14.cell? ⟨x1.heap.size, 0, none⟩ = some (Value.slice P p.length pk) := (obj_cell o4).trans rfl
  have f1o4 : x14.cell? ⟨x1.heap.size, 1, none⟩ = some (Value.slice J ys.length jk) := (obj_cell o4).trans rfl
  have f0o21 : x14.cell? ⟨x12.heap.size, 0, none⟩ = some (Value.slice yA (pnG1 l2).length ya) := (obj_cell o21).trans rfl
  have f1o21 : x14.cell? ⟨x12.heap.size, 1, none⟩ = some (Value.slice yB (pnG2 l2).length yb) := (obj_cell o21).trans rfl
  have HC := Lib.hid (sameNear_eq yA yB P J ya yb pk jk _ _ _ _ x14 inny ix HYB.out.1 HYB.out.2)
  go_wp2_with fail
  (with_reducible refine HC.out.mono ?_)
  rintro e x15 ⟨rfl, hb⟩
  clear HC
  replace o4 := obj_below o4 hb (obj_lt o4)
  replace o7 := obj_below o7 hb (obj_lt o7)
  replace o9 := obj_below o9 hb (obj_lt o9)
  replace o11 := obj_below o11 hb (obj_lt o11)
  replace o13 := obj_below o13 hb (obj_lt o13)
  replace o16 := obj_below o16 hb (obj_lt o16)
  replace o18 := obj_below o18 hb (obj_lt o18)
  replace o21 := obj_below o21 hb (obj_lt o21)
  replace id := id.next hb
  replace ix := ix.next hb
  replace inna := inna.next hb
  replace innb := innb.next hb
  replace innr := innr.next hb
  replace inns := inns.next hb
  replace iq := iq.next hb
  replace inne := inne.next hb
  replace innf := innf.next hb
  replace inny := inny.next hb
  replace HB := HB.trans (hb.mono HB.size)
  clear hb
  clear f0o4 f1o4 f0o21 f1o21
  clear hTI hTS HL2 HYB hok
  clear inny
  by_cases hneg : cnG d p ys < 0
  · go_wp2_with fail
    go_ret
    exact ⟨rfl, HB⟩
  have hd : permB d = true := by
    apply Classical.byContradiction
    intro h
    rw [cnG, if_neg (fun h' => h h'.1)] at hneg
    exact hneg (by omega)
  have HPD := Lib.hid hd
  clear hd
  go_upto_region 21 with (fail)
  go_cut [17, 155] from 141 to 155 (fun _ s wz => s = .bool false ∧ Below x15.heap.size x15 wz)
  case first =>
    have f0o16 : x15.cell? ⟨x9.heap.size, 0, none⟩ = some (Value.slice eA (conG1 q).length ea) := (obj_cell o16).trans rfl
    have f1o16 : x15.cell? ⟨x9.heap.size, 1, none⟩ = some (Value.slice eB (conG2 q).length eb) := (obj_cell o16).trans rfl
    have HIQ := Lib.hid iq
    rcases hpq : permB q with _ | _
    · go_wp2_with fail
      go_meet
      case rel => exact ⟨rfl, Below.refl _ _⟩
    · rcases Nat.eq_zero_or_pos q.length with h0 | h0
      · have g1 : decide ((q.length : Int) > 0) = false := decide_eq_false (by omega)
        have g2 : decide (0 < (q.length : Int)) = false := decide_eq_false (by omega)
        go_wp2_with fail
        go_meet
        case rel => exact ⟨rfl, Below.refl _ _⟩
      · have g1 : decide ((q.length : Int) > 0) = true := decide_eq_true (by omega)
        have g2 : decide (0 < (q.length : Int)) = true := decide_eq_true (by omega)
        obtain ⟨R, hR⟩ : ∃ R, runsG d q = R := ⟨_, rfl⟩
        have HC := Lib.hid (countNear_nq (Q := R) D dk d eA eB ea eb _ _ x15 id inne (by rw [← hR]; exact con_runs HPD.out hpq h0))
        have HD := Lib.hid (fun w h h' => runs_spec D dk d Q qk q w h h')
        rw [hR] at HD
        have c4 : (R != R) = false := by simp
        clear hR
        go_wp2_with fail
        (with_reducible refine HC.out.mono ?_)
        rintro e z1 ⟨rfl, hb⟩
        have HE := Lib.hid (HD.out z1 (id.next hb) (iq.next hb))
        go_wp2_with fail
        (with_reducible refine HE.out.mono ?_)
        rintro e z2 ⟨rfl, hb2⟩
        go_wp2_with fail
        go_meet
        case rel => exact ⟨rfl, hb.trans (hb2.mono hb.size)⟩
  obtain ⟨rfl, hbz⟩ := hcut
  obtain ⟨y3, rfl⟩ : ∃ w', w' = wc := ⟨_, rfl⟩
  replace o4 := obj_below o4 hbz (obj_lt o4)
  replace o7 := obj_below o7 hbz (obj_lt o7)
  replace o9 := obj_below o9 hbz (obj_lt o9)
  replace o11 := obj_below o11 hbz (obj_lt o11)
  replace o13 := obj_below o13 hbz (obj_lt o13)
  replace o16 := obj_below o16 hbz (obj_lt o16)
  replace o18 := obj_below o18 hbz (obj_lt o18)
  replace o21 := obj_below o21 hbz (obj_lt o21)
  replace id := id.next hbz
  replace ix := ix.next hbz
  replace inna := inna.next hbz
  replace innb := innb.next hbz
  replace innr := innr.next hbz
  replace inns := inns.next hbz
  replace iq := iq.next hbz
  replace inne := inne.next hbz
  replace innf := innf.next hbz
  replace HB := HB.trans (hbz.mono HB.size)
  clear hbz
  clear iq inne
  clear inna
  clear innb
  clear inns
  clear innf
  have f0o4 : y3.cell? ⟨x1.heap.size, 0, none⟩ = some (Value.slice P p.length pk) := (obj_cell o4).trans rfl
  have f1o4 : y3.cell? ⟨x1.heap.size, 1, none⟩ = some (Value.slice J ys.length jk) := (obj_cell o4).trans rfl
  have f2o4 := f0o4
  have hbA := (Below.refl y3.heap.size y3).alloc (Nat.le_refl _) (Obj.cells #[Value.slice P p.length pk, Value.slice none 0 0] 26)
  replace o4 := obj_alloc o4 (Obj.cells #[Value.slice P p.length pk, Value.slice none 0 0] 26)
  replace o7 := obj_alloc o7 (Obj.cells #[Value.slice P p.length pk, Value.slice none 0 0] 26)
  replace o9 := obj_alloc o9 (Obj.cells #[Value.slice P p.length pk, Value.slice none 0 0] 26)
  replace o11 := obj_alloc o11 (Obj.cells #[Value.slice P p.length pk, Value.slice none 0 0] 26)
  replace o13 := obj_alloc o13 (Obj.cells #[Value.slice P p.length pk, Value.slice none 0 0] 26)
  replace o16 := obj_alloc o16 (Obj.cells #[Value.slice P p.length pk, Value.slice none 0 0] 26)
  replace o18 := obj_alloc o18 (Obj.cells #[Value.slice P p.length pk, Value.slice none 0 0] 26)
  replace o21 := obj_alloc o21 (Obj.cells #[Value.slice P p.length pk, Value.slice none 0 0] 26)
  have o23 := obj_new y3 (Obj.cells #[Value.slice P p.length pk, Value.slice none 0 0] 26)
  replace id := id.next hbA
  replace ix := ix.next hbA
  replace innr := innr.next hbA
  replace HB := HB.trans (hbA.mono HB.size)
  clear hbA
  go_upto_region 24 with (fail)
  clear f0o4 f1o4 f2o4
  clear o7
  clear o9
  clear o13
  clear o16
  clear o18
  clear o21
  generalize hy4 : (y3.alloc (Obj.cells #[Value.slice P p.length pk, Value.slice none 0 0] 26)) = y4 at o4 o11 o23 id ix innr HB ⊢
  clear hy4
  have hpp := (near_parts HNB.out).1
  obtain ⟨C5, hC5⟩ : ∃ Q, cpG d p = Q := ⟨_, rfl⟩
  obtain ⟨C6, hC6⟩ : ∃ Q, cnG d p ys = Q := ⟨_, rfl⟩
  have HPL := Lib.hid (show cnG d p [] = C5 by rw [← hC5]; exact near_plain HPD.out hpp)
  have hle : C6 ≤ C5 := by rw [← hC5, ← hC6]; exact near_fewer HPD.out HNB.out
  have HCP := Lib.hid (fun w h h' => countPattern_spec D P dk pk d p w h h')
  rw [hC5] at HCP
  have HRV := Lib.hid (fun w h => reversePerm_spec D dk d w h)
  rw [show revG d = d.reverse by rw [revG, if_pos HPD.out]] at HRV
  have HTN := Lib.hid (show cnG d.reverse (rnG1 p ys) (rnG2 p ys) = C6 by rw [← hC6]; exact near_turned HPD.out HNB.out)
  rw [hC6]
  obtain ⟨dv, hdv⟩ : ∃ l, l = d.reverse := ⟨_, rfl⟩
  have hdvl : dv.length ≤ 9 := by rw [hdv, List.length_reverse]; exact hd9
  rw [← hdv] at HRV HTN
  clear hC5 hC6 hpp hneg hdv
  have dle : decide (C6 ≤ C5) = true := decide_eq_true hle
  have c5 : (C5 == C5) = true := by simp
  have c6 : (C6 == C6) = true := by simp
  have hbd := below_dr (Below.refl y4.heap.size y4) (Dr.refl y4).drew
  have o4 := obj_below o4 hbd (obj_lt o4)
  have o11 := obj_below o11 hbd (obj_lt o11)
  have o23 := obj_below o23 hbd (obj_lt o23)
  have id := id.next hbd
  have ix := ix.next hbd
  have innr := innr.next hbd
  have hS0 : y4.drew.cell? ⟨x1.heap.size, 0, none⟩ = some (Value.slice P p.length pk) ∧ y4.drew.cell? ⟨x1.heap.size, 1, none⟩ = some (Value.slice J ys.length jk) ∧ y4.drew.cell? ⟨x6.heap.size, 0, none⟩ = some (Value.slice rA (rnG1 p ys).length ra) ∧ y4.drew.cell? ⟨x6.heap.size, 1, none⟩ = some (Value.slice rB (rnG2 p ys).length rb) ∧ y4.drew.cell? ⟨y3.heap.size, 0, none⟩ = some (Value.slice P p.length pk) ∧ y4.drew.cell? ⟨y3.heap.size, 1, none⟩ = some (Value.slice none 0 0) := ⟨(obj_cell o4).trans rfl, (obj_cell o4).trans rfl, (obj_cell o11).trans rfl, (obj_cell o11).trans rfl, (obj_cell o23).trans rfl, (obj_cell o23).trans rfl⟩
  have inn : InN y4.drew P pk p none 0 [] := ⟨ix.1, ⟨by simp, Nat.le_refl _, Rd.nil_⟩⟩
  go_wp2_with fail
  refine wp_region_held_drew (S := (fun v => v.cell? ⟨x1.heap.size, 0, none⟩ = some (Value.slice P p.length pk) ∧ v.cell? ⟨x1.heap.size, 1, none⟩ = some (Value.slice J ys.length jk) ∧ v.cell? ⟨x6.heap.size, 0, none⟩ = some (Value.slice rA (rnG1 p ys).length ra) ∧ v.cell? ⟨x6.heap.size, 1, none⟩ = some (Value.slice rB (rnG2 p ys).length rb) ∧ v.cell? ⟨y3.heap.size, 0, none⟩ = some (Value.slice P p.length pk) ∧ v.cell? ⟨y3.heap.size, 1, none⟩ = some (Value.slice none 0 0))) (by kernel_rfl) hS0 (fun hHeld => ?_)
  refine wpAnyH_take (i := 0) (oi := _) (v := ?_) rfl (by kernel_rfl) (by kernel_rfl) (by kernel_rfl) (fun _ _ _ h => h) (Or.inl ⟨by rfl, ?_⟩) (by assumption) ?_
  rotate_left
  · intro w hSw
    try dsimp only at hSw
    go_simp
    all_goals with_reducible rfl
  try simp only [Act.put, List.setIfInBounds_toArray, List.set_cons_zero, List.set_cons_succ, List.getElem_toArray, List.getElem_cons_succ, List.getElem_cons_zero]
  refine wpAnyH_take (i := 1) (oi := _) (v := ?_) rfl (by kernel_rfl) (by kernel_rfl) (by kernel_rfl) (fun _ _ _ h => h) (Or.inl ⟨by rfl, ?_⟩) (by assumption) ?_
  rotate_left
  · intro w hSw
    try dsimp only at hSw
    go_simp
    all_goals with_reducible rfl
  try simp only [Act.put, List.setIfInBounds_toArray, List.set_cons_zero, List.set_cons_succ, List.getElem_toArray, List.getElem_cons_succ, List.getElem_cons_zero]
  refine wpAnyH_take (i := 2) (oi := _) (v := ?_) rfl (by kernel_rfl) (by kernel_rfl) (by kernel_rfl) (fun _ _ _ h => h) (Or.inl ⟨by rfl, ?_⟩) (by assumption) ?_
  rotate_left
  · intro w hSw
    try dsimp only at hSw
    go_simp
    all_goals with_reducible rfl
  try simp only [Act.put, List.setIfInBounds_toArray, List.set_cons_zero, List.set_cons_succ, List.getElem_toArray, List.getElem_cons_succ, List.getElem_cons_zero]
  refine wpAnyH_ready (rs := [3]) (by kernel_rfl) (by simp) ?_
  refine AllReadyH.cons (o := _) rfl (fun K hK => ?_) AllReadyH.nil
  go_simp
  refine Calls.mono (countNear_nq (Q := C5) D dk d P none pk 0 p [] _ id inn HPL.out) ?_
  rintro e v41 ⟨rfl, hb⟩
  have o4 := obj_below o4 hb (obj_lt o4)
  have o11 := obj_below o11 hb (obj_lt o11)
  have o23 := obj_below o23 hb (obj_lt o23)
  have id := id.next hb
  have ix := ix.next hb
  have innr := innr.next hb
  have inn := inn.next hb
  have hbd := hbd.trans (hb.mono hbd.size)
  have hS41 : v41.cell? ⟨x1.heap.size, 0, none⟩ = some (Value.slice P p.length pk) ∧ v41.cell? ⟨x1.heap.size, 1, none⟩ = some (Value.slice J ys.length jk) ∧ v41.cell? ⟨x6.heap.size, 0, none⟩ = some (Value.slice rA (rnG1 p ys).length ra) ∧ v41.cell? ⟨x6.heap.size, 1, none⟩ = some (Value.slice rB (rnG2 p ys).length rb) ∧ v41.cell? ⟨y3.heap.size, 0, none⟩ = some (Value.slice P p.length pk) ∧ v41.cell? ⟨y3.heap.size, 1, none⟩ = some (Value.slice none 0 0) := ⟨(obj_cell o4).trans rfl, (obj_cell o4).trans rfl, (obj_cell o11).trans rfl, (obj_cell o11).trans rfl, (obj_cell o23).trans rfl, (obj_cell o23).trans rfl⟩
  clear hb
  go_wp2_with fail
  refine hK.out _ _ (hS41) (fun hHeld => ?_)
  clear hK K
  try simp only [Act.put, List.setIfInBounds_toArray, List.set_cons_zero, List.set_cons_succ, List.getElem_toArray, List.getElem_cons_succ, List.getElem_cons_zero]
  refine wpAnyH_take (i := 4) (oi := _) (v := ?_) rfl (by kernel_rfl) (by kernel_rfl) (by kernel_rfl) (fun _ _ _ h => h) (Or.inl ⟨by rfl, ?_⟩) (by assumption) ?_
  rotate_left
  · intro w hSw
    try dsimp only at hSw
    go_simp
    all_goals with_reducible rfl
  try simp only [Act.put, List.setIfInBounds_toArray, List.set_cons_zero, List.set_cons_succ, List.getElem_toArray, List.getElem_cons_succ, List.getElem_cons_zero]
  refine wpAnyH_take (i := 5) (oi := _) (v := ?_) rfl (by kernel_rfl) (by kernel_rfl) (by kernel_rfl) (fun _ _ _ h => h) (Or.inl ⟨by rfl, ?_⟩) (by assumption) ?_
  rotate_left
  · intro w hSw
    try dsimp only at hSw
    go_simp
    all_goals with_reducible rfl
  try simp only [Act.put, List.setIfInBounds_toArray, List.set_cons_zero, List.set_cons_succ, List.getElem_toArray, List.getElem_cons_succ, List.getElem_cons_zero]
  refine wpAnyH_take (i := 6) (oi := _) (v := ?_) rfl (by kernel_rfl) (by kernel_rfl) (by kernel_rfl) (fun _ _ _ h => h) (Or.inl ⟨by rfl, ?_⟩) (by assumption) ?_
  rotate_left
  · intro w hSw
    try dsimp only at hSw
    go_simp
    all_goals with_reducible rfl
  try simp only [Act.put, List.setIfInBounds_toArray, List.set_cons_zero, List.set_cons_succ, List.getElem_toArray, List.getElem_cons_succ, List.getElem_cons_zero]
  refine wpAnyH_take (i := 7) (oi := _) (v := ?_) rfl (by kernel_rfl) (by kernel_rfl) (by kernel_rfl) (fun _ _ _ h => h) (Or.inl ⟨by rfl, ?_⟩) (by assumption) ?_
  rotate_left
  · intro w hSw
    try dsimp only at hSw
    go_simp
    all_goals with_reducible rfl
  try simp only [Act.put, List.setIfInBounds_toArray, List.set_cons_zero, List.set_cons_succ, List.getElem_toArray, List.getElem_cons_succ, List.getElem_cons_zero]
  refine wpAnyH_take (i := 9) (oi := _) (v := ?_) rfl (by kernel_rfl) (by kernel_rfl) (by kernel_rfl) (fun _ _ _ h => h) (Or.inl ⟨by rfl, ?_⟩) (by assumption) ?_
  rotate_left
  · intro w hSw
    try dsimp only at hSw
    go_simp
    all_goals with_reducible rfl
  try simp only [Act.put, List.setIfInBounds_toArray, List.set_cons_zero, List.set_cons_succ, List.getElem_toArray, List.getElem_cons_succ, List.getElem_cons_zero]
  refine wpAnyH_take (i := 10) (oi := _) (v := ?_) rfl (by kernel_rfl) (by kernel_rfl) (by kernel_rfl) (fun _ _ _ h => h) (Or.inl ⟨by rfl, ?_⟩) (by assumption) ?_
  rotate_left
  · intro w hSw
    try dsimp only at hSw
    go_simp
    all_goals with_reducible rfl
  try simp only [Act.put, List.setIfInBounds_toArray, List.set_cons_zero, List.set_cons_succ, List.getElem_toArray, List.getElem_cons_succ, List.getElem_cons_zero]
  refine wpAnyH_take (i := 11) (oi := _) (v := ?_) rfl (by kernel_rfl) (by kernel_rfl) (by kernel_rfl) (fun _ _ _ h => h) (Or.inl ⟨by rfl, ?_⟩) (by assumption) ?_
  rotate_left
  · intro w hSw
    try dsimp only at hSw
    go_simp
    all_goals with_reducible rfl
  try simp only [Act.put, List.setIfInBounds_toArray, List.set_cons_zero, List.set_cons_succ, List.getElem_toArray, List.getElem_cons_succ, List.getElem_cons_zero]
  refine wpAnyH_ready (rs := [8]) (by kernel_rfl) (by simp) ?_
  refine AllReadyH.cons (o := _) rfl (fun K hK => ?_) AllReadyH.nil
  go_simp
  refine Calls.mono (countNear_nq (Q := C5) D dk d P none pk 0 p [] _ id inn HPL.out) ?_
  rintro e v42 ⟨rfl, hb⟩
  have o4 := obj_below o4 hb (obj_lt o4)
  have o11 := obj_below o11 hb (obj_lt o11)
  have o23 := obj_below o23 hb (obj_lt o23)
  have id := id.next hb
  have ix := ix.next hb
  have innr := innr.next hb
  have inn := inn.next hb
  have hbd := hbd.trans (hb.mono hbd.size)
  have hS42 : v42.cell? ⟨x1.heap.size, 0, none⟩ = some (Value.slice P p.length pk) ∧ v42.cell? ⟨x1.heap.size, 1, none⟩ = some (Value.slice J ys.length jk) ∧ v42.cell? ⟨x6.heap.size, 0, none⟩ = some (Value.slice rA (rnG1 p ys).length ra) ∧ v42.cell? ⟨x6.heap.size, 1, none⟩ = some (Value.slice rB (rnG2 p ys).length rb) ∧ v42.cell? ⟨y3.heap.size, 0, none⟩ = some (Value.slice P p.length pk) ∧ v42.cell? ⟨y3.heap.size, 1, none⟩ = some (Value.slice none 0 0) := ⟨(obj_cell o4).trans rfl, (obj_cell o4).trans rfl, (obj_cell o11).trans rfl, (obj_cell o11).trans rfl, (obj_cell o23).trans rfl, (obj_cell o23).trans rfl⟩
  clear hb
  go_wp2_with fail
  refine hK.out _ _ (hS42) (fun hHeld => ?_)
  clear hK K
  try simp only [Act.put, List.setIfInBounds_toArray, List.set_cons_zero, List.set_cons_succ, List.getElem_toArray, List.getElem_cons_succ, List.getElem_cons_zero]
  refine wpAnyH_ready (rs := [12]) (by kernel_rfl) (by simp) ?_
  refine AllReadyH.cons (o := _) rfl (fun K hK => ?_) AllReadyH.nil
  go_simp
  refine Calls.mono (HCP.out _ id ix.1) ?_
  rintro e v43 ⟨rfl, hb⟩
  have o4 := obj_below o4 hb (obj_lt o4)
  have o11 := obj_below o11 hb (obj_lt o11)
  have o23 := obj_below o23 hb (obj_lt o23)
  have id := id.next hb
  have ix := ix.next hb
  have innr := innr.next hb
  have inn := inn.next hb
  have hbd := hbd.trans (hb.mono hbd.size)
  have hS43 : v43.cell? ⟨x1.heap.size, 0, none⟩ = some (Value.slice P p.length pk) ∧ v43.cell? ⟨x1.heap.size, 1, none⟩ = some (Value.slice J ys.length jk) ∧ v43.cell? ⟨x6.heap.size, 0, none⟩ = some (Value.slice rA (rnG1 p ys).length ra) ∧ v43.cell? ⟨x6.heap.size, 1, none⟩ = some (Value.slice rB (rnG2 p ys).length rb) ∧ v43.cell? ⟨y3.heap.size, 0, none⟩ = some (Value.slice P p.length pk) ∧ v43.cell? ⟨y3.heap.size, 1, none⟩ = some (Value.slice none 0 0) := ⟨(obj_cell o4).trans rfl, (obj_cell o4).trans rfl, (obj_cell o11).trans rfl, (obj_cell o11).trans rfl, (obj_cell o23).trans rfl, (obj_cell o23).trans rfl⟩
  clear hb
  go_wp2_with fail
  refine hK.out _ _ (hS43) (fun hHeld => ?_)
  clear hK K
  try simp only [Act.put, List.setIfInBounds_toArray, List.set_cons_zero, List.set_cons_succ, List.getElem_toArray, List.getElem_cons_succ, List.getElem_cons_zero]
  refine wpAnyH_take (i := 13) (oi := _) (v := ?_) rfl (by kernel_rfl) (by kernel_rfl) (by kernel_rfl) (fun _ _ _ h => h) (Or.inl ⟨by rfl, ?_⟩) (by assumption) ?_
  rotate_left
  · intro w hSw
    try dsimp only at hSw
    go_simp
    all_goals with_reducible rfl
  try simp only [Act.put, List.setIfInBounds_toArray, List.set_cons_zero, List.set_cons_succ, List.getElem_toArray, List.getElem_cons_succ, List.getElem_cons_zero]
  refine wpAnyH_take (i := 14) (oi := _) (v := ?_) rfl (by kernel_rfl) (by kernel_rfl) (by kernel_rfl) (fun _ _ _ h => h) (Or.inl ⟨by rfl, ?_⟩) (by assumption) ?_
  rotate_left
  · intro w hSw
    try dsimp only at hSw
    go_simp
    all_goals with_reducible rfl
  try simp only [Act.put, List.setIfInBounds_toArray, List.set_cons_zero, List.set_cons_succ, List.getElem_toArray, List.getElem_cons_succ, List.getElem_cons_zero]
  refine wpAnyH_take (i := 15) (oi := _) (v := ?_) rfl (by kernel_rfl) (by kernel_rfl) (by kernel_rfl) (fun _ _ _ h => h) (Or.inl ⟨by rfl, ?_⟩) (by assumption) ?_
  rotate_left
  · intro w hSw
    try dsimp only at hSw
    go_simp
    all_goals with_reducible rfl
  try simp only [Act.put, List.setIfInBounds_toArray, List.set_cons_zero, List.set_cons_succ, List.getElem_toArray, List.getElem_cons_succ, List.getElem_cons_zero]
  refine wpAnyH_take (i := 16) (oi := _) (v := ?_) rfl (by kernel_rfl) (by kernel_rfl) (by kernel_rfl) (fun _ _ _ h => h) (Or.inl ⟨by rfl, ?_⟩) (by assumption) ?_
  rotate_left
  · intro w hSw
    try dsimp only at hSw
    go_simp
    all_goals with_reducible rfl
  try simp only [Act.put, List.setIfInBounds_toArray, List.set_cons_zero, List.set_cons_succ, List.getElem_toArray, List.getElem_cons_succ, List.getElem_cons_zero]
  refine wpAnyH_take (i := 18) (oi := _) (v := ?_) rfl (by kernel_rfl) (by kernel_rfl) (by kernel_rfl) (fun _ _ _ h => h) (Or.inl ⟨by rfl, ?_⟩) (by assumption) ?_
  rotate_left
  · intro w hSw
    try dsimp only at hSw
    go_simp
    all_goals with_reducible rfl
  try simp only [Act.put, List.setIfInBounds_toArray, List.set_cons_zero, List.set_cons_succ, List.getElem_toArray, List.getElem_cons_succ, List.getElem_cons_zero]
  refine wpAnyH_take (i := 20) (oi := _) (v := ?_) rfl (by kernel_rfl) (by kernel_rfl) (by kernel_rfl) (fun _ _ _ h => h) (Or.inl ⟨by rfl, ?_⟩) (by assumption) ?_
  rotate_left
  · intro w hSw
    try dsimp only at hSw
    go_simp
    all_goals with_reducible rfl
  try simp only [Act.put, List.setIfInBounds_toArray, List.set_cons_zero, List.set_cons_succ, List.getElem_toArray, List.getElem_cons_succ, List.getElem_cons_zero]
  refine wpAnyH_ready (rs := [17]) (by kernel_rfl) (by simp) ?_
  refine AllReadyH.cons (o := _) rfl (fun K hK => ?_) AllReadyH.nil
  go_simp
  refine Calls.mono (HRV.out _ id) ?_
  rintro e v44 ⟨V, vk, rfl, _, _, ownV, hb⟩
  have iv := In.of_own ownV (by omega)
  have o4 := obj_below o4 hb (obj_lt o4)
  have o11 := obj_below o11 hb (obj_lt o11)
  have o23 := obj_below o23 hb (obj_lt o23)
  have id := id.next hb
  have ix := ix.next hb
  have innr := innr.next hb
  have inn := inn.next hb
  have hbd := hbd.trans (hb.mono hbd.size)
  have hS44 : v44.cell? ⟨x1.heap.size, 0, none⟩ = some (Value.slice P p.length pk) ∧ v44.cell? ⟨x1.heap.size, 1, none⟩ = some (Value.slice J ys.length jk) ∧ v44.cell? ⟨x6.heap.size, 0, none⟩ = some (Value.slice rA (rnG1 p ys).length ra) ∧ v44.cell? ⟨x6.heap.size, 1, none⟩ = some (Value.slice rB (rnG2 p ys).length rb) ∧ v44.cell? ⟨y3.heap.size, 0, none⟩ = some (Value.slice P p.length pk) ∧ v44.cell? ⟨y3.heap.size, 1, none⟩ = some (Value.slice none 0 0) := ⟨(obj_cell o4).trans rfl, (obj_cell o4).trans rfl, (obj_cell o11).trans rfl, (obj_cell o11).trans rfl, (obj_cell o23).trans rfl, (obj_cell o23).trans rfl⟩
  clear hb
  go_wp2_with fail
  refine hK.out _ _ (hS44) (fun hHeld => ?_)
  clear hK K
  try simp only [Act.put, List.setIfInBounds_toArray, List.set_cons_zero, List.set_cons_succ, List.getElem_toArray, List.getElem_cons_succ, List.getElem_cons_zero]
  refine wpAnyH_ready (rs := [19]) (by kernel_rfl) (by simp) ?_
  refine AllReadyH.cons (o := _) rfl (fun K hK => ?_) AllReadyH.nil
  go_simp
  refine Calls.mono (countNear_nq (Q := C6) V vk dv rA rB ra rb _ _ _ iv innr HTN.out) ?_
  rintro e v45 ⟨rfl, hb⟩
  have o4 := obj_below o4 hb (obj_lt o4)
  have o11 := obj_below o11 hb (obj_lt o11)
  have o23 := obj_below o23 hb (obj_lt o23)
  have id := id.next hb
  have ix := ix.next hb
  have innr := innr.next hb
  have inn := inn.next hb
  have iv := iv.next hb
  have hbd := hbd.trans (hb.mono hbd.size)
  have hS45 : v45.cell? ⟨x1.heap.size, 0, none⟩ = some (Value.slice P p.length pk) ∧ v45.cell? ⟨x1.heap.size, 1, none⟩ = some (Value.slice J ys.length jk) ∧ v45.cell? ⟨x6.heap.size, 0, none⟩ = some (Value.slice rA (rnG1 p ys).length ra) ∧ v45.cell? ⟨x6.heap.size, 1, none⟩ = some (Value.slice rB (rnG2 p ys).length rb) ∧ v45.cell? ⟨y3.heap.size, 0, none⟩ = some (Value.slice P p.length pk) ∧ v45.cell? ⟨y3.heap.size, 1, none⟩ = some (Value.slice none 0 0) := ⟨(obj_cell o4).trans rfl, (obj_cell o4).trans rfl, (obj_cell o11).trans rfl, (obj_cell o11).trans rfl, (obj_cell o23).trans rfl, (obj_cell o23).trans rfl⟩
  clear hb
  go_wp2_with fail
  refine hK.out _ _ (hS45) (fun hHeld => ?_)
  clear hK K
  try simp only [Act.put, List.setIfInBounds_toArray, List.set_cons_zero, List.set_cons_succ, List.getElem_toArray, List.getElem_cons_succ, List.getElem_cons_zero]
  refine wpAnyH_take (i := 21) (oi := _) (v := ?_) rfl (by kernel_rfl) (by kernel_rfl) (by kernel_rfl) (fun _ _ _ h => h) (Or.inl ⟨by rfl, ?_⟩) (by assumption) ?_
  rotate_left
  · intro w hSw
    try dsimp only at hSw
    go_simp
    all_goals with_reducible rfl
  try simp only [Act.put, List.setIfInBounds_toArray, List.set_cons_zero, List.set_cons_succ, List.getElem_toArray, List.getElem_cons_succ, List.getElem_cons_zero]
  refine wpAnyH_take (i := 22) (oi := _) (v := ?_) rfl (by kernel_rfl) (by kernel_rfl) (by kernel_rfl) (fun _ _ _ h => h) (Or.inl ⟨by rfl, ?_⟩) (by assumption) ?_
  rotate_left
  · intro w hSw
    try dsimp only at hSw
    go_simp
    all_goals with_reducible rfl
  try simp only [Act.put, List.setIfInBounds_toArray, List.set_cons_zero, List.set_cons_succ, List.getElem_toArray, List.getElem_cons_succ, List.getElem_cons_zero]
  refine wpAnyH_take (i := 23) (oi := _) (v := ?_) rfl (by kernel_rfl) (by kernel_rfl) (by kernel_rfl) (fun _ _ _ h => h) (Or.inl ⟨by rfl, ?_⟩) (by assumption) ?_
  rotate_left
  · intro w hSw
    try dsimp only at hSw
    go_simp
    all_goals with_reducible rfl
  try simp only [Act.put, List.setIfInBounds_toArray, List.set_cons_zero, List.set_cons_succ, List.getElem_toArray, List.getElem_cons_succ, List.getElem_cons_zero]
  refine wpAnyH_done (by kernel_rfl) ?_ _
  go_wp2_with fail
  go_ret
  exact ⟨rfl, HB.trans (hbd.mono HB.size)⟩
end Go.Proofs.YtfcgohhmpgffjaaGreatDoor
