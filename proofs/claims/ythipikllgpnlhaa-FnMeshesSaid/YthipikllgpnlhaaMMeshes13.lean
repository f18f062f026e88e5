/- Several texts in one, each with its own head: WMeshes, Open. No program of ours. -/
import Derived.Deep.RegionHeld3
import Derived.Test.YthipikllgpnlhaaRows
import Derived.ProofKit
import Derived.OpenShut
import Derived.Deep.Matrix
import Derived.Test.YthipikllgpnlhaaMMeshes12
/- The walk of FnMeshes. Written by gen/genwm.py. -/
namespace Go.Proofs.Ythipikllgpnlhaa
set_option maxRecDepth 100000
open Go Go.RowKit

theorem countMesh_iq {Q : Int} (C : Option Addr) (e : Nat) (p : List Int) (A B : Option Addr) (c k : Nat) (xs : List Int) (rs : List Row) (w : World) (hp : In w C e p) (h : InM w A c xs B k rs) (hq : cmG p xs (rs.map Row.xs) = Q) :
    Calls Try.prog 9 #[.slice C p.length e, .agg #[.slice A xs.length c, .slice B rs.length k]] w (Rb w (.int .i64 Q)) := by subst hq; exact countMesh_impl C e p A B c k xs rs w hp h
theorem countNear_sq {Q : Int} (A : Option Addr) (c : Nat) (p : List Int) (C D : Option Addr) (e f : Nat) (xs ys : List Int) (w : World) (hp : In w A c p) (hx : InN w C e xs D f ys) (hq : cnG p xs ys = Q) :
    Calls Try.prog 20 #[.slice A p.length c, .agg #[.slice C xs.length e, .slice D ys.length f]] w (Rb w (.int .i64 Q)) := by subst hq; exact countNear_spec A c p C D e f xs ys w hp hx
theorem mesh_near {d q ys : List Int} (hd : permB d = true) (h : moB q ys = true) : cmG d (moG1 q ys) (moG2 q ys) = cnG d q ys := by
  have h1 := h
  unfold moB at h1
  rw [Bool.and_eq_true, decide_eq_true_eq] at h1
  rw [show moG1 q ys = q by rw [moG1, if_pos h], show moG2 q ys = boxesL q.length ys by rw [moG2, if_pos h], cmG, if_pos ⟨hd, mesh_boxes h1.1 h1.2⟩, cnG, if_pos ⟨hd, h1.1⟩, cntM_near hd h1.1]
theorem mesh_turned {d p : List Int} {X : List (List Int)} (hd : permB d = true) (h : meshB p X = true) : cmG (invL d) (imG1 p X) (imG2 p X) = cmG d p X := by
  rw [show imG1 p X = invL p by rw [imG1, if_pos h], show imG2 p X = imTo X X.length by rw [imG2, if_pos h], cmG, if_pos ⟨perm_inv hd, mesh_inverse h⟩, cmG, if_pos ⟨hd, h⟩, cntM_inverse hd h]
theorem mesh_fewer {d p : List Int} {X : List (List Int)} (hd : permB d = true) (h : meshB p X = true) : cmG d p X ≤ cpG d p := by
  have hp := (mesh_perm h).1
  rw [cmG, if_pos ⟨hd, h⟩, cpG, if_pos ⟨hd, hp⟩]
  have := cntM_le_occ X hd hp
  omega

set_option maxHeartbeats 4000000 in
set_option maxRecDepth 100000 in
theorem walk_FnMeshes (w : World) (A : Option Addr) (c : Nat) (bs : List Int) (hm : bs.length ≤ 9223372036854775807) (hr : Rd (Value.int .u8) w w.heap.size A bs) :
    Calls Try.prog 3 #[.slice A bs.length c] w (Rb w (.bool true)) := by
  obtain ⟨i0, hi, hz0, hz1, hz2⟩ := info_parts infoI
  rcases Nat.lt_or_ge 1048576 bs.length with hbig | hlen
  · have HC := Lib.hid (big_no A c bs w hbig hm)
    go_enter Try.func3, Try.ntmps3
    go_wp2_with fail
    (with_reducible refine HC.out.mono ?_)
    rintro e w1 ⟨rfl, rfl⟩
    go_wp2_with fail
    go_ret
    exact ⟨rfl, Below.refl _ _⟩
  have h0 : InY w A c bs := ⟨hlen, hr⟩
  have HC := Lib.hid (big_ok A c bs w hlen)
  clear hr hm
  go_enter Try.func3, Try.ntmps3
  go_wp2_with fail
  (with_reducible refine HC.out.mono ?_)
  rintro e w0 ⟨rfl, rfl⟩
  clear HC
  have HB := Below.refl w.heap.size w
  have HC := Lib.hid (drawCountMesh A c bs w h0)
  go_wp2_with fail
  (with_reducible refine HC.out.mono ?_)
  rintro e x1 ⟨D, dk, d, P, pk, p, S, sk, rs, rfl, hd9, hp5, hr17, id, im, hb⟩
  clear HC
  replace h0 := h0.next hb
  replace HB := HB.trans (hb.mono HB.size)
  clear hb
  have hbA := (Below.refl x1.heap.size x1).alloc (Nat.le_refl _) (Obj.cells #[Value.slice P p.length pk, Value.slice S rs.length sk] 27)
  have o4 := obj_new x1 (Obj.cells #[Value.slice P p.length pk, Value.slice S rs.length sk] 27)
  replace h0 := h0.next hbA
  replace id := id.next hbA
  replace im := im.next hbA
  replace HB := HB.trans (hbA.mono HB.size)
  clear hbA
  have f0o4 : (x1.alloc (Obj.cells #[Value.slice P p.length pk, Value.slice S rs.length sk] 27)).cell? ⟨x1.heap.size, 0, none⟩ = some (Value.slice P p.length pk) := (obj_cell o4).trans rfl
  have f1o4 : (x1.alloc (Obj.cells #[Value.slice P p.length pk, Value.slice S rs.length sk] 27)).cell? ⟨x1.heap.size, 1, none⟩ = some (Value.slice S rs.length sk) := (obj_cell o4).trans rfl
  have HC := Lib.hid (countMesh_impl D dk d P S pk sk p rs (x1.alloc (Obj.cells #[Value.slice P p.length pk, Value.slice S rs.length sk] 27)) id im)
  go_wp2_with fail
  (with_reducible refine HC.out.mono ?_)
  rintro e x2 ⟨rfl, hb⟩
  clear HC
  replace o4 := obj_below o4 hb (obj_lt o4)
  replace h0 := h0.next hb
  replace id := id.next hb
  replace im := im.next hb
  replace HB := HB.trans (hb.mono HB.size)
  clear hb
  clear f0o4 f1o4
  have HC := Lib.hid (drawMeshOf A c bs x2 h0)
  go_wp2_with fail
  (with_reducible refine HC.out.mono ?_)
  rintro e x3 ⟨Q, qk, q, J, jk, ys, rfl, hq4, hy4, ix, hb⟩
  clear HC
  replace o4 := obj_below o4 hb (obj_lt o4)
  replace h0 := h0.next hb
  replace id := id.next hb
  replace im := im.next hb
  replace HB := HB.trans (hb.mono HB.size)
  clear hb
  have hbA := (Below.refl x3.heap.size x3).alloc (Nat.le_refl _) (Obj.cells #[Value.slice Q q.length qk, Value.slice J ys.length jk] 32)
  replace o4 := obj_alloc o4 (Obj.cells #[Value.slice Q q.length qk, Value.slice J ys.length jk] 32)
  have o6 := obj_new x3 (Obj.cells #[Value.slice Q q.length qk, Value.slice J ys.length jk] 32)
  replace h0 := h0.next hbA
  replace id := id.next hbA
  replace im := im.next hbA
  replace ix := ix.next hbA
  replace HB := HB.trans (hbA.mono HB.size)
  clear hbA
  clear h0
  have f0o6 : (x3.alloc (Obj.cells #[Value.slice Q q.length qk, Value.slice J ys.length jk] 32)).cell? ⟨x3.heap.size, 0, none⟩ = some (Value.slice Q q.length qk) := (obj_cell o6).trans rfl
  have f1o6 : (x3.alloc (Obj.cells #[Value.slice Q q.length qk, Value.slice J ys.length jk] 32)).cell? ⟨x3.heap.size, 1, none⟩ = some (Value.slice J ys.length jk) := (obj_cell o6).trans rfl
  have HC := Lib.hid (meshOf_impl Q J qk jk q ys (x3.alloc (Obj.cells #[Value.slice Q q.length qk, Value.slice J ys.length jk] 32)) ix)
  go_wp2_with fail
  (with_reducible refine HC.out.mono ?_)
  rintro e x4 ⟨aA, aB, aa, ab, ar, rfl, hX, hO, hb⟩
  clear HC
  replace o4 := obj_below o4 hb (obj_lt o4)
  replace o6 := obj_below o6 hb (obj_lt o6)
  replace id := id.next hb
  replace im := im.next hb
  replace ix := ix.next hb
  replace HB := HB.trans (hb.mono HB.size)
  have Ha := Lib.hid hX
  have inna := hO.read.toM (by have := moG_le q ys; omega) (by rw [map_len1 hX, map_size1 hX]; have := moG_le q ys; omega) (Nat.le_refl _)
  clear hX hO
  clear hb
  clear f0o6 f1o6
  have hbA := (Below.refl x4.heap.size x4).alloc (Nat.le_refl _) (Obj.cells #[Value.slice aA (moG1 q ys).length aa, Value.slice aB ar.length ab] 27)
  replace o4 := obj_alloc o4 (Obj.cells #[Value.slice aA (moG1 q ys).length aa, Value.slice aB ar.length ab] 27)
  replace o6 := obj_alloc o6 (Obj.cells #[Value.slice aA (moG1 q ys).length aa, Value.slice aB ar.length ab] 27)
  have o7 := obj_new x4 (Obj.cells #[Value.slice aA (moG1 q ys).length aa, Value.slice aB ar.length ab] 27)
  replace id := id.next hbA
  replace im := im.next hbA
  replace ix := ix.next hbA
  replace inna := inna.next hbA
  replace HB := HB.trans (hbA.mono HB.size)
  clear hbA
  have f0o6 : (x4.alloc (Obj.cells #[Value.slice aA (moG1 q ys).length aa, Value.slice aB ar.length ab] 27)).cell? ⟨x3.heap.size, 0, none⟩ = some (Value.slice Q q.length qk) := (obj_cell o6).trans rfl
  have f1o6 : (x4.alloc (Obj.cells #[Value.slice aA (moG1 q ys).length aa, Value.slice aB ar.length ab] 27)).cell? ⟨x3.heap.size, 1, none⟩ = some (Value.slice J ys.length jk) := (obj_cell o6).trans rfl
  have HC := Lib.hid (meshOf_spec Q J qk jk q ys (x4.alloc (Obj.cells #[Value.slice aA (moG1 q ys).length aa, Value.slice aB ar.length ab] 27)) ix)
  go_wp2_with fail
  (with_reducible refine HC.out.mono ?_)
  rintro e x5 ⟨bA, bB, ba, bb, br, rfl, hX, hO, hb⟩
  clear HC
  replace o4 := obj_below o4 hb (obj_lt o4)
  replace o6 := obj_below o6 hb (obj_lt o6)
  replace o7 := obj_below o7 hb (obj_lt o7)
  replace id := id.next hb
  replace im := im.next hb
  replace ix := ix.next hb
  replace inna := inna.next hb
  replace HB := HB.trans (hb.mono HB.size)
  have Hb := Lib.hid hX
  have innb := hO.read.toM (by have := moG_le q ys; omega) (by rw [map_len1 hX, map_size1 hX]; have := moG_le q ys; omega) (Nat.le_refl _)
  clear hX hO
  clear hb
  clear f0o6 f1o6
  have hbA := (Below.refl x5.heap.size x5).alloc (Nat.le_refl _) (Obj.cells #[Value.slice bA (moG1 q ys).length ba, Value.slice bB br.length bb] 27)
  replace o4 := obj_alloc o4 (Obj.cells #[Value.slice bA (moG1 q ys).length ba, Value.slice bB br.length bb] 27)
  replace o6 := obj_alloc o6 (Obj.cells #[Value.slice bA (moG1 q ys).length ba, Value.slice bB br.length bb] 27)
  replace o7 := obj_alloc o7 (Obj.cells #[Value.slice bA (moG1 q ys).length ba, Value.slice bB br.length bb] 27)
  have o9 := obj_new x5 (Obj.cells #[Value.slice bA (moG1 q ys).length ba, Value.slice bB br.length bb] 27)
  replace id := id.next hbA
  replace im := im.next hbA
  replace ix := ix.next hbA
  replace inna := inna.next hbA
  replace innb := innb.next hbA
  replace HB := HB.trans (hbA.mono HB.size)
  clear hbA
  have f0o4 : (x5.alloc (Obj.cells #[Value.slice bA (moG1 q ys).length ba, Value.slice bB br.length bb] 27)).cell? ⟨x1.heap.size, 0, none⟩ = some (Value.slice P p.length pk) := (obj_cell o4).trans rfl
  have f1o4 : (x5.alloc (Obj.cells #[Value.slice bA (moG1 q ys).length ba, Value.slice bB br.length bb] 27)).cell? ⟨x1.heap.size, 1, none⟩ = some (Value.slice S rs.length sk) := (obj_cell o4).trans rfl
  have HC := Lib.hid (inverseMesh_impl P S pk sk p rs (x5.alloc (Obj.cells #[Value.slice bA (moG1 q ys).length ba, Value.slice bB br.length bb] 27)) im)
  go_wp2_with fail
  (with_reducible refine HC.out.mono ?_)
  rintro e x6 ⟨iA, iB, ia, ib, ir, rfl, hX, hO, hb⟩
  clear HC
  replace o4 := obj_below o4 hb (obj_lt o4)
  replace o6 := obj_below o6 hb (obj_lt o6)
  replace o7 := obj_below o7 hb (obj_lt o7)
  replace o9 := obj_below o9 hb (obj_lt o9)
  replace id := id.next hb
  replace im := im.next hb
  replace ix := ix.next hb
  replace inna := inna.next hb
  replace innb := innb.next hb
  replace HB := HB.trans (hb.mono HB.size)
  have Hi := Lib.hid hX
  have inni := hO.read.toM (by have := imG_le p (rs.map Row.xs); omega) (by rw [map_len1 hX, map_size1 hX]; have := imG_le p (rs.map Row.xs); omega) (Nat.le_refl _)
  clear hX hO
  clear hb
  clear f0o4 f1o4
  have hbA := (Below.refl x6.heap.size x6).alloc (Nat.le_refl _) (Obj.cells #[Value.slice iA (imG1 p (rs.map Row.xs)).length ia, Value.slice iB ir.length ib] 27)
  replace o4 := obj_alloc o4 (Obj.cells #[Value.slice iA (imG1 p (rs.map Row.xs)).length ia, Value.slice iB ir.length ib] 27)
  replace o6 := obj_alloc o6 (Obj.cells #[Value.slice iA (imG1 p (rs.map Row.xs)).length ia, Value.slice iB ir.length ib] 27)
  replace o7 := obj_alloc o7 (Obj.cells #[Value.slice iA (imG1 p (rs.map Row.xs)).length ia, Value.slice iB ir.length ib] 27)
  replace o9 := obj_alloc o9 (Obj.cells #[Value.slice iA (imG1 p (rs.map Row.xs)).length ia, Value.slice iB ir.length ib] 27)
  have o11 := obj_new x6 (Obj.cells #[Value.slice iA (imG1 p (rs.map Row.xs)).length ia, Value.slice iB ir.length ib] 27)
  replace id := id.next hbA
  replace im := im.next hbA
  replace ix := ix.next hbA
  replace inna := inna.next hbA
  replace innb := innb.next hbA
  replace inni := inni.next hbA
  replace HB := HB.trans (hbA.mono HB.size)
  clear hbA
  have f0o4 : (x6.alloc (Obj.cells #[Value.slice iA (imG1 p (rs.map Row.xs)).length ia, Value.slice iB ir.length ib] 27)).cell? ⟨x1.heap.size, 0, none⟩ = some (Value.slice P p.length pk) := (obj_cell o4).trans rfl
  have f1o4 : (x6.alloc (Obj.cells #[Value.slice iA (imG1 p (rs.map Row.xs)).length ia, Value.slice iB ir.length ib] 27)).cell? ⟨x1.heap.size, 1, none⟩ = some (Value.slice S rs.length sk) := (obj_cell o4).trans rfl
  have HC := Lib.hid (inverseMesh_spec P S pk sk p rs (x6.alloc (Obj.cells #[Value.slice iA (imG1 p (rs.map Row.xs)).length ia, Value.slice iB ir.length ib] 27)) im)
  go_wp2_with fail
  (with_reducible refine HC.out.mono ?_)
  rintro e x7 ⟨jA, jB, ja, jb, jr, rfl, hX, hO, hb⟩
  clear HC
  replace o4 := obj_below o4 hb (obj_lt o4)
  replace o6 := obj_below o6 hb (obj_lt o6)
  replace o7 := obj_below o7 hb (obj_lt o7)
  replace o9 := obj_below o9 hb (obj_lt o9)
  replace o11 := obj_below o11 hb (obj_lt o11)
  replace id := id.next hb
  replace im := im.next hb
  replace ix := ix.next hb
  replace inna := inna.next hb
  replace innb := innb.next hb
  replace inni := inni.next hb
  replace HB := HB.trans (hb.mono HB.size)
  have Hj := Lib.hid hX
  have innj := hO.read.toM (by have := imG_le p (rs.map Row.xs); omega) (by rw [map_len1 hX, map_size1 hX]; have := imG_le p (rs.map Row.xs); omega) (Nat.le_refl _)
  clear hX hO
  clear hb
  clear f0o4 f1o4
  have hbA := (Below.refl x7.heap.size x7).alloc (Nat.le_refl _) (Obj.cells #[Value.slice jA (imG1 p (rs.map Row.xs)).length ja, Value.slice jB jr.length jb] 27)
  replace o4 := obj_alloc o4 (Obj.cells #[Value.slice jA (imG1 p (rs.map Row.xs)).length ja, Value.slice jB jr.length jb] 27)
  replace o6 := obj_alloc o6 (Obj.cells #[Value.slice jA (imG1 p (rs.map Row.xs)).length ja, Value.slice jB jr.length jb] 27)
  replace o7 := obj_alloc o7 (Obj.cells #[Value.slice jA (imG1 p (rs.map Row.xs)).length ja, Value.slice jB jr.length jb] 27)
  replace o9 := obj_alloc o9 (Obj.cells #[Value.slice jA (imG1 p (rs.map Row.xs)).length ja, Value.slice jB jr.length jb] 27)
  replace o11 := obj_alloc o11 (Obj.cells #[Value.slice jA (imG1 p (rs.map Row.xs)).length ja, Value.slice jB jr.length jb] 27)
  have o13 := obj_new x7 (Obj.cells #[Value.slice jA (imG1 p (rs.map Row.xs)).length ja, Value.slice jB jr.length jb] 27)
  replace id := id.next hbA
  replace im := im.next hbA
  replace ix := ix.next hbA
  replace inna := inna.next hbA
  replace innb := innb.next hbA
  replace inni := inni.next hbA
  replace innj := innj.next hbA
  replace HB := HB.trans (hbA.mono HB.size)
  clear hbA
  have f0o4 : (x7.alloc (Obj.cells #[Value.slice jA (imG1 p (rs.map Row.xs)).length ja, Value.slice jB jr.length jb] 27)).cell? ⟨x1.heap.size, 0, none⟩ = some (Value.slice P p.length pk) := (obj_cell o4).trans rfl
  have f1o4 : (x7.alloc (Obj.cells #[Value.slice jA (imG1 p (rs.map Row.xs)).length ja, Value.slice jB jr.length jb] 27)).cell? ⟨x1.heap.size, 1, none⟩ = some (Value.slice S rs.length sk) := (obj_cell o4).trans rfl
  go_upto_region 10 with (fail)
  clear f0o4 f1o4
  generalize hy0 : (x7.alloc (Obj.cells #[Value.slice jA (imG1 p (rs.map Row.xs)).length ja, Value.slice jB jr.length jb] 27)) = y0 at o4 o6 o7 o9 o11 o13 id im ix inna innb inni innj HB ⊢
  clear hy0
  have c0 : (cmG d p (rs.map Row.xs) != cmG d p (rs.map Row.xs)) = false := by simp
  have c1 : (moB q ys != moB q ys) = false := by simp
  have c2 : (meshB p (rs.map Row.xs) != meshB p (rs.map Row.xs)) = false := by simp
  go_cut [8, 10, 82] from 17 to 82 (fun s8 _ s wz => s8 = .bool (moB q ys) ∧ s = .bool false ∧ Below y0.heap.size y0 wz)
  case first =>
    have hbd := below_dr (Below.refl y0.heap.size y0) (Dr.refl y0).drew
    have o4 := obj_below o4 hbd (obj_lt o4)
    have o6 := obj_below o6 hbd (obj_lt o6)
    have o7 := obj_below o7 hbd (obj_lt o7)
    have o9 := obj_below o9 hbd (obj_lt o9)
    have o11 := obj_below o11 hbd (obj_lt o11)
    have o13 := obj_below o13 hbd (obj_lt o13)
    have id := id.next hbd
    have im := im.next hbd
    have ix := ix.next hbd
    have inna := inna.next hbd
    have innb := innb.next hbd
    have inni := inni.next hbd
    have innj := innj.next hbd
    have hS0 : y0.drew.cell? ⟨x1.heap.size, 0, none⟩ = some (Value.slice P p.length pk) ∧ y0.drew.cell? ⟨x1.heap.size, 1, none⟩ = some (Value.slice S rs.length sk) ∧ y0.drew.cell? ⟨x4.heap.size, 0, none⟩ = some (Value.slice aA (moG1 q ys).length aa) ∧ y0.drew.cell? ⟨x4.heap.size, 1, none⟩ = some (Value.slice aB ar.length ab) ∧ y0.drew.cell? ⟨x5.heap.size, 0, none⟩ = some (Value.slice bA (moG1 q ys).length ba) ∧ y0.drew.cell? ⟨x5.heap.size, 1, none⟩ = some (Value.slice bB br.length bb) ∧ y0.drew.cell? ⟨x6.heap.size, 0, none⟩ = some (Value.slice iA (imG1 p (rs.map Row.xs)).length ia) ∧ y0.drew.cell? ⟨x6.heap.size, 1, none⟩ = some (Value.slice iB ir.length ib) ∧ y0.drew.cell? ⟨x7.heap.size, 0, none⟩ = some (Value.slice jA (imG1 p (rs.map Row.xs)).length ja) ∧ y0.drew.cell? ⟨x7.heap.size, 1, none⟩ = some (Value.slice jB jr.length jb) := ⟨(obj_cell o4).trans rfl, (obj_cell o4).trans rfl, (obj_cell o7).trans rfl, (obj_cell o7).trans rfl, (obj_cell o9).trans rfl, (obj_cell o9).trans rfl, (obj_cell o11).trans rfl, (obj_cell o11).trans rfl, (obj_cell o13).trans rfl, (obj_cell o13).trans rfl⟩
    go_wp2_with fail
    refine wp_region_held_drew (S := (fun v => v.cell? ⟨x1.heap.size, 0, none⟩ = some (Value.slice P p.length pk) ∧ v.cell? ⟨x1.heap.size, 1, none⟩ = some (Value.slice S rs.length sk) ∧ v.cell? ⟨x4.heap.size, 0, none⟩ = some (Value.slice aA (moG1 q ys).length aa) ∧ v.cell? ⟨x4.heap.size, 1, none⟩ = some (Value.slice aB ar.length ab) ∧ v.cell? ⟨x5.heap.size, 0, none⟩ = some (Value.slice bA (moG1 q ys).length ba) ∧ v.cell? ⟨x5.heap.size, 1, none⟩ = some (Value.slice bB br.length bb) ∧ v.cell? ⟨x6.heap.size, 0, none⟩ = some (Value.slice iA (imG1 p (rs.map Row.xs)).length ia) ∧ v.cell? ⟨x6.heap.size, 1, none⟩ = some (Value.slice iB ir.length ib) ∧ v.cell? ⟨x7.heap.size, 0, none⟩ = some (Value.slice jA (imG1 p (rs.map Row.xs)).length ja) ∧ v.cell? ⟨x7.heap.size, 1, none⟩ = some (Value.slice jB jr.length jb))) (by kernel_rfl) hS0 (fun hHeld => ?_)
    refine wpAnyH_take (i := 0) (oi := _) (v := ?_) rfl (by kernel_rfl) (by kernel_rfl) (by kernel_rfl) (fun _ _ _ h => h) (Or.inl ⟨by rfl, ?_⟩) (by assumption) ?_
    rotate_left
    · intro w hSw
      try dsimp only at hSw
      go_simp
      all_goals with_reducible rfl
    try simp only [Act.put, List.setIfInBounds_toArray, List.set_cons_zero, List.set_cons_succ, List.getElem_toArray, List.getElem_cons_succ, List.getElem_cons_zero]
    refine wpAnyH_take (i := 1) (oi := _) (v := ?_) rfl (by kernel_rfl) (by kernel_rfl) (by kernel_rfl) (fun _ _ _ h => h) (Or.inl ⟨by rfl, ?_⟩) (by assumption) ?_
    rotate_left
    · intro w hSw
      try dsimp only at hSw
      go_simp
      all_goals with_reducible rfl
    try simp only [Act.put, List.setIfInBounds_toArray, List.set_cons_zero, List.set_cons_succ, List.getElem_toArray, List.getElem_cons_succ, List.getElem_cons_zero]
    refine wpAnyH_take (i := 2) (oi := _) (v := ?_) rfl (by kernel_rfl) (by kernel_rfl) (by kernel_rfl) (fun _ _ _ h => h) (Or.inl ⟨by rfl, ?_⟩) (by assumption) ?_
    rotate_left
    · intro w hSw
      try dsimp only at hSw
      go_simp
      all_goals with_reducible rfl
    try simp only [Act.put, List.setIfInBounds_toArray, List.set_cons_zero, List.set_cons_succ, List.getElem_toArray, List.getElem_cons_succ, List.getElem_cons_zero]
    refine wpAnyH_ready (rs := [3]) (by kernel_rfl) (by simp) ?_
    refine AllReadyH.cons (o := _) rfl (fun K hK => ?_) AllReadyH.nil
    go_simp
    refine Calls.mono (countMesh_spec D dk d P S pk sk p rs _ id im) ?_
    rintro e v1 ⟨rfl, hb⟩
    have o4 := obj_below o4 hb (obj_lt o4)
    have o6 := obj_below o6 hb (obj_lt o6)
    have o7 := obj_below o7 hb (obj_lt o7)
    have o9 := obj_below o9 hb (obj_lt o9)
    have o11 := obj_below o11 hb (obj_lt o11)
    have o13 := obj_below o13 hb (obj_lt o13)
    have id := id.next hb
    have im := im.next hb
    have ix := ix.next hb
    have inna := inna.next hb
    have innb := innb.next hb
    have inni := inni.next hb
    have innj := innj.next hb
    have hbd := hbd.trans (hb.mono hbd.size)
    have hS1 : v1.cell? ⟨x1.heap.size, 0, none⟩ = some (Value.slice P p.length pk) ∧ v1.cell? ⟨x1.heap.size, 1, none⟩ = some (Value.slice S rs.length sk) ∧ v1.cell? ⟨x4.heap.size, 0, none⟩ = some (Value.slice aA (moG1 q ys).length aa) ∧ v1.cell? ⟨x4.heap.size, 1, none⟩ = some (Value.slice aB ar.length ab) ∧ v1.cell? ⟨x5.heap.size, 0, none⟩ = some (Value.slice bA (moG1 q ys).length ba) ∧ v1.cell? ⟨x5.heap.size, 1, none⟩ = some (Value.slice bB br.length bb) ∧ v1.cell? ⟨x6.heap.size, 0, none⟩ = some (Value.slice iA (imG1 p (rs.map Row.xs)).length ia) ∧ v1.cell? ⟨x6.heap.size, 1, none⟩ = some (Value.slice iB ir.length ib) ∧ v1.cell? ⟨x7.heap.size, 0, none⟩ = some (Value.slice jA (imG1 p (rs.map Row.xs)).length ja) ∧ v1.cell? ⟨x7.heap.size, 1, none⟩ = some (Value.slice jB jr.length jb) := ⟨(obj_cell o4).trans rfl, (obj_cell o4).trans rfl, (obj_cell o7).trans rfl, (obj_cell o7).trans rfl, (obj_cell o9).trans rfl, (obj_cell o9).trans rfl, (obj_cell o11).trans rfl, (obj_cell o11).trans rfl, (obj_cell o13).trans rfl, (obj_cell o13).trans rfl⟩
    clear hb
    go_wp2_with fail
    refine hK.out _ _ (hS1) (fun hHeld => ?_)
    clear hK K
    try simp only [Act.put, List.setIfInBounds_toArray, List.set_cons_zero, List.set_cons_succ, List.getElem_toArray, List.getElem_cons_succ, List.getElem_cons_zero]
    refine wpAnyH_take (i := 4) (oi := _) (v := ?_) rfl (by kernel_rfl) (by kernel_rfl) (by kernel_rfl) (fun _ _ _ h => h) (Or.inl ⟨by rfl, ?_⟩) (by assumption) ?_
    rotate_left
    · intro w hSw
      try dsimp only at hSw
      go_simp
      all_goals with_reducible rfl
    try simp only [Act.put, List.setIfInBounds_toArray, List.set_cons_zero, List.set_cons_succ, List.getElem_toArray, List.getElem_cons_succ, List.getElem_cons_zero]
    refine wpAnyH_take (i := 5) (oi := _) (v := ?_) rfl (by kernel_rfl) (by kernel_rfl) (by kernel_rfl) (fun _ _ _ h => h) (Or.inl ⟨by rfl, ?_⟩) (by assumption) ?_
    rotate_left
    · intro w hSw
      try dsimp only at hSw
      go_simp
      all_goals with_reducible rfl
    try simp only [Act.put, List.setIfInBounds_toArray, List.set_cons_zero, List.set_cons_succ, List.getElem_toArray, List.getElem_cons_succ, List.getElem_cons_zero]
    refine wpAnyH_take (i := 6) (oi := _) (v := ?_) rfl (by kernel_rfl) (by kernel_rfl) (by kernel_rfl) (fun _ _ _ h => h) (Or.inl ⟨by rfl, ?_⟩) (by assumption) ?_
    rotate_left
    · intro w hSw
      try dsimp only at hSw
      go_simp
      all_goals with_reducible rfl
    try simp only [Act.put, List.setIfInBounds_toArray, List.set_cons_zero, List.set_cons_succ, List.getElem_toArray, List.getElem_cons_succ, List.getElem_cons_zero]
    refine wpAnyH_take (i := 7) (oi := _) (v := ?_) rfl (by kernel_rfl) (by kernel_rfl) (by kernel_rfl) (fun _ _ _ h => h) (Or.inl ⟨by rfl, ?_⟩) (by assumption) ?_
    rotate_left
    · intro w hSw
      try dsimp only at hSw
      go_simp
      all_goals with_reducible rfl
    try simp only [Act.put, List.setIfInBounds_toArray, List.set_cons_zero, List.set_cons_succ, List.getElem_toArray, List.getElem_cons_succ, List.getElem_cons_zero]
    refine wpAnyH_take (i := 8) (oi := _) (v := ?_) rfl (by kernel_rfl) (by kernel_rfl) (by kernel_rfl) (fun _ _ _ h => h) (Or.inl ⟨by rfl, ?_⟩) (by assumption) ?_
    rotate_left
    · intro w hSw
      try dsimp only at hSw
      go_simp
      all_goals with_reducible rfl
    try simp only [Act.put, List.setIfInBounds_toArray, List.set_cons_zero, List.set_cons_succ, List.getElem_toArray, List.getElem_cons_succ, List.getElem_cons_zero]
    refine wpAnyH_take (i := 9) (oi := _) (v := ?_) rfl (by kernel_rfl) (by kernel_rfl) (by kernel_rfl) (fun _ _ _ h => h) (Or.inl ⟨by rfl, ?_⟩) (by assumption) ?_
    rotate_left
    · intro w hSw
      try dsimp only at hSw
      go_simp
      all_goals with_reducible rfl
    try simp only [Act.put, List.setIfInBounds_toArray, List.set_cons_zero, List.set_cons_succ, List.getElem_toArray, List.getElem_cons_succ, List.getElem_cons_zero]
    refine wpAnyH_take (i := 10) (oi := _) (v := ?_) rfl (by kernel_rfl) (by kernel_rfl) (by kernel_rfl) (fun _ _ _ h => h) (Or.inl ⟨by rfl, ?_⟩) (by assumption) ?_
    rotate_left
    · intro w hSw
      try dsimp only at hSw
      go_simp
      all_goals with_reducible rfl
    try simp only [Act.put, List.setIfInBounds_toArray, List.set_cons_zero, List.set_cons_succ, List.getElem_toArray, List.getElem_cons_succ, List.getElem_cons_zero]
    refine wpAnyH_take (i := 11) (oi := _) (v := ?_) rfl (by kernel_rfl) (by kernel_rfl) (by kernel_rfl) (fun _ _ _ h => h) (Or.inl ⟨by rfl, ?_⟩) (by assumption) ?_
    rotate_left
    · intro w hSw
      try dsimp only at hSw
      go_simp
      all_goals with_reducible rfl
    try simp only [Act.put, List.setIfInBounds_toArray, List.set_cons_zero, List.set_cons_succ, List.getElem_toArray, List.getElem_cons_succ, List.getElem_cons_zero]
    refine wpAnyH_take (i := 12) (oi := _) (v := ?_) rfl (by kernel_rfl) (by kernel_rfl) (by kernel_rfl) (fun _ _ _ h => h) (Or.inl ⟨by rfl, ?_⟩) (by assumption) ?_
    rotate_left
    · intro w hSw
      try dsimp only at hSw
      go_simp
      all_goals with_reducible rfl
    try simp only [Act.put, List.setIfInBounds_toArray, List.set_cons_zero, List.set_cons_succ, List.getElem_toArray, List.getElem_cons_succ, List.getElem_cons_zero]
    refine wpAnyH_ready (rs := [13]) (by kernel_rfl) (by simp) ?_
    refine AllReadyH.cons (o := _) rfl (fun K hK => ?_) AllReadyH.nil
    go_simp
    refine Calls.mono (sameMesh_eq aA aB bA bB aa ab ba bb _ _ ar br _ inna innb rfl (by rw [Ha.out, Hb.out])) ?_
    rintro e v2 ⟨rfl, hb⟩
    have o4 := obj_below o4 hb (obj_lt o4)
    have o6 := obj_below o6 hb (obj_lt o6)
    have o7 := obj_below o7 hb (obj_lt o7)
    have o9 := obj_below o9 hb (obj_lt o9)
    have o11 := obj_below o11 hb (obj_lt o11)
    have o13 := obj_below o13 hb (obj_lt o13)
    have id := id.next hb
    have im := im.next hb
    have ix := ix.next hb
    have inna := inna.next hb
    have innb := innb.next hb
    have inni := inni.next hb
    have innj := innj.next hb
    have hbd := hbd.trans (hb.mono hbd.size)
    have hS2 : v2.cell? ⟨x1.heap.size, 0, none⟩ = some (Value.slice P p.length pk) ∧ v2.cell? ⟨x1.heap.size, 1, none⟩ = some (Value.slice S rs.length sk) ∧ v2.cell? ⟨x4.heap.size, 0, none⟩ = some (Value.slice aA (moG1 q ys).length aa) ∧ v2.cell? ⟨x4.heap.size, 1, none⟩ = some (Value.slice aB ar.length ab) ∧ v2.cell? ⟨x5.heap.size, 0, none⟩ = some (Value.slice bA (moG1 q ys).length ba) ∧ v2.cell? ⟨x5.heap.size, 1, none⟩ = some (Value.slice bB br.length bb) ∧ v2.cell? ⟨x6.heap.size, 0, none⟩ = some (Value.slice iA (imG1 p (rs.map Row.xs)).length ia) ∧ v2.cell? ⟨x6.heap.size, 1, none⟩ = some (Value.slice iB ir.length ib) ∧ v2.cell? ⟨x7.heap.size, 0, none⟩ = some (Value.slice jA (imG1 p (rs.map Row.xs)).length ja) ∧ v2.cell? ⟨x7.heap.size, 1, none⟩ = some (Value.slice jB jr.length jb) := ⟨(obj_cell o4).trans rfl, (obj_cell o4).trans rfl, (obj_cell o7).trans rfl, (obj_cell o7).trans rfl, (obj_cell o9).trans rfl, (obj_cell o9).trans rfl, (obj_cell o11).trans rfl, (obj_cell o11).trans rfl, (obj_cell o13).trans rfl, (obj_cell o13).trans rfl⟩
    clear hb
    go_wp2_with fail
    refine hK.out _ _ (hS2) (fun hHeld => ?_)
    clear hK K
    try simp only [Act.put, List.setIfInBounds_toArray, List.set_cons_zero, List.set_cons_succ, List.getElem_toArray, List.getElem_cons_succ, List.getElem_cons_zero]
    refine wpAnyH_take (i := 14) (oi := _) (v := ?_) rfl (by kernel_rfl) (by kernel_rfl) (by kernel_rfl) (fun _ _ _ h => h) (Or.inl ⟨by rfl, ?_⟩) (by assumption) ?_
    rotate_left
    · intro w hSw
      try dsimp only at hSw
      go_simp
      all_goals with_reducible rfl
    try simp only [Act.put, List.setIfInBounds_toArray, List.set_cons_zero, List.set_cons_succ, List.getElem_toArray, List.getElem_cons_succ, List.getElem_cons_zero]
    refine wpAnyH_take (i := 15) (oi := _) (v := ?_) rfl (by kernel_rfl) (by kernel_rfl) (by kernel_rfl) (fun _ _ _ h => h) (Or.inl ⟨by rfl, ?_⟩) (by assumption) ?_
    rotate_left
    · intro w hSw
      try dsimp only at hSw
      go_simp
      all_goals with_reducible rfl
    try simp only [Act.put, List.setIfInBounds_toArray, List.set_cons_zero, List.set_cons_succ, List.getElem_toArray, List.getElem_cons_succ, List.getElem_cons_zero]
    refine wpAnyH_take (i := 16) (oi := _) (v := ?_) rfl (by kernel_rfl) (by kernel_rfl) (by kernel_rfl) (fun _ _ _ h => h) (Or.inl ⟨by rfl, ?_⟩) (by assumption) ?_
    rotate_left
    · intro w hSw
      try dsimp only at hSw
      go_simp
      all_goals with_reducible rfl
    try simp only [Act.put, List.setIfInBounds_toArray, List.set_cons_zero, List.set_cons_succ, List.getElem_toArray, List.getElem_cons_succ, List.getElem_cons_zero]
    refine wpAnyH_take (i := 17) (oi := _) (v := ?_) rfl (by kernel_rfl) (by kernel_rfl) (by kernel_rfl) (fun _ _ _ h => h) (Or.inl ⟨by rfl, ?_⟩) (by assumption) ?_
    rotate_left
    · intro w hSw
      try dsimp only at hSw
      go_simp
      all_goals with_reducible rfl
    try simp only [Act.put, List.setIfInBounds_toArray, List.set_cons_zero, List.set_cons_succ, List.getElem_toArray, List.getElem_cons_succ, List.getElem_cons_zero]
    refine wpAnyH_take (i := 18) (oi := _) (v := ?_) rfl (by kernel_rfl) (by kernel_rfl) (by kernel_rfl) (fun _ _ _ h => h) (Or.inl ⟨by rfl, ?_⟩) (by assumption) ?_
    rotate_left
    · intro w hSw
      try dsimp only at hSw
      go_simp
      all_goals with_reducible rfl
    try simp only [Act.put, List.setIfInBounds_toArray, List.set_cons_zero, List.set_cons_succ, List.getElem_toArray, List.getElem_cons_succ, List.getElem_cons_zero]
    refine wpAnyH_take (i := 19) (oi := _) (v := ?_) rfl (by kernel_rfl) (by kernel_rfl) (by kernel_rfl) (fun _ _ _ h => h) (Or.inl ⟨by rfl, ?_⟩) (by assumption) ?_
    rotate_left
    · intro w hSw
      try dsimp only at hSw
      go_simp
      all_goals with_reducible rfl
    try simp only [Act.put, List.setIfInBounds_toArray, List.set_cons_zero, List.set_cons_succ, List.getElem_toArray, List.getElem_cons_succ, List.getElem_cons_zero]
    refine wpAnyH_take (i := 20) (oi := _) (v := ?_) rfl (by kernel_rfl) (by kernel_rfl) (by kernel_rfl) (fun _ _ _ h => h) (Or.inl ⟨by rfl, ?_⟩) (by assumption) ?_
    rotate_left
    · intro w hSw
      try dsimp only at hSw
      go_simp
      all_goals with_reducible rfl
    try simp only [Act.put, List.setIfInBounds_toArray, List.set_cons_zero, List.set_cons_succ, List.getElem_toArray, List.getElem_cons_succ, List.getElem_cons_zero]
    refine wpAnyH_take (i := 21) (oi := _) (v := ?_) rfl (by kernel_rfl) (by kernel_rfl) (by kernel_rfl) (fun _ _ _ h => h) (Or.inl ⟨by rfl, ?_⟩) (by assumption) ?_
    rotate_left
    · intro w hSw
      try dsimp only at hSw
      go_simp
      all_goals with_reducible rfl
    try simp only [Act.put, List.setIfInBounds_toArray, List.set_cons_zero, List.set_cons_succ, List.getElem_toArray, List.getElem_cons_succ, List.getElem_cons_zero]
    refine wpAnyH_take (i := 22) (oi := _) (v := ?_) rfl (by kernel_rfl) (by kernel_rfl) (by kernel_rfl) (fun _ _ _ h => h) (Or.inl ⟨by rfl, ?_⟩) (by assumption) ?_
    rotate_left
    · intro w hSw
      try dsimp only at hSw
      go_simp
      all_goals with_reducible rfl
    try simp only [Act.put, List.setIfInBounds_toArray, List.set_cons_zero, List.set_cons_succ, List.getElem_toArray, List.getElem_cons_succ, List.getElem_cons_zero]
    refine wpAnyH_take (i := 23) (oi := _) (v := ?_) rfl (by kernel_rfl) (by kernel_rfl) (by kernel_rfl) (fun _ _ _ h => h) (Or.inl ⟨by rfl, ?_⟩) (by assumption) ?_
    rotate_left
    · intro w hSw
      try dsimp only at hSw
      go_simp
      all_goals with_reducible rfl
    try simp only [Act.put, List.setIfInBounds_toArray, List.set_cons_zero, List.set_cons_succ, List.getElem_toArray, List.getElem_cons_succ, List.getElem_cons_zero]
    refine wpAnyH_ready (rs := [24]) (by kernel_rfl) (by simp) ?_
    refine AllReadyH.cons (o := _) rfl (fun K hK => ?_) AllReadyH.nil
    go_simp
    refine Calls.mono (sameMesh_eq iA iB jA jB ia ib ja jb _ _ ir jr _ inni innj rfl (by rw [Hi.out, Hj.out])) ?_
    rintro e v3 ⟨rfl, hb⟩
    have o4 := obj_below o4 hb (obj_lt o4)
    have o6 := obj_below o6 hb (obj_lt o6)
    have o7 := obj_below o7 hb (obj_lt o7)
    have o9 := obj_below o9 hb (obj_lt o9)
    have o11 := obj_below o11 hb (obj_lt o11)
    have o13 := obj_below o13 hb (obj_lt o13)
    have id := id.next hb
    have im := im.next hb
    have ix := ix.next hb
    have inna := inna.next hb
    have innb := innb.next hb
    have inni := inni.next hb
    have innj := innj.next hb
    have hbd := hbd.trans (hb.mono hbd.size)
    have hS3 : v3.cell? ⟨x1.heap.size, 0, none⟩ = some (Value.slice P p.length pk) ∧ v3.cell? ⟨x1.heap.size, 1, none⟩ = some (Value.slice S rs.length sk) ∧ v3.cell? ⟨x4.heap.size, 0, none⟩ = some (Value.slice aA (moG1 q ys).length aa) ∧ v3.cell? ⟨x4.heap.size, 1, none⟩ = some (Value.slice aB ar.length ab) ∧ v3.cell? ⟨x5.heap.size, 0, none⟩ = some (Value.slice bA (moG1 q ys).length ba) ∧ v3.cell? ⟨x5.heap.size, 1, none⟩ = some (Value.slice bB br.length bb) ∧ v3.cell? ⟨x6.heap.size, 0, none⟩ = some (Value.slice iA (imG1 p (rs.map Row.xs)).length ia) ∧ v3.cell? ⟨x6.heap.size, 1, none⟩ = some (Value.slice iB ir.length ib) ∧ v3.cell? ⟨x7.heap.size, 0, none⟩ = some (Value.slice jA (imG1 p (rs.map Row.xs)).length ja) ∧ v3.cell? ⟨x7.heap.size, 1, none⟩ = some (Value.slice jB jr.length jb) := ⟨(obj_cell o4).trans rfl, (obj_cell o4).trans rfl, (obj_cell o7).trans rfl, (obj_cell o7).trans rfl, (obj_cell o9).trans rfl, (obj_cell o9).trans rfl, (obj_cell o11).trans rfl, (obj_cell o11).trans rfl, (obj_cell o13).trans rfl, (obj_cell o13).trans rfl⟩
    clear hb
    go_wp2_with fail
    refine hK.out _ _ (hS3) (fun hHeld => ?_)
    clear hK K
    try simp only [Act.put, List.setIfInBounds_toArray, List.set_cons_zero, List.set_cons_succ, List.getElem_toArray, List.getElem_cons_succ, List.getElem_cons_zero]
    refine wpAnyH_take (i := 25) (oi := _) (v := ?_) rfl (by kernel_rfl) (by kernel_rfl) (by kernel_rfl) (fun _ _ _ h => h) (Or.inl ⟨by rfl, ?_⟩) (by assumption) ?_
    rotate_left
    · intro w hSw
      try dsimp only at hSw
      go_simp
      all_goals with_reducible rfl
    try simp only [Act.put, List.setIfInBounds_toArray, List.set_cons_zero, List.set_cons_succ, List.getElem_toArray, List.getElem_cons_succ, List.getElem_cons_zero]
    refine wpAnyH_take (i := 26) (oi := _) (v := ?_) rfl (by kernel_rfl) (by kernel_rfl) (by kernel_rfl) (fun _ _ _ h => h) (Or.inl ⟨by rfl, ?_⟩) (by assumption) ?_
    rotate_left
    · intro w hSw
      try dsimp only at hSw
      go_simp
      all_goals with_reducible rfl
    try simp only [Act.put, List.setIfInBounds_toArray, List.set_cons_zero, List.set_cons_succ, List.getElem_toArray, List.getElem_cons_succ, List.getElem_cons_zero]
    refine wpAnyH_take (i := 27) (oi := _) (v := ?_) rfl (by kernel_rfl) (by kernel_rfl) (by kernel_rfl) (fun _ _ _ h => h) (Or.inl ⟨by rfl, ?_⟩) (by assumption) ?_
    rotate_left
    · intro w hSw
      try dsimp only at hSw
      go_simp
      all_goals with_reducible rfl
    try simp only [Act.put, List.setIfInBounds_toArray, List.set_cons_zero, List.set_cons_succ, List.getElem_toArray, List.getElem_cons_succ, List.getElem_cons_zero]
    refine wpAnyH_take (i := 28) (oi := _) (v := ?_) rfl (by kernel_rfl) (by kernel_rfl) (by kernel_rfl) (fun _ _ _ h => h) (Or.inl ⟨by rfl, ?_⟩) (by assumption) ?_
    rotate_left
    · intro w hSw
      try dsimp only at hSw
      go_simp
      all_goals with_reducible rfl
    try simp only [Act.put, List.setIfInBounds_toArray, List.set_cons_zero, List.set_cons_succ, List.getElem_toArray, List.getElem_cons_succ, List.getElem_cons_zero]
    refine wpAnyH_take (i := 30) (oi := _) (v := ?_) rfl (by kernel_rfl) (by kernel_rfl) (by kernel_rfl) (fun _ _ _ h => h) (Or.inl ⟨by rfl, ?_⟩) (by assumption) ?_
    rotate_left
    · intro w hSw
      try dsimp only at hSw
      go_simp
      all_goals with_reducible rfl
    try simp only [Act.put, List.setIfInBounds_toArray, List.set_cons_zero, List.set_cons_succ, List.getElem_toArray, List.getElem_cons_succ, List.getElem_cons_zero]
    refine wpAnyH_ready (rs := [29]) (by kernel_rfl) (by simp) ?_
    refine AllReadyH.cons (o := _) rfl (fun K hK => ?_) AllReadyH.nil
    go_simp
    refine Calls.mono (mesh_impl P S pk sk p rs _ im) ?_
    rintro e v4 ⟨rfl, hb⟩
    have o4 := obj_below o4 hb (obj_lt o4)
    have o6 := obj_below o6 hb (obj_lt o6)
    have o7 := obj_below o7 hb (obj_lt o7)
    have o9 := obj_below o9 hb (obj_lt o9)
    have o11 := obj_below o11 hb (obj_lt o11)
    have o13 := obj_below o13 hb (obj_lt o13)
    have id := id.next hb
    have im := im.next hb
    have ix := ix.next hb
    have inna := inna.next hb
    have innb := innb.next hb
    have inni := inni.next hb
    have innj := innj.next hb
    have hbd := hbd.trans (hb.mono hbd.size)
    have hS4 : v4.cell? ⟨x1.heap.size, 0, none⟩ = some (Value.slice P p.length pk) ∧ v4.cell? ⟨x1.heap.size, 1, none⟩ = some (Value.slice S rs.length sk) ∧ v4.cell? ⟨x4.heap.size, 0, none⟩ = some (Value.slice aA (moG1 q ys).length aa) ∧ v4.cell? ⟨x4.heap.size, 1, none⟩ = some (Value.slice aB ar.length ab) ∧ v4.cell? ⟨x5.heap.size, 0, none⟩ = some (Value.slice bA (moG1 q ys).length ba) ∧ v4.cell? ⟨x5.heap.size, 1, none⟩ = some (Value.slice bB br.length bb) ∧ v4.cell? ⟨x6.heap.size, 0, none⟩ = some (Value.slice iA (imG1 p (rs.map Row.xs)).length ia) ∧ v4.cell? ⟨x6.heap.size, 1, none⟩ = some (Value.slice iB ir.length ib) ∧ v4.cell? ⟨x7.heap.size, 0, none⟩ = some (Value.slice jA (imG1 p (rs.map Row.xs)).length ja) ∧ v4.cell? ⟨x7.heap.size, 1, none⟩ = some (Value.slice jB jr.length jb) := ⟨(obj_cell o4).trans rfl, (obj_cell o4).trans rfl, (obj_cell o7).trans rfl, (obj_cell o7).trans rfl, (obj_cell o9).trans rfl, (obj_cell o9).trans rfl, (obj_cell o11).trans rfl, (obj_cell o11).trans rfl, (obj_cell o13).trans rfl, (obj_cell o13).trans rfl⟩
    clear hb
    go_wp2_with fail
    refine hK.out _ _ (hS4) (fun hHeld => ?_)
    clear hK K
    try simp only [Act.put, List.setIfInBounds_toArray, List.set_cons_zero, List.set_cons_succ, List.getElem_toArray, List.getElem_cons_succ, List.getElem_cons_zero]
    refine wpAnyH_ready (rs := [31]) (by kernel_rfl) (by simp) ?_
    refine AllReadyH.cons (o := _) rfl (fun K hK => ?_) AllReadyH.nil
    go_simp
    refine Calls.mono (mesh_spec P S pk sk p rs _ im) ?_
    rintro e v5 ⟨rfl, hb⟩
    have o4 := obj_below o4 hb (obj_lt o4)
    have o6 := obj_below o6 hb (obj_lt o6)
    have o7 := obj_below o7 hb (obj_lt o7)
    have o9 := obj_below o9 hb (obj_lt o9)
    have o11 := obj_below o11 hb (obj_lt o11)
    have o13 := obj_below o13 hb (obj_lt o13)
    have id := id.next hb
    have im := im.next hb
    have ix := ix.next hb
    have inna := inna.next hb
    have innb := innb.next hb
    have inni := inni.next hb
    have innj := innj.next hb
    have hbd := hbd.trans (hb.mono hbd.size)
    have hS5 : v5.cell? ⟨x1.heap.size, 0, none⟩ = some (Value.slice P p.length pk) ∧ v5.cell? ⟨x1.heap.size, 1, none⟩ = some (Value.slice S rs.length sk) ∧ v5.cell? ⟨x4.heap.size, 0, none⟩ = some (Value.slice aA (moG1 q ys).length aa) ∧ v5.cell? ⟨x4.heap.size, 1, none⟩ = some (Value.slice aB ar.length ab) ∧ v5.cell? ⟨x5.heap.size, 0, none⟩ = some (Value.slice bA (moG1 q ys).length ba) ∧ v5.cell? ⟨x5.heap.size, 1, none⟩ = some (Value.slice bB br.length bb) ∧ v5.cell? ⟨x6.heap.size, 0, none⟩ = some (Value.slice iA (imG1 p (rs.map Row.xs)).length ia) ∧ v5.cell? ⟨x6.heap.size, 1, none⟩ = some (Value.slice iB ir.length ib) ∧ v5.cell? ⟨x7.heap.size, 0, none⟩ = some (Value.slice jA (imG1 p (rs.map Row.xs)).length ja) ∧ v5.cell? ⟨x7.heap.size, 1, none⟩ = some (Value.slice jB jr.length jb) := ⟨(obj_cell o4).trans rfl, (obj_cell o4).trans rfl, (obj_cell o7).trans rfl, (obj_cell o7).trans rfl, (obj_cell o9).trans rfl, (obj_cell o9).trans rfl, (obj_cell o11).trans rfl, (obj_cell o11).trans rfl, (obj_cell o13).trans rfl, (obj_cell o13).trans rfl⟩
    clear hb
    go_wp2_with fail
    refine hK.out _ _ (hS5) (fun hHeld => ?_)
    clear hK K
    try simp only [Act.put, List.setIfInBounds_toArray, List.set_cons_zero, List.set_cons_succ, List.getElem_toArray, List.getElem_cons_succ, List.getElem_cons_zero]
    refine wpAnyH_take (i := 32) (oi := _) (v := ?_) rfl (by kernel_rfl) (by kernel_rfl) (by kernel_rfl) (fun _ _ _ h => h) (Or.inl ⟨by rfl, ?_⟩) (by assumption) ?_
    rotate_left
    · intro w hSw
      try dsimp only at hSw
      go_simp
      all_goals with_reducible rfl
    try simp only [Act.put, List.setIfInBounds_toArray, List.set_cons_zero, List.set_cons_succ, List.getElem_toArray, List.getElem_cons_succ, List.getElem_cons_zero]
    refine wpAnyH_take (i := 33) (oi := _) (v := ?_) rfl (by kernel_rfl) (by kernel_rfl) (by kernel_rfl) (fun _ _ _ h => h) (Or.inl ⟨by rfl, ?_⟩) (by assumption) ?_
    rotate_left
    · intro w hSw
      try dsimp only at hSw
      go_simp
      all_goals with_reducible rfl
    try simp only [Act.put, List.setIfInBounds_toArray, List.set_cons_zero, List.set_cons_succ, List.getElem_toArray, List.getElem_cons_succ, List.getElem_cons_zero]
    refine wpAnyH_done (by kernel_rfl) ?_ _
    go_wp2_with fail
    go_meet
    case rel => exact ⟨rfl, rfl, hbd⟩
  obtain ⟨rfl, rfl, hbz⟩ := hcut
  obtain ⟨y1, rfl⟩ : ∃ w', w' = wc := ⟨_, rfl⟩
  replace o4 := obj_below o4 hbz (obj_lt o4)
  replace o6 := obj_below o6 hbz (obj_lt o6)
  replace o7 := obj_below o7 hbz (obj_lt o7)
  replace o9 := obj_below o9 hbz (obj_lt o9)
  replace o11 := obj_below o11 hbz (obj_lt o11)
  replace o13 := obj_below o13 hbz (obj_lt o13)
  replace id := id.next hbz
  replace im := im.next hbz
  replace ix := ix.next hbz
  replace inna := inna.next hbz
  replace innb := innb.next hbz
  replace inni := inni.next hbz
  replace innj := innj.next hbz
  replace HB := HB.trans (hbz.mono HB.size)
  clear hbz c0 c1 c2
  go_upto_region 12 with (fail)
  go_cut [8, 96] from 83 to 96 (fun _ s wz => s = .bool false ∧ Below y1.heap.size y1 wz)
  case first =>
    rcases hmo : moB q ys with _ | _
    · have hbd := below_dr (Below.refl y1.heap.size y1) (Dr.refl y1).drew
      have o4 := obj_below o4 hbd (obj_lt o4)
      have o6 := obj_below o6 hbd (obj_lt o6)
      have o7 := obj_below o7 hbd (obj_lt o7)
      have o9 := obj_below o9 hbd (obj_lt o9)
      have o11 := obj_below o11 hbd (obj_lt o11)
      have o13 := obj_below o13 hbd (obj_lt o13)
      have id := id.next hbd
      have im := im.next hbd
      have ix := ix.next hbd
      have inna := inna.next hbd
      have innb := innb.next hbd
      have inni := inni.next hbd
      have innj := innj.next hbd
      have hS0 : y1.drew.cell? ⟨x4.heap.size, 0, none⟩ = some (Value.slice aA (moG1 q ys).length aa) ∧ y1.drew.cell? ⟨x4.heap.size, 1, none⟩ = some (Value.slice aB ar.length ab) ∧ y1.drew.cell? ⟨x3.heap.size, 0, none⟩ = some (Value.slice Q q.length qk) ∧ y1.drew.cell? ⟨x3.heap.size, 1, none⟩ = some (Value.slice J ys.length jk) := ⟨(obj_cell o7).trans rfl, (obj_cell o7).trans rfl, (obj_cell o6).trans rfl, (obj_cell o6).trans rfl⟩
      go_wp2_with fail
      refine wp_region_held_drew (S := (fun v => v.cell? ⟨x4.heap.size, 0, none⟩ = some (Value.slice aA (moG1 q ys).length aa) ∧ v.cell? ⟨x4.heap.size, 1, none⟩ = some (Value.slice aB ar.length ab) ∧ v.cell? ⟨x3.heap.size, 0, none⟩ = some (Value.slice Q q.length qk) ∧ v.cell? ⟨x3.heap.size, 1, none⟩ = some (Value.slice J ys.length jk))) (by kernel_rfl) hS0 (fun hHeld => ?_)
      refine wpAnyH_take (i := 0) (oi := _) (v := ?_) rfl (by kernel_rfl) (by kernel_rfl) (by kernel_rfl) (fun _ _ _ h => h) (Or.inl ⟨by rfl, ?_⟩) (by assumption) ?_
      rotate_left
      · intro w hSw
        try dsimp only at hSw
        go_simp
        all_goals with_reducible rfl
      try simp only [Act.put, List.setIfInBounds_toArray, List.set_cons_zero, List.set_cons_succ, List.getElem_toArray, List.getElem_cons_succ, List.getElem_cons_zero]
      refine wpAnyH_take (i := 1) (oi := _) (v := ?_) rfl (by kernel_rfl) (by kernel_rfl) (by kernel_rfl) (fun _ _ _ h => h) (Or.inl ⟨by rfl, ?_⟩) (by assumption) ?_
      rotate_left
      · intro w hSw
        try dsimp only at hSw
        go_simp
        all_goals with_reducible rfl
      try simp only [Act.put, List.setIfInBounds_toArray, List.set_cons_zero, List.set_cons_succ, List.getElem_toArray, List.getElem_cons_succ, List.getElem_cons_zero]
      refine wpAnyH_take (i := 2) (oi := _) (v := undef) rfl (by kernel_rfl) (by kernel_rfl) (by kernel_rfl) (fun _ _ _ h => h) (Or.inr ⟨by rfl, rfl⟩) (by assumption) ?_
      try simp only [Act.put, List.setIfInBounds_toArray, List.set_cons_zero, List.set_cons_succ, List.getElem_toArray, List.getElem_cons_succ, List.getElem_cons_zero]
      refine wpAnyH_take (i := 3) (oi := _) (v := undef) rfl (by kernel_rfl) (by kernel_rfl) (by kernel_rfl) (fun _ _ _ h => h) (Or.inr ⟨by rfl, rfl⟩) (by assumption) ?_
      try simp only [Act.put, List.setIfInBounds_toArray, List.set_cons_zero, List.set_cons_succ, List.getElem_toArray, List.getElem_cons_succ, List.getElem_cons_zero]
      refine wpAnyH_take (i := 4) (oi := _) (v := ?_) rfl (by kernel_rfl) (by kernel_rfl) (by kernel_rfl) (fun _ _ _ h => h) (Or.inl ⟨by rfl, ?_⟩) (by assumption) ?_
      rotate_left
      · intro w hSw
        try dsimp only at hSw
        go_simp
        all_goals with_reducible rfl
      try simp only [Act.put, List.setIfInBounds_toArray, List.set_cons_zero, List.set_cons_succ, List.getElem_toArray, List.getElem_cons_succ, List.getElem_cons_zero]
      refine wpAnyH_take (i := 5) (oi := _) (v := ?_) rfl (by kernel_rfl) (by kernel_rfl) (by kernel_rfl) (fun _ _ _ h => h) (Or.inl ⟨by rfl, ?_⟩) (by assumption) ?_
      rotate_left
      · intro w hSw
        try dsimp only at hSw
        go_simp
        all_goals with_reducible rfl
      try simp only [Act.put, List.setIfInBounds_toArray, List.set_cons_zero, List.set_cons_succ, List.getElem_toArray, List.getElem_cons_succ, List.getElem_cons_zero]
      refine wpAnyH_take (i := 6) (oi := _) (v := undef) rfl (by kernel_rfl) (by kernel_rfl) (by kernel_rfl) (fun _ _ _ h => h) (Or.inr ⟨by rfl, rfl⟩) (by assumption) ?_
      try simp only [Act.put, List.setIfInBounds_toArray, List.set_cons_zero, List.set_cons_succ, List.getElem_toArray, List.getElem_cons_succ, List.getElem_cons_zero]
      refine wpAnyH_take (i := 7) (oi := _) (v := undef) rfl (by kernel_rfl) (by kernel_rfl) (by kernel_rfl) (fun _ _ _ h => h) (Or.inr ⟨by rfl, rfl⟩) (by assumption) ?_
      try simp only [Act.put, List.setIfInBounds_toArray, List.set_cons_zero, List.set_cons_succ, List.getElem_toArray, List.getElem_cons_succ, List.getElem_cons_zero]
      refine wpAnyH_take (i := 8) (oi := _) (v := undef) rfl (by kernel_rfl) (by kernel_rfl) (by kernel_rfl) (fun _ _ _ h => h) (Or.inr ⟨by rfl, rfl⟩) (by assumption) ?_
      try simp only [Act.put, List.setIfInBounds_toArray, List.set_cons_zero, List.set_cons_succ, List.getElem_toArray, List.getElem_cons_succ, List.getElem_cons_zero]
      refine wpAnyH_take (i := 9) (oi := _) (v := undef) rfl (by kernel_rfl) (by kernel_rfl) (by kernel_rfl) (fun _ _ _ h => h) (Or.inr ⟨by rfl, rfl⟩) (by assumption) ?_
      try simp only [Act.put, List.setIfInBounds_toArray, List.set_cons_zero, List.set_cons_succ, List.getElem_toArray, List.getElem_cons_succ, List.getElem_cons_zero]
      refine wpAnyH_take (i := 10) (oi := _) (v := undef) rfl (by kernel_rfl) (by kernel_rfl) (by kernel_rfl) (fun _ _ _ h => h) (Or.inr ⟨by rfl, rfl⟩) (by assumption) ?_
      try simp only [Act.put, List.setIfInBounds_toArray, List.set_cons_zero, List.set_cons_succ, List.getElem_toArray, List.getElem_cons_succ, List.getElem_cons_zero]
      refine wpAnyH_take (i := 11) (oi := _) (v := undef) rfl (by kernel_rfl) (by kernel_rfl) (by kernel_rfl) (fun _ _ _ h => h) (Or.inr ⟨by rfl, rfl⟩) (by assumption) ?_
      try simp only [Act.put, List.setIfInBounds_toArray, List.set_cons_zero, List.set_cons_succ, List.getElem_toArray, List.getElem_cons_succ, List.getElem_cons_zero]
      refine wpAnyH_take (i := 12) (oi := _) (v := undef) rfl (by kernel_rfl) (by kernel_rfl) (by kernel_rfl) (fun _ _ _ h => h) (Or.inr ⟨by rfl, rfl⟩) (by assumption) ?_
      try simp only [Act.put, List.setIfInBounds_toArray, List.set_cons_zero, List.set_cons_succ, List.getElem_toArray, List.getElem_cons_succ, List.getElem_cons_zero]
      refine wpAnyH_take (i := 13) (oi := _) (v := ?_) rfl (by kernel_rfl) (by kernel_rfl) (by kernel_rfl) (fun _ _ _ h => h) (Or.inl ⟨by rfl, ?_⟩) (by assumption) ?_
      rotate_left
      · intro w hSw
        try dsimp only at hSw
        go_simp
        all_goals with_reducible rfl
      try simp only [Act.put, List.setIfInBounds_toArray, List.set_cons_zero, List.set_cons_succ, List.getElem_toArray, List.getElem_cons_succ, List.getElem_cons_zero]
      refine wpAnyH_done (by kernel_rfl) ?_ _
      go_wp2_with fail
      go_meet
      case rel => exact ⟨rfl, hbd⟩
    · have HMO := Lib.hid hmo
      rcases hpd : permB d with _ | _
      · have HPD := Lib.hid hpd
        clear hpd
        have hbd := below_dr (Below.refl y1.heap.size y1) (Dr.refl y1).drew
        have o4 := obj_below o4 hbd (obj_lt o4)
        have o6 := obj_below o6 hbd (obj_lt o6)
        have o7 := obj_below o7 hbd (obj_lt o7)
        have o9 := obj_below o9 hbd (obj_lt o9)
        have o11 := obj_below o11 hbd (obj_lt o11)
        have o13 := obj_below o13 hbd (obj_lt o13)
        have id := id.next hbd
        have im := im.next hbd
        have ix := ix.next hbd
        have inna := inna.next hbd
        have innb := innb.next hbd
        have inni := inni.next hbd
        have innj := innj.next hbd
        have hS0 : y1.drew.cell? ⟨x4.heap.size, 0, none⟩ = some (Value.slice aA (moG1 q ys).length aa) ∧ y1.drew.cell? ⟨x4.heap.size, 1, none⟩ = some (Value.slice aB ar.length ab) ∧ y1.drew.cell? ⟨x3.heap.size, 0, none⟩ = some (Value.slice Q q.length qk) ∧ y1.drew.cell? ⟨x3.heap.size, 1, none⟩ = some (Value.slice J ys.length jk) := ⟨(obj_cell o7).trans rfl, (obj_cell o7).trans rfl, (obj_cell o6).trans rfl, (obj_cell o6).trans rfl⟩
        go_wp2_with fail
        refine wp_region_held_drew (S := (fun v => v.cell? ⟨x4.heap.size, 0, none⟩ = some (Value.slice aA (moG1 q ys).length aa) ∧ v.cell? ⟨x4.heap.size, 1, none⟩ = some (Value.slice aB ar.length ab) ∧ v.cell? ⟨x3.heap.size, 0, none⟩ = some (Value.slice Q q.length qk) ∧ v.cell? ⟨x3.heap.size, 1, none⟩ = some (Value.slice J ys.length jk))) (by kernel_rfl) hS0 (fun hHeld => ?_)
        refine wpAnyH_take (i := 0) (oi := _) (v := ?_) rfl (by kernel_rfl) (by kernel_rfl) (by kernel_rfl) (fun _ _ _ h => h) (Or.inl ⟨by rfl, ?_⟩) (by assumption) ?_
        rotate_left
        · intro w hSw
          try dsimp only at hSw
          go_simp
          all_goals with_reducible rfl
        try simp only [Act.put, List.setIfInBounds_toArray, List.set_cons_zero, List.set_cons_succ, List.getElem_toArray, List.getElem_cons_succ, List.getElem_cons_zero]
        refine wpAnyH_take (i := 1) (oi := _) (v := ?_) rfl (by kernel_rfl) (by kernel_rfl) (by kernel_rfl) (fun _ _ _ h => h) (Or.inl ⟨by rfl, ?_⟩) (by assumption) ?_
        rotate_left
        · intro w hSw
          try dsimp only at hSw
          go_simp
          all_goals with_reducible rfl
        try simp only [Act.put, List.setIfInBounds_toArray, List.set_cons_zero, List.set_cons_succ, List.getElem_toArray, List.getElem_cons_succ, List.getElem_cons_zero]
        refine wpAnyH_take (i := 2) (oi := _) (v := ?_) rfl (by kernel_rfl) (by kernel_rfl) (by kernel_rfl) (fun _ _ _ h => h) (Or.inl ⟨by rfl, ?_⟩) (by assumption) ?_
        rotate_left
        · intro w hSw
          try dsimp only at hSw
          go_simp
          all_goals with_reducible rfl
        try simp only [Act.put, List.setIfInBounds_toArray, List.set_cons_zero, List.set_cons_succ, List.getElem_toArray, List.getElem_cons_succ, List.getElem_cons_zero]
        refine wpAnyH_ready (rs := [3]) (by kernel_rfl) (by simp) ?_
        refine AllReadyH.cons (o := _) rfl (fun K hK => ?_) AllReadyH.nil
        go_simp
        refine Calls.mono (isPerm_sb D dk d _ false id HPD.out) ?_
        rintro e v1 ⟨rfl, hd⟩
        have hb := below_dr (Below.refl y1.drew.heap.size y1.drew) hd
        have o4 := obj_below o4 hb (obj_lt o4)
        have o6 := obj_below o6 hb (obj_lt o6)
        have o7 := obj_below o7 hb (obj_lt o7)
        have o9 := obj_below o9 hb (obj_lt o9)
        have o11 := obj_below o11 hb (obj_lt o11)
        have o13 := obj_below o13 hb (obj_lt o13)
        have id := id.next hb
        have im := im.next hb
        have ix := ix.next hb
        have inna := inna.next hb
        have innb := innb.next hb
        have inni := inni.next hb
        have innj := innj.next hb
        have hbd := hbd.trans (hb.mono hbd.size)
        have hS1 : v1.cell? ⟨x4.heap.size, 0, none⟩ = some (Value.slice aA (moG1 q ys).length aa) ∧ v1.cell? ⟨x4.heap.size, 1, none⟩ = some (Value.slice aB ar.length ab) ∧ v1.cell? ⟨x3.heap.size, 0, none⟩ = some (Value.slice Q q.length qk) ∧ v1.cell? ⟨x3.heap.size, 1, none⟩ = some (Value.slice J ys.length jk) := ⟨(obj_cell o7).trans rfl, (obj_cell o7).trans rfl, (obj_cell o6).trans rfl, (obj_cell o6).trans rfl⟩
        clear hb
        go_wp2_with fail
        refine hK.out _ _ (hS1) (fun hHeld => ?_)
        clear hK K
        try simp only [Act.put, List.setIfInBounds_toArray, List.set_cons_zero, List.set_cons_succ, List.getElem_toArray, List.getElem_cons_succ, List.getElem_cons_zero]
        refine wpAnyH_take (i := 4) (oi := _) (v := ?_) rfl (by kernel_rfl) (by kernel_rfl) (by kernel_rfl) (fun _ _ _ h => h) (Or.inl ⟨by rfl, ?_⟩) (by assumption) ?_
        rotate_left
        · intro w hSw
          try dsimp only at hSw
          go_simp
          all_goals with_reducible rfl
        try simp only [Act.put, List.setIfInBounds_toArray, List.set_cons_zero, List.set_cons_succ, List.getElem_toArray, List.getElem_cons_succ, List.getElem_cons_zero]
        refine wpAnyH_take (i := 5) (oi := _) (v := ?_) rfl (by kernel_rfl) (by kernel_rfl) (by kernel_rfl) (fun _ _ _ h => h) (Or.inl ⟨by rfl, ?_⟩) (by assumption) ?_
        rotate_left
        · intro w hSw
          try dsimp only at hSw
          go_simp
          all_goals with_reducible rfl
        try simp only [Act.put, List.setIfInBounds_toArray, List.set_cons_zero, List.set_cons_succ, List.getElem_toArray, List.getElem_cons_succ, List.getElem_cons_zero]
        refine wpAnyH_take (i := 6) (oi := _) (v := undef) rfl (by kernel_rfl) (by kernel_rfl) (by kernel_rfl) (fun _ _ _ h => h) (Or.inr ⟨by rfl, rfl⟩) (by assumption) ?_
        try simp only [Act.put, List.setIfInBounds_toArray, List.set_cons_zero, List.set_cons_succ, List.getElem_toArray, List.getElem_cons_succ, List.getElem_cons_zero]
        refine wpAnyH_take (i := 7) (oi := _) (v := undef) rfl (by kernel_rfl) (by kernel_rfl) (by kernel_rfl) (fun _ _ _ h => h) (Or.inr ⟨by rfl, rfl⟩) (by assumption) ?_
        try simp only [Act.put, List.setIfInBounds_toArray, List.set_cons_zero, List.set_cons_succ, List.getElem_toArray, List.getElem_cons_succ, List.getElem_cons_zero]
        refine wpAnyH_take (i := 8) (oi := _) (v := undef) rfl (by kernel_rfl) (by kernel_rfl) (by kernel_rfl) (fun _ _ _ h => h) (Or.inr ⟨by rfl, rfl⟩) (by assumption) ?_
        try simp only [Act.put, List.setIfInBounds_toArray, List.set_cons_zero, List.set_cons_succ, List.getElem_toArray, List.getElem_cons_succ, List.getElem_cons_zero]
        refine wpAnyH_take (i := 9) (oi := _) (v := undef) rfl (by kernel_rfl) (by kernel_rfl) (by kernel_rfl) (fun _ _ _ h => h) (Or.inr ⟨by rfl, rfl⟩) (by assumption) ?_
        try simp only [Act.put, List.setIfInBounds_toArray, List.set_cons_zero, List.set_cons_succ, List.getElem_toArray, List.getElem_cons_succ, List.getElem_cons_zero]
        refine wpAnyH_take (i := 10) (oi := _) (v := undef) rfl (by kernel_rfl) (by kernel_rfl) (by kernel_rfl) (fun _ _ _ h => h) (Or.inr ⟨by rfl, rfl⟩) (by assumption) ?_
        try simp only [Act.put, List.setIfInBounds_toArray, List.set_cons_zero, List.set_cons_succ, List.getElem_toArray, List.getElem_cons_succ, List.getElem_cons_zero]
        refine wpAnyH_take (i := 11) (oi := _) (v := undef) rfl (by kernel_rfl) (by kernel_rfl) (by kernel_rfl) (fun _ _ _ h => h) (Or.inr ⟨by rfl, rfl⟩) (by assumption) ?_
        try simp only [Act.put, List.setIfInBounds_toArray, List.set_cons_zero, List.set_cons_succ, List.getElem_toArray, List.getElem_cons_succ, List.getElem_cons_zero]
        refine wpAnyH_take (i := 12) (oi := _) (v := undef) rfl (by kernel_rfl) (by kernel_rfl) (by kernel_rfl) (fun _ _ _ h => h) (Or.inr ⟨by rfl, rfl⟩) (by assumption) ?_
        try simp only [Act.put, List.setIfInBounds_toArray, List.set_cons_zero, List.set_cons_succ, List.getElem_toArray, List.getElem_cons_succ, List.getElem_cons_zero]
        refine wpAnyH_take (i := 13) (oi := _) (v := ?_) rfl (by kernel_rfl) (by kernel_rfl) (by kernel_rfl) (fun _ _ _ h => h) (Or.inl ⟨by rfl, ?_⟩) (by assumption) ?_
        rotate_left
        · intro w hSw
          try dsimp only at hSw
          go_simp
          all_goals with_reducible rfl
        try simp only [Act.put, List.setIfInBounds_toArray, List.set_cons_zero, List.set_cons_succ, List.getElem_toArray, List.getElem_cons_succ, List.getElem_cons_zero]
        refine wpAnyH_done (by kernel_rfl) ?_ _
        go_wp2_with fail
        go_meet
        case rel => exact ⟨rfl, hbd⟩
      · have HPD := Lib.hid hpd
        clear hpd
        obtain ⟨Q3, hQ3⟩ : ∃ Q, cnG d q ys = Q := ⟨_, rfl⟩
        have HQ3 := Lib.hid hQ3
        have HQ4 := Lib.hid (show cmG d (moG1 q ys) (ar.map Row.xs) = Q3 by rw [Ha.out, ← hQ3]; exact mesh_near HPD.out HMO.out)
        have c3 : (Q3 != Q3) = false := by simp
        clear hQ3
        have hbd := below_dr (Below.refl y1.heap.size y1) (Dr.refl y1).drew
        have o4 := obj_below o4 hbd (obj_lt o4)
        have o6 := obj_below o6 hbd (obj_lt o6)
        have o7 := obj_below o7 hbd (obj_lt o7)
        have o9 := obj_below o9 hbd (obj_lt o9)
        have o11 := obj_below o11 hbd (obj_lt o11)
        have o13 := obj_below o13 hbd (obj_lt o13)
        have id := id.next hbd
        have im := im.next hbd
        have ix := ix.next hbd
        have inna := inna.next hbd
        have innb := innb.next hbd
        have inni := inni.next hbd
        have innj := innj.next hbd
        have hS0 : y1.drew.cell? ⟨x4.heap.size, 0, none⟩ = some (Value.slice aA (moG1 q ys).length aa) ∧ y1.drew.cell? ⟨x4.heap.size, 1, none⟩ = some (Value.slice aB ar.length ab) ∧ y1.drew.cell? ⟨x3.heap.size, 0, none⟩ = some (Value.slice Q q.length qk) ∧ y1.drew.cell? ⟨x3.heap.size, 1, none⟩ = some (Value.slice J ys.length jk) := ⟨(obj_cell o7).trans rfl, (obj_cell o7).trans rfl, (obj_cell o6).trans rfl, (obj_cell o6).trans rfl⟩
        go_wp2_with fail
        refine wp_region_held_drew (S := (fun v => v.cell? ⟨x4.heap.size, 0, none⟩ = some (Value.slice aA (moG1 q ys).length aa) ∧ v.cell? ⟨x4.heap.size, 1, none⟩ = some (Value.slice aB ar.length ab) ∧ v.cell? ⟨x3.heap.size, 0, none⟩ = some (Value.slice Q q.length qk) ∧ v.cell? ⟨x3.heap.size, 1, none⟩ = some (Value.slice J ys.length jk))) (by kernel_rfl) hS0 (fun hHeld => ?_)
        refine wpAnyH_take (i := 0) (oi := _) (v := ?_) rfl (by kernel_rfl) (by kernel_rfl) (by kernel_rfl) (fun _ _ _ h => h) (Or.inl ⟨by rfl, ?_⟩) (by assumption) ?_
        rotate_left
        · intro w hSw
          try dsimp only at hSw
          go_simp
          all_goals with_reducible rfl
        try simp only [Act.put, List.setIfInBounds_toArray, List.set_cons_zero, List.set_cons_succ, List.getElem_toArray, List.getElem_cons_succ, List.getElem_cons_zero]
        refine wpAnyH_take (i := 1) (oi := _) (v := ?_) rfl (by kernel_rfl) (by kernel_rfl) (by kernel_rfl) (fun _ _ _ h => h) (Or.inl ⟨by rfl, ?_⟩) (by assumption) ?_
        rotate_left
        · intro w hSw
          try dsimp only at hSw
          go_simp
          all_goals with_reducible rfl
        try simp only [Act.put, List.setIfInBounds_toArray, List.set_cons_zero, List.set_cons_succ, List.getElem_toArray, List.getElem_cons_succ, List.getElem_cons_zero]
        refine wpAnyH_take (i := 2) (oi := _) (v := ?_) rfl (by kernel_rfl) (by kernel_rfl) (by kernel_rfl) (fun _ _ _ h => h) (Or.inl ⟨by rfl, ?_⟩) (by assumption) ?_
        rotate_left
        · intro w hSw
          try dsimp only at hSw
          go_simp
          all_goals with_reducible rfl
        try simp only [Act.put, List.setIfInBounds_toArray, List.set_cons_zero, List.set_cons_succ, List.getElem_toArray, List.getElem_cons_succ, List.getElem_cons_zero]
        refine wpAnyH_ready (rs := [3]) (by kernel_rfl) (by simp) ?_
        refine AllReadyH.cons (o := _) rfl (fun K hK => ?_) AllReadyH.nil
        go_simp
        refine Calls.mono (isPerm_sb D dk d _ true id HPD.out) ?_
        rintro e v1 ⟨rfl, hd⟩
        have hb := below_dr (Below.refl y1.drew.heap.size y1.drew) hd
        have o4 := obj_below o4 hb (obj_lt o4)
        have o6 := obj_below o6 hb (obj_lt o6)
        have o7 := obj_below o7 hb (obj_lt o7)
        have o9 := obj_below o9 hb (obj_lt o9)
        have o11 := obj_below o11 hb (obj_lt o11)
        have o13 := obj_below o13 hb (obj_lt o13)
        have id := id.next hb
        have im := im.next hb
        have ix := ix.next hb
        have inna := inna.next hb
        have innb := innb.next hb
        have inni := inni.next hb
        have innj := innj.next hb
        have hbd := hbd.trans (hb.mono hbd.size)
        have hS1 : v1.cell? ⟨x4.heap.size, 0, none⟩ = some (Value.slice aA (moG1 q ys).length aa) ∧ v1.cell? ⟨x4.heap.size, 1, none⟩ = some (Value.slice aB ar.length ab) ∧ v1.cell? ⟨x3.heap.size, 0, none⟩ = some (Value.slice Q q.length qk) ∧ v1.cell? ⟨x3.heap.size, 1, none⟩ = some (Value.slice J ys.length jk) := ⟨(obj_cell o7).trans rfl, (obj_cell o7).trans rfl, (obj_cell o6).trans rfl, (obj_cell o6).trans rfl⟩
        clear hb
        go_wp2_with fail
        refine hK.out _ _ (hS1) (fun hHeld => ?_)
        clear hK K
        try simp only [Act.put, List.setIfInBounds_toArray, List.set_cons_zero, List.set_cons_succ, List.getElem_toArray, List.getElem_cons_succ, List.getElem_cons_zero]
        refine wpAnyH_take (i := 4) (oi := _) (v := ?_) rfl (by kernel_rfl) (by kernel_rfl) (by kernel_rfl) (fun _ _ _ h => h) (Or.inl ⟨by rfl, ?_⟩) (by assumption) ?_
        rotate_left
        · intro w hSw
          try dsimp only at hSw
          go_simp
          all_goals with_reducible rfl
        try simp only [Act.put, List.setIfInBounds_toArray, List.set_cons_zero, List.set_cons_succ, List.getElem_toArray, List.getElem_cons_succ, List.getElem_cons_zero]
        refine wpAnyH_take (i := 5) (oi := _) (v := ?_) rfl (by kernel_rfl) (by kernel_rfl) (by kernel_rfl) (fun _ _ _ h => h) (Or.inl ⟨by rfl, ?_⟩) (by assumption) ?_
        rotate_left
        · intro w hSw
          try dsimp only at hSw
          go_simp
          all_goals with_reducible rfl
        try simp only [Act.put, List.setIfInBounds_toArray, List.set_cons_zero, List.set_cons_succ, List.getElem_toArray, List.getElem_cons_succ, List.getElem_cons_zero]
        refine wpAnyH_take (i := 6) (oi := _) (v := ?_) rfl (by kernel_rfl) (by kernel_rfl) (by kernel_rfl) (fun _ _ _ h => h) (Or.inl ⟨by rfl, ?_⟩) (by assumption) ?_
        rotate_left
        · intro w hSw
          try dsimp only at hSw
          go_simp
          all_goals with_reducible rfl
        try simp only [Act.put, List.setIfInBounds_toArray, List.set_cons_zero, List.set_cons_succ, List.getElem_toArray, List.getElem_cons_succ, List.getElem_cons_zero]
        refine wpAnyH_take (i := 7) (oi := _) (v := ?_) rfl (by kernel_rfl) (by kernel_rfl) (by kernel_rfl) (fun _ _ _ h => h) (Or.inl ⟨by rfl, ?_⟩) (by assumption) ?_
        rotate_left
        · intro w hSw
          try dsimp only at hSw
          go_simp
          all_goals with_reducible rfl
        try simp only [Act.put, List.setIfInBounds_toArray, List.set_cons_zero, List.set_cons_succ, List.getElem_toArray, List.getElem_cons_succ, List.getElem_cons_zero]
        refine wpAnyH_take (i := 9) (oi := _) (v := ?_) rfl (by kernel_rfl) (by kernel_rfl) (by kernel_rfl) (fun _ _ _ h => h) (Or.inl ⟨by rfl, ?_⟩) (by assumption) ?_
        rotate_left
        · intro w hSw
          try dsimp only at hSw
          go_simp
          all_goals with_reducible rfl
        try simp only [Act.put, List.setIfInBounds_toArray, List.set_cons_zero, List.set_cons_succ, List.getElem_toArray, List.getElem_cons_succ, List.getElem_cons_zero]
        refine wpAnyH_take (i := 10) (oi := _) (v := ?_) rfl (by kernel_rfl) (by kernel_rfl) (by kernel_rfl) (fun _ _ _ h => h) (Or.inl ⟨by rfl, ?_⟩) (by assumption) ?_
        rotate_left
        · intro w hSw
          try dsimp only at hSw
          go_simp
          all_goals with_reducible rfl
        try simp only [Act.put, List.setIfInBounds_toArray, List.set_cons_zero, List.set_cons_succ, List.getElem_toArray, List.getElem_cons_succ, List.getElem_cons_zero]
        refine wpAnyH_ready (rs := [8]) (by kernel_rfl) (by simp) ?_
        refine AllReadyH.cons (o := _) rfl (fun K hK => ?_) AllReadyH.nil
        go_simp
        refine Calls.mono (countMesh_iq D dk d aA aB aa ab _ ar _ id inna HQ4.out) ?_
        rintro e v2 ⟨rfl, hb⟩
        have o4 := obj_below o4 hb (obj_lt o4)
        have o6 := obj_below o6 hb (obj_lt o6)
        have o7 := obj_below o7 hb (obj_lt o7)
        have o9 := obj_below o9 hb (obj_lt o9)
        have o11 := obj_below o11 hb (obj_lt o11)
        have o13 := obj_below o13 hb (obj_lt o13)
        have id := id.next hb
        have im := im.next hb
        have ix := ix.next hb
        have inna := inna.next hb
        have innb := innb.next hb
        have inni := inni.next hb
        have innj := innj.next hb
        have hbd := hbd.trans (hb.mono hbd.size)
        have hS2 : v2.cell? ⟨x4.heap.size, 0, none⟩ = some (Value.slice aA (moG1 q ys).length aa) ∧ v2.cell? ⟨x4.heap.size, 1, none⟩ = some (Value.slice aB ar.length ab) ∧ v2.cell? ⟨x3.heap.size, 0, none⟩ = some (Value.slice Q q.length qk) ∧ v2.cell? ⟨x3.heap.size, 1, none⟩ = some (Value.slice J ys.length jk) := ⟨(obj_cell o7).trans rfl, (obj_cell o7).trans rfl, (obj_cell o6).trans rfl, (obj_cell o6).trans rfl⟩
        clear hb
        go_wp2_with fail
        refine hK.out _ _ (hS2) (fun hHeld => ?_)
        clear hK K
        try simp only [Act.put, List.setIfInBounds_toArray, List.set_cons_zero, List.set_cons_succ, List.getElem_toArray, List.getElem_cons_succ, List.getElem_cons_zero]
        refine wpAnyH_ready (rs := [11]) (by kernel_rfl) (by simp) ?_
        refine AllReadyH.cons (o := _) rfl (fun K hK => ?_) AllReadyH.nil
        go_simp
        refine Calls.mono (countNear_sq D dk d Q J qk jk q ys _ id ix HQ3.out) ?_
        rintro e v3 ⟨rfl, hb⟩
        have o4 := obj_below o4 hb (obj_lt o4)
        have o6 := obj_below o6 hb (obj_lt o6)
        have o7 := obj_below o7 hb (obj_lt o7)
        have o9 := obj_below o9 hb (obj_lt o9)
        have o11 := obj_below o11 hb (obj_lt o11)
        have o13 := obj_below o13 hb (obj_lt o13)
        have id := id.next hb
        have im := im.next hb
        have ix := ix.next hb
        have inna := inna.next hb
        have innb := innb.next hb
        have inni := inni.next hb
        have innj := innj.next hb
        have hbd := hbd.trans (hb.mono hbd.size)
        have hS3 : v3.cell? ⟨x4.heap.size, 0, none⟩ = some (Value.slice aA (moG1 q ys).length aa) ∧ v3.cell? ⟨x4.heap.size, 1, none⟩ = some (Value.slice aB ar.length ab) ∧ v3.cell? ⟨x3.heap.size, 0, none⟩ = some (Value.slice Q q.length qk) ∧ v3.cell? ⟨x3.heap.size, 1, none⟩ = some (Value.slice J ys.length jk) := ⟨(obj_cell o7).trans rfl, (obj_cell o7).trans rfl, (obj_cell o6).trans rfl, (obj_cell o6).trans rfl⟩
        clear hb
        go_wp2_with fail
        refine hK.out _ _ (hS3) (fun hHeld => ?_)
        clear hK K
        try simp only [Act.put, List.setIfInBounds_toArray, List.set_cons_zero, List.set_cons_succ, List.getElem_toArray, List.getElem_cons_succ, List.getElem_cons_zero]
        refine wpAnyH_take (i := 12) (oi := _) (v := ?_) rfl (by kernel_rfl) (by kernel_rfl) (by kernel_rfl) (fun _ _ _ h => h) (Or.inl ⟨by rfl, ?_⟩) (by assumption) ?_
        rotate_left
        · intro w hSw
          try dsimp only at hSw
          go_simp
          all_goals with_reducible rfl
        try simp only [Act.put, List.setIfInBounds_toArray, List.set_cons_zero, List.set_cons_succ, List.getElem_toArray, List.getElem_cons_succ, List.getElem_cons_zero]
        refine wpAnyH_take (i := 13) (oi := _) (v := ?_) rfl (by kernel_rfl) (by kernel_rfl) (by kernel_rfl) (fun _ _ _ h => h) (Or.inl ⟨by rfl, ?_⟩) (by assumption) ?_
        rotate_left
        · intro w hSw
          try dsimp only at hSw
          go_simp
          all_goals with_reducible rfl
        try simp only [Act.put, List.setIfInBounds_toArray, List.set_cons_zero, List.set_cons_succ, List.getElem_toArray, List.getElem_cons_succ, List.getElem_cons_zero]
        refine wpAnyH_done (by kernel_rfl) ?_ _
        go_wp2_with fail
        go_meet
        case rel => exact ⟨rfl, hbd⟩
  obtain ⟨rfl, hbz⟩ := hcut
  obtain ⟨y2, rfl⟩ : ∃ w', w' = wc := ⟨_, rfl⟩
  replace o4 := obj_below o4 hbz (obj_lt o4)
  replace o6 := obj_below o6 hbz (obj_lt o6)
  replace o7 := obj_below o7 hbz (obj_lt o7)
  replace o9 := obj_below o9 hbz (obj_lt o9)
  replace o11 := obj_below o11 hbz (obj_lt o11)
  replace o13 := obj_below o13 hbz (obj_lt o13)
  replace id := id.next hbz
  replace im := im.next hbz
  replace ix := ix.next hbz
  replace inna := inna.next hbz
  replace innb := innb.next hbz
  replace inni := inni.next hbz
  replace innj := innj.next hbz
  replace HB := HB.trans (hbz.mono HB.size)
  clear hbz
  by_cases hneg : cmG d p (rs.map Row.xs) < 0
  · go_wp2_with fail
    go_ret
    exact ⟨rfl, HB⟩
  have HPM : Hid (permB d = true ∧ meshB p (rs.map Row.xs) = true) := Lib.hid (by
    apply Classical.byContradiction
    intro h
    rw [cmG, if_neg h] at hneg
    exact hneg (by omega))
  have HC : Hid (Calls Try.prog 21 #[.slice D d.length dk] y2 (Ret2 (Value.int .i64) 3 y2 (invL d) true)) := Lib.hid (by
    have h := inversePerm_spec D dk d y2 id
    rwa [HPM.out.1, show invG1 d = invL d by rw [invG1, if_pos HPM.out.1]] at h)
  go_wp2_with fail
  (with_reducible refine HC.out.mono ?_)
  rintro e y3 ⟨U, uk, rfl, _, _, ho, hb⟩
  have hil : (invL d).length ≤ 9 := by rw [invL_length]; exact hd9
  have iu := In.of_own ho (by omega)
  clear ho HC
  replace o4 := obj_below o4 hb (obj_lt o4)
  replace o6 := obj_below o6 hb (obj_lt o6)
  replace o7 := obj_below o7 hb (obj_lt o7)
  replace o9 := obj_below o9 hb (obj_lt o9)
  replace o11 := obj_below o11 hb (obj_lt o11)
  replace o13 := obj_below o13 hb (obj_lt o13)
  replace id := id.next hb
  replace im := im.next hb
  replace ix := ix.next hb
  replace inna := inna.next hb
  replace innb := innb.next hb
  replace inni := inni.next hb
  replace innj := innj.next hb
  replace HB := HB.trans (hb.mono HB.size)
  clear hb
  have hle : cmG d p (rs.map Row.xs) ≤ cpG d p := mesh_fewer HPM.out.1 HPM.out.2
  obtain ⟨Q5, hQ5⟩ : ∃ Q, cpG d p = Q := ⟨_, rfl⟩
  have HCP := Lib.hid (show ∀ (w : World), In w D dk d → In w P pk p → Calls Try.prog 22 #[.slice D d.length dk, .slice P p.length pk] w (Rb w (.int .i64 Q5)) from fun w h1 h2 => by rw [← hQ5]; exact countPattern_spec D P dk pk d p w h1 h2)
  rw [hQ5] at hle
  clear hQ5
  have f0o4 : y3.cell? ⟨x1.heap.size, 0, none⟩ = some (Value.slice P p.length pk) := (obj_cell o4).trans rfl
  have f1o4 : y3.cell? ⟨x1.heap.size, 1, none⟩ = some (Value.slice S rs.length sk) := (obj_cell o4).trans rfl
  have HC := Lib.hid (HCP.out y3 id im.1)
  go_wp2_with fail
  (with_reducible refine HC.out.mono ?_)
  rintro e x41 ⟨rfl, hb⟩
  clear HC
  replace o4 := obj_below o4 hb (obj_lt o4)
  replace o6 := obj_below o6 hb (obj_lt o6)
  replace o7 := obj_below o7 hb (obj_lt o7)
  replace o9 := obj_below o9 hb (obj_lt o9)
  replace o11 := obj_below o11 hb (obj_lt o11)
  replace o13 := obj_below o13 hb (obj_lt o13)
  replace id := id.next hb
  replace im := im.next hb
  replace ix := ix.next hb
  replace inna := inna.next hb
  replace innb := innb.next hb
  replace inni := inni.next hb
  replace innj := innj.next hb
  replace iu := iu.next hb
  replace HB := HB.trans (hb.mono HB.size)
  clear hb
  clear f0o4 f1o4
  have f0o11 : x41.cell? ⟨x6.heap.size, 0, none⟩ = some (Value.slice iA (imG1 p (rs.map Row.xs)).length ia) := (obj_cell o11).trans rfl
  have f1o11 : x41.cell? ⟨x6.heap.size, 1, none⟩ = some (Value.slice iB ir.length ib) := (obj_cell o11).trans rfl
  have HC := Lib.hid (countMesh_iq (Q := cmG d p (rs.map Row.xs)) U uk (invL d) iA iB ia ib _ ir x41 iu inni (by rw [Hi.out]; exact mesh_turned HPM.out.1 HPM.out.2))
  go_wp2_with fail
  (with_reducible refine HC.out.mono ?_)
  rintro e x42 ⟨rfl, hb⟩
  clear HC
  replace o4 := obj_below o4 hb (obj_lt o4)
  replace o6 := obj_below o6 hb (obj_lt o6)
  replace o7 := obj_below o7 hb (obj_lt o7)
  replace o9 := obj_below o9 hb (obj_lt o9)
  replace o11 := obj_below o11 hb (obj_lt o11)
  replace o13 := obj_below o13 hb (obj_lt o13)
  replace id := id.next hb
  replace im := im.next hb
  replace ix := ix.next hb
  replace inna := inna.next hb
  replace innb := innb.next hb
  replace inni := inni.next hb
  replace innj := innj.next hb
  replace iu := iu.next hb
  replace HB := HB.trans (hb.mono HB.size)
  clear hb
  clear f0o11 f1o11
  have c5 : (cmG d p (rs.map Row.xs) == cmG d p (rs.map Row.xs)) = true := by simp
  go_wp2_with fail
  go_ret
  exact ⟨rfl, HB⟩
end Go.Proofs.Ythipikllgpnlhaa

/- What the arguments of a law read as: from the form's own reading to the words of Base. -/
namespace Go.Proofs.Ythipikllgpnlhaa
set_option maxRecDepth 100000
open Go Go.RowKit Go.ChangeShapes Go.WideShapes Go.ChangeAt

theorem ownK : ownKnob Try.prog.godebug = none := by kernel_rfl
theorem wf_i64_bounds {n : Int} (h : (Lit.int .i64 n).wf = true) : -9223372036854775808 ≤ n ∧ n ≤ 9223372036854775807 := by
  have hmin : IntKind.i64.min = -9223372036854775808 := rfl
  have hmax : IntKind.i64.max = 9223372036854775807 := rfl
  simp only [Lit.wf, Bool.and_eq_true, decide_eq_true_eq] at h
  omega
theorem cells_int : Try.prog.cellsOf 3 = 1 := by kernel_rfl
theorem cells_ints : Try.prog.cellsOf 24 = 1 := by kernel_rfl
theorem cells_u8 : Try.prog.cellsOf 5 = 1 := by kernel_rfl
theorem laidOutK : laidOutB Try.prog = true := by kernel_rfl

section
variable {H : Type} {enc : TypeId × Value → H} {P : Program} {W : World} {base : Nat}

/-- A slice of whole numbers that came in, nil or not, reads as a list. -/
theorem open_intsR {t e : TypeId} {k : IntKind} {v : Value} {d : DataW H} {ps : List MemPlace} (ht : P.underlying t = some (.slice e)) (he : P.underlying e = some (.int k)) (ce : P.cellsOf e = 1)
    (hv : Value.okWide P W .any base t v) (h : DataW.Trod enc P W 0 (fun _ => true) true t v d ps) :
    ∃ (A : Option Addr) (xs : List Int) (c : Nat), v = .slice A xs.length c ∧ xs.length ≤ c ∧ c ≤ maxLen ∧ Rd (Value.int k) W W.heap.size A xs ∧ ∀ n ∈ xs, (Lit.int k n).wf = true := by
  obtain ⟨a0, len, cap, rfl⟩ := okWide_slice ht hv
  obtain ⟨fuel, hf⟩ := h
  rcases open_ints ht he ce hf with ⟨hcs, hx⟩ | ⟨a, len', cap', zs, hcs, _, hl, hm, hz, hx, hcell, hwz⟩
  · simp [Value.cells] at hcs
    obtain ⟨rfl, rfl, rfl⟩ := hcs
    exact ⟨none, [], 0, rfl, Nat.le_refl _, Nat.zero_le _, Rd.nil_, by simp⟩
  · simp [Value.cells] at hcs
    obtain ⟨rfl, rfl, rfl⟩ := hcs
    simp only [if_true] at hz
    have hlen : (zs.take len).length = len := by rw [List.length_take]; omega
    refine ⟨some a, zs.take len, cap, by rw [hlen], by omega, hm, fun h0 => ?_, fun n hn => hwz n (List.mem_of_mem_take hn)⟩
    rw [hlen] at h0
    obtain ⟨b, off, spot⟩ := a
    have hc0 := hcell 0 (by omega)
    have hspot : spot = none := by simpa [Addr.add] using World.cell?_spot hc0
    subst hspot
    refine ⟨b, off, rfl, ?_, fun j hj => ?_⟩
    · have := block_lt_of_cell hc0
      simpa [Addr.add] using this
    · have := hcell j (by omega)
      rw [add_plain] at this
      rw [this]
      simp [List.getD, show j < zs.length by omega]
end
end Go.Proofs.Ythipikllgpnlhaa
