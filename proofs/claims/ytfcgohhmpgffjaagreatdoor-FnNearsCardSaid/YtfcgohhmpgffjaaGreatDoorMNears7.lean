/- Several texts in one, each with its own head: D10, Y1, X1, Y2, Y3, Y4, OC2, OC4, OC5, OC6. No program of ours. -/
import Derived.Deep.RegionHeld3
import Derived.Lib.SliceRun
import Derived.Test.YtfcgohhmpgffjaaGreatDoorShelf
import Derived.Lib.OwnBridge
import Derived.Shelf.SlSortCmp.NoneTotal
import Derived.Test.YtfcgohhmpgffjaaGreatDoorMNears6
/- l1Turned, DrawParseNear. -/
namespace Go.Proofs.YtfcgohhmpgffjaaGreatDoor
set_option maxRecDepth 100000
open Go Go.RowKit

set_option maxHeartbeats 2000000 in
theorem l1Turned_any (w : World) (q : Nat) (A : Option Addr) (c : Nat) (bs : List Int) (s : ByteArray) (hs : s.size ≤ 100000) (b n k : Nat) (xs : List ByteArray) (hnl : xs.length = n) (h0 : 0 < xs.length) (hl : xs.length ≤ 256) (hb : b ≠ q) (hbw : b < w.heap.size)
    (hx1 : ∀ t ∈ xs, t.size ≤ 1) (hr : ∀ j (h : j < xs.length), w.cell? ⟨b, j, none⟩ = some (.string xs[j])) (hc : Cur w q A c bs) :
    Calls Tryz.prog 31 #[.pointer (some ⟨q, 0, none⟩), .string s, .slice (some ⟨b, 0, none⟩) n k] w (fun en w' => ∃ t : ByteArray, en = .returned (.string t) ∧ t.size ≤ s.size + 1 ∧ Drawn w w' q A c bs) := by
  have e0 : IntKind.i64.wrap ((s.size : Int) + 1) = (s.size : Int) + 1 := IntWalk.i64_in _ (by omega)
  have HC := Lib.hid (l1Below_any w q A c bs ((s.size : Int) + 1) (by omega) hc)
  go_enter Tryz.func31, Tryz.ntmps31
  go_wp2_with fail
  (with_reducible refine HC.out.mono ?_)
  rintro e w1 ⟨x, rfl, hx, k1⟩
  have hx2 : 0 ≤ x ∧ x ≤ s.size := by have := hx.2.1 (by omega); omega
  obtain ⟨m, rfl⟩ := Int.eq_ofNat_of_zero_le hx2.1
  have hm : m ≤ s.size := by omega
  have HD := Lib.hid (l1Below_any w1 q A c bs 6 (by omega) k1.cur)
  clear HC hx hx2
  go_wp2_with fail
  (with_reducible refine HD.out.mono ?_)
  rintro e w2 ⟨y, rfl, hy, k2⟩
  have k2 := k1.trans k2
  clear HD
  by_cases hy0 : y = 0
  · subst hy0
    go_wp2_with fail
    have HR := Lib.hid (show ∀ j (h : j < xs.length), w2.drew.cell? ⟨b, j, none⟩ = some (.string xs[j]) from fun j h => by
      have h1 : w2.heap[b]? = w.heap[b]? := k2.span.block b hbw (by omega)
      have h2 : w2.cell? ⟨b, j, none⟩ = some (.string xs[j]) := by rw [← hr j h]; exact World.cell?_of_block h1
      exact ((Dr.refl w2).drew.cell _).trans h2)
    have hszb : b < w2.drew.heap.size := by have := k2.span.size; simp; omega
    have m0 : (0 : Int) ≤ (m : Int) := by omega
    have m1 : (m : Int) ≤ (s.size : Int) := by omega
    refine wp_region_held_drew (S := fun _ => True) (by kernel_rfl) trivial (fun hHeld => ?_)
    refine wpAnyH_take (i := 0) (oi := _) (v := ?_) rfl (by kernel_rfl) (by kernel_rfl) (by kernel_rfl) (fun _ _ _ h => h) (Or.inl ⟨by rfl, ?_⟩) (by assumption) ?_
    rotate_left
    · intro w hSw
      try dsimp only at hSw
      go_simp
      all_goals with_reducible rfl
    try simp only [Act.put, List.setIfInBounds_toArray, List.set_cons_zero, List.set_cons_succ, List.getElem_toArray, List.getElem_cons_succ, List.getElem_cons_zero]
    refine wpAnyH_take (i := 1) (oi := _) (v := ?_) rfl (by kernel_rfl) (by kernel_rfl) (by kernel_rfl) (fun _ _ _ h => h) (Or.inl ⟨by rfl, ?_⟩) (by assumption) ?_
    rotate_left
    · intro w hSw
      try dsimp only at hSw
      go_simp
      all_goals with_reducible rfl
    try simp only [Act.put, List.setIfInBounds_toArray, List.set_cons_zero, List.set_cons_succ, List.getElem_toArray, List.getElem_cons_succ, List.getElem_cons_zero]
    refine wpAnyH_take (i := 2) (oi := _) (v := ?_) rfl (by kernel_rfl) (by kernel_rfl) (by kernel_rfl) (fun _ _ _ h => h) (Or.inl ⟨by rfl, ?_⟩) (by assumption) ?_
    rotate_left
    · intro w hSw
      try dsimp only at hSw
      go_simp
      all_goals with_reducible rfl
    try simp only [Act.put, List.setIfInBounds_toArray, List.set_cons_zero, List.set_cons_succ, List.getElem_toArray, List.getElem_cons_succ, List.getElem_cons_zero]
    refine wpAnyH_take (i := 3) (oi := _) (v := ?_) rfl (by kernel_rfl) (by kernel_rfl) (by kernel_rfl) (fun _ _ _ h => h) (Or.inl ⟨by rfl, ?_⟩) (by assumption) ?_
    rotate_left
    · intro w hSw
      try dsimp only at hSw
      go_simp
      all_goals with_reducible rfl
    try simp only [Act.put, List.setIfInBounds_toArray, List.set_cons_zero, List.set_cons_succ, List.getElem_toArray, List.getElem_cons_succ, List.getElem_cons_zero]
    refine wpAnyH_take (i := 4) (oi := _) (v := ?_) rfl (by kernel_rfl) (by kernel_rfl) (by kernel_rfl) (fun _ _ _ h => h) (Or.inl ⟨by rfl, ?_⟩) (by assumption) ?_
    rotate_left
    · intro w hSw
      try dsimp only at hSw
      go_simp
      all_goals with_reducible rfl
    try simp only [Act.put, List.setIfInBounds_toArray, List.set_cons_zero, List.set_cons_succ, List.getElem_toArray, List.getElem_cons_succ, List.getElem_cons_zero]
    refine wpAnyH_take (i := 7) (oi := _) (v := ?_) rfl (by kernel_rfl) (by kernel_rfl) (by kernel_rfl) (fun _ _ _ h => h) (Or.inl ⟨by rfl, ?_⟩) (by assumption) ?_
    rotate_left
    · intro w hSw
      try dsimp only at hSw
      go_simp
      all_goals with_reducible rfl
    try simp only [Act.put, List.setIfInBounds_toArray, List.set_cons_zero, List.set_cons_succ, List.getElem_toArray, List.getElem_cons_succ, List.getElem_cons_zero]
    refine wpAnyH_take (i := 8) (oi := _) (v := ?_) rfl (by kernel_rfl) (by kernel_rfl) (by kernel_rfl) (fun _ _ _ h => h) (Or.inl ⟨by rfl, ?_⟩) (by assumption) ?_
    rotate_left
    · intro w hSw
      try dsimp only at hSw
      go_simp
      all_goals with_reducible rfl
    try simp only [Act.put, List.setIfInBounds_toArray, List.set_cons_zero, List.set_cons_succ, List.getElem_toArray, List.getElem_cons_succ, List.getElem_cons_zero]
    refine wpAnyH_take (i := 9) (oi := _) (v := ?_) rfl (by kernel_rfl) (by kernel_rfl) (by kernel_rfl) (fun _ _ _ h => h) (Or.inl ⟨by rfl, ?_⟩) (by assumption) ?_
    rotate_left
    · intro w hSw
      try dsimp only at hSw
      go_simp
      all_goals with_reducible rfl
    try simp only [Act.put, List.setIfInBounds_toArray, List.set_cons_zero, List.set_cons_succ, List.getElem_toArray, List.getElem_cons_succ, List.getElem_cons_zero]
    refine wpAnyH_ready (rs := [5]) (by kernel_rfl) (by simp) ?_
    refine AllReadyH.cons (o := _) rfl (fun K hK => ?_) AllReadyH.nil
    go_simp
    refine Calls.mono (l1PickS_any w2.drew q A c bs b n k xs hnl h0 hl hb hszb HR.out (k2.cur.dr (Dr.refl w2).drew)) ?_
    rintro e wb ⟨t, rfl, ht, ka⟩
    have kd := (k2.dr (Dr.refl w2).drew).trans ka
    have ht1 := hx1 t ht
    have z1 : ¬ (9223372036854775807 < m + t.size) := by omega
    have z2 : ¬ (9223372036854775807 < m + t.size + (s.size - m)) := by omega
    have z3 : ¬ (9223372036854775807 < (s.extract 0 m ++ t).size + (s.extract m s.size).size) := by rw [ByteArray.size_append, ByteArray.size_extract, ByteArray.size_extract]; omega
    go_wp2_with fail
    refine hK.out _ _ (trivial) (fun hHeld => ?_)
    clear hK K
    try simp only [Act.put, List.setIfInBounds_toArray, List.set_cons_zero, List.set_cons_succ, List.getElem_toArray, List.getElem_cons_succ, List.getElem_cons_zero]
    refine wpAnyH_take (i := 6) (oi := _) (v := ?_) rfl (by kernel_rfl) (by kernel_rfl) (by kernel_rfl) (fun _ _ _ h => h) (Or.inl ⟨by rfl, ?_⟩) (by assumption) ?_
    rotate_left
    · intro w hSw
      try dsimp only at hSw
      go_simp
      all_goals with_reducible rfl
    try simp only [Act.put, List.setIfInBounds_toArray, List.set_cons_zero, List.set_cons_succ, List.getElem_toArray, List.getElem_cons_succ, List.getElem_cons_zero]
    refine wpAnyH_take (i := 10) (oi := _) (v := ?_) rfl (by kernel_rfl) (by kernel_rfl) (by kernel_rfl) (fun _ _ _ h => h) (Or.inl ⟨by rfl, ?_⟩) (by assumption) ?_
    rotate_left
    · intro w hSw
      try dsimp only at hSw
      go_simp
      all_goals with_reducible rfl
    try simp only [Act.put, List.setIfInBounds_toArray, List.set_cons_zero, List.set_cons_succ, List.getElem_toArray, List.getElem_cons_succ, List.getElem_cons_zero]
    refine wpAnyH_take (i := 11) (oi := _) (v := ?_) rfl (by kernel_rfl) (by kernel_rfl) (by kernel_rfl) (fun _ _ _ h => h) (Or.inl ⟨by rfl, ?_⟩) (by assumption) ?_
    rotate_left
    · intro w hSw
      try dsimp only at hSw
      go_simp
      all_goals with_reducible rfl
    try simp only [Act.put, List.setIfInBounds_toArray, List.set_cons_zero, List.set_cons_succ, List.getElem_toArray, List.getElem_cons_succ, List.getElem_cons_zero]
    refine wpAnyH_done (by kernel_rfl) ?_ _
    go_wp2_with fail
    go_ret
    exact ⟨_, rfl, by simp [ByteArray.size_append, ByteArray.size_extract]; omega, kd⟩
  · have n0 : (y == 0) = false := by simpa using hy0
    by_cases hy1 : y = 1
    · subst hy1
      go_wp2_with fail
      go_ret
      exact ⟨s.extract 0 m, rfl, by rw [ByteArray.size_extract]; omega, k2⟩
    · have n1 : (y == 1) = false := by simpa using hy1
      go_wp2_with fail
      go_ret
      exact ⟨s, rfl, by omega, k2⟩
set_option maxHeartbeats 2000000 in
theorem drawParseNear (A : Option Addr) (c : Nat) (bs : List Int) (w : World) (h : InY w A c bs) :
    Calls Tryz.prog 7 #[.slice A bs.length c] w (fun en w' => ∃ t : ByteArray, en = .returned (.string t) ∧ t.size ≤ 100 ∧ Below w.heap.size w w') := by
  have HC := Lib.hid (l1New_any A c bs w h.len h.rd)
  go_enter Tryz.func7, Tryz.ntmps7
  go_wp2_with fail
  (with_reducible refine HC.out.mono ?_)
  rintro e w1 ⟨q, rfl, hq, hc, hb⟩
  have hq1 := hc.lt
  have HE := Lib.hid (l8Draw_any w1 q A c bs hc)
  clear HC
  go_wp2_with fail
  (with_reducible refine HE.out.mono ?_)
  rintro e w2 ⟨P, pk, p, S, k, rs, rfl, hp4, hr4, hpp, hoP, hoR, k1⟩
  have hx : InN w2 P pk p S k rs := ⟨In.of_own hoP (by omega), In.of_own hoR (by omega)⟩
  have HT := Lib.hid (nearText_spec P S pk k p rs w2 hx)
  obtain ⟨s, hs⟩ : ∃ s, s = ntext p rs := ⟨_, rfl⟩
  have hsz : s.size ≤ 50 := by
    rw [hs]
    unfold ntext
    split
    · rw [bs_size]
      have h1 := joinT_size (textD p) rs (textD p).length
      have h2 := textD_len p
      omega
    · rw [bs_size]; simp
  rw [← hs] at HT
  clear HE hpp hoP hoR hx hs
  go_wp2_with fail
  (with_reducible refine HT.out.mono ?_)
  rintro e w3 ⟨rfl, hb3⟩
  have hs12 := k1.span.size
  have hs23 := hb3.size
  have hbo := (Below.refl w3.heap.size w3).alloc (Nat.le_refl _) (Obj.cells #[Value.string ⟨#[95]⟩, Value.string ⟨#[49]⟩, Value.string ⟨#[50]⟩, Value.string ⟨#[45]⟩, Value.string ⟨#[51]⟩] 9)
  have k3 := (k1.next (hb3.mono hs12) hq1).next (hbo.mono (by omega)) hq1
  have HP := Lib.hid (l1Turned_any _ q A c bs s (by omega) w3.heap.size 5 5 [⟨#[95]⟩, ⟨#[49]⟩, ⟨#[50]⟩, ⟨#[45]⟩, ⟨#[51]⟩] rfl (by decide) (by decide) (by omega) (by simp) (fun t ht => by
    simp only [List.mem_cons, List.not_mem_nil, or_false] at ht
    rcases ht with rfl | rfl | rfl | rfl | rfl
    all_goals decide) (fun j hj => (obj_cell (obj_new w3 _)).trans (by
    have hj : j < 5 := hj
    rcases j with _ | _ | _ | _ | _ | j
    all_goals first | rfl | omega)) k3.cur)
  clear HT
  go_wp2_with fail
  (with_reducible refine HP.out.mono ?_)
  rintro e w4 ⟨t, rfl, ht, k4⟩
  go_wp2_with fail
  go_ret
  exact ⟨t, rfl, by omega, hb.trans ((k3.trans k4).below hq hb.size)⟩
end Go.Proofs.YtfcgohhmpgffjaaGreatDoor

/- slices.CompactFunc of a list of rows: of equal neighbors the first one is kept. -/
namespace Go.Proofs.YtfcgohhmpgffjaaGreatDoor
set_option maxRecDepth 100000
open Go Go.RowKit

theorem compL_snoc (L : List (List Int)) (x y : List Int) : compL (L ++ [x] ++ [y]) = if x = y then compL (L ++ [x]) else compL (L ++ [x]) ++ [y] := by
  match L with
  | [] =>
    simp only [List.nil_append, List.cons_append, compL]
    by_cases h : x = y <;> simp [h]
  | [a] =>
    simp only [List.cons_append, List.nil_append, compL]
    by_cases h1 : a = x
    · by_cases h : x = y <;> simp [h1, h]
    · by_cases h : x = y <;> simp [h1, h]
  | a :: b :: t =>
    have ih := compL_snoc (b :: t) x y
    simp only [List.cons_append, compL] at ih ⊢
    by_cases h1 : a = b
    · rw [if_pos h1, if_pos h1]; exact ih
    · rw [if_neg h1, if_neg h1, ih]
      by_cases h : x = y
      · rw [if_pos h, if_pos h]
      · rw [if_neg h, if_neg h]; rfl
theorem compL_take (X : List (List Int)) (k : Nat) (h0 : 0 < k) (h : k < X.length) : compL (X.take (k + 1)) = if X[k - 1]'(by omega) = X[k] then compL (X.take k) else compL (X.take k) ++ [X[k]] := by
  have e1 : X.take k = X.take (k - 1) ++ [X[k - 1]'(by omega)] := by
    have := List.take_succ_eq_append_getElem (l := X) (i := k - 1) (by omega)
    rwa [Nat.sub_add_cancel h0] at this
  rw [List.take_succ_eq_append_getElem h, e1]
  exact compL_snoc _ _ _
section
variable {w w' : World} {base e g k n cap j : Nat} {V : List Value}
theorem own_beyond (h : w.ownsRow base e 1 (.slice (some ⟨g, 0, none⟩) k cap) k V) (hj : k ≤ j) (u : Value) : (w.setCell ⟨g, j, none⟩ u).ownsRow base e 1 (.slice (some ⟨g, 0, none⟩) k cap) k V := by
  refine ⟨h.1, ?_⟩
  rcases h.2 with ⟨e, _⟩ | ⟨g', cap', cur, hv, hb, hh, h1, h2, h3, h4⟩
  · cases e
  · injection hv with hv _ hc
    injection hv with hv
    injection hv with hv _ _
    subst hv hc
    refine .inr ⟨g, cap, cur.setIfInBounds j u, rfl, hb, obj_set hh u, h1, h2, by simpa using h3, ?_⟩
    rw [← h4, Array.toList_setIfInBounds, Nat.mul_one, List.take_set_of_le hj]
theorem grown_set (w : World) (g j : Nat) (u : Value) : w.grownBy (w.setCell ⟨g, j, none⟩ u) (some g) :=
  ⟨rfl, rfl, rfl, by simp [World.setCell], fun k _ hk => by
    simp only [World.setCell, Array.getElem?_modify]
    rw [if_neg (fun h => hk (by rw [h]))]⟩
theorem own_sets (vs : List Value) : ∀ (o : Nat) (w : World), w.ownsRow base e 1 (.slice (some ⟨g, 0, none⟩) k cap) k V → k ≤ o → (w.setCells g o vs).ownsRow base e 1 (.slice (some ⟨g, 0, none⟩) k cap) k V ∧ w.grownBy (w.setCells g o vs) (some g) := by
  induction vs with
  | nil => intro o w h _; exact ⟨h, World.grownBy.refl w _⟩
  | cons a t ih =>
    intro o w h ho
    obtain ⟨h1, h2⟩ := ih (o + 1) (w.setCell ⟨g, o, none⟩ a) (own_beyond h ho a) (by omega)
    exact ⟨h1, grown_trans (grown_set w g o a) h2⟩
theorem own_set_at (h : w.ownsRow base e 1 (.slice (some ⟨g, 0, none⟩) n cap) n V) (hj : j < n) (u : Value) : (w.setCell ⟨g, j, none⟩ u).ownsRow base e 1 (.slice (some ⟨g, 0, none⟩) n cap) n (V.set j u) := by
  exact (h.stored j u).1
end
end Go.Proofs.YtfcgohhmpgffjaaGreatDoor

/- ReverseNear, program and reference. -/
namespace Go.Proofs.YtfcgohhmpgffjaaGreatDoor
set_option maxRecDepth 100000
open Go Go.RowKit

/-- The joined places from the end, each seen from the other side: the first j of them. -/
def rnTo (n : Nat) (ys : List Int) (j : Nat) : List Int := (ys.reverse.take j).map fun y => (n : Int) - y
def rnP (xs : List Int) : List Int := xs.reverse
theorem rnP_len (xs : List Int) : (rnP xs).length = xs.length := by simp [rnP]
theorem rnTo_len (n : Nat) (ys : List Int) (j : Nat) (h : j ≤ ys.length) : (rnTo n ys j).length = j := by simp [rnTo]; omega
theorem rnTo_succ (n : Nat) (ys : List Int) (j q : Nat) (h : j + q + 1 = ys.length) (hq : q < ys.length) : rnTo n ys (j + 1) = rnTo n ys j ++ [(n : Int) - ys[q]] := by
  unfold rnTo
  rw [List.take_succ_eq_append_getElem (by simp; omega), List.map_append, List.getElem_reverse]
  simp only [List.map_cons, List.map_nil]
  congr 4
  omega
def rnG1 (xs ys : List Int) : List Int := if nearB xs ys then rnP xs else []
def rnG2 (xs ys : List Int) : List Int := if nearB xs ys then rnTo xs.length ys ys.length else []
theorem rnG_le (xs ys : List Int) : (rnG1 xs ys).length + (rnG2 xs ys).length ≤ 16 := by
  unfold rnG1 rnG2
  by_cases hp : nearB xs ys = true
  · rw [if_pos hp, if_pos hp, rnTo_len _ _ _ (Nat.le_refl _), rnP_len]
    have h1 := nearB_len hp
    have h2 := (permB_true (nearB_permB hp)).1
    omega
  · rw [if_neg hp, if_neg hp]
    simp
theorem reverse_rn (A : Option Addr) (c : Nat) (xs : List Int) (w : World) (h : In w A c xs) :
    Calls Tryz.prog 35 #[.slice A xs.length c] w (Ret (Value.int .i64) 3 w (rnP xs)) := reverse_impl A c xs w h
theorem l3Reverse_rn (A : Option Addr) (c : Nat) (xs : List Int) (w : World) (h : In w A c xs) :
    Calls Tryz.prog 37 #[.slice A xs.length c] w (Ret (Value.int .i64) 3 w (rnP xs)) := l3Reverse_any A c xs.length xs w rfl h.len h.rd

set_option maxHeartbeats 2000000 in
theorem reverseNear_spec (A B : Option Addr) (c k : Nat) (xs ys : List Int) (w : World) (h : InN w A c xs B k ys) :
    Calls Tryz.prog 11 #[.agg #[.slice A xs.length c, .slice B ys.length k]] w (RetNb w (rnG1 xs ys) (rnG2 xs ys) (nearB xs ys)) := by
  obtain ⟨i0, hi, hz0, hz1, hz2⟩ := info_parts infoI
  have hlx := h.1.len
  have hly := h.2.len
  go_enter Tryz.func11, Tryz.ntmps11
  have hb0 : Below w.heap.size w ((w.alloc (Obj.cells #[Value.slice A xs.length c, Value.slice B ys.length k] 26)).alloc (Obj.cells #[Value.slice none 0 0, Value.slice none 0 0] 26)) := ((Below.refl _ _).alloc (Nat.le_refl _) _).alloc (by simp) _
  go_wp2_with fail
  have oa := obj_alloc (obj_new w (Obj.cells #[Value.slice A xs.length c, Value.slice B ys.length k] 26)) (Obj.cells #[Value.slice none 0 0, Value.slice none 0 0] 26)
  have ob := obj_new (w.alloc (Obj.cells #[Value.slice A xs.length c, Value.slice B ys.length k] 26)) (Obj.cells #[Value.slice none 0 0, Value.slice none 0 0] 26)
  have hzw : ((w.alloc (Obj.cells #[Value.slice A xs.length c, Value.slice B ys.length k] 26)).alloc (Obj.cells #[Value.slice none 0 0, Value.slice none 0 0] 26)).heap.size = w.heap.size + 1 + 1 := by simp
  simp only [World.size_alloc] at ob
  generalize ((w.alloc (Obj.cells #[Value.slice A xs.length c, Value.slice B ys.length k] 26)).alloc (Obj.cells #[Value.slice none 0 0, Value.slice none 0 0] 26)) = w0 at hb0 oa ob hzw ⊢
  by_cases hn : nearB xs ys = true
  · have HN := Lib.hid hn
    have H1 := Lib.hid (show rnG1 xs ys = rnP xs by unfold rnG1; rw [if_pos hn])
    have H2 := Lib.hid (show rnG2 xs ys = rnTo xs.length ys ys.length by unfold rnG2; rw [if_pos hn])
    have hy8 := nearB_len hn
    have hx8 := (permB_true (nearB_permB hn)).1
    have HR := Lib.hid (nearB_range hn)
    (with_reducible refine (near_sb A B c k xs ys w0 true (h.next hb0) HN.out).mono ?_)
    rintro e wn ⟨rfl, hb1⟩
    have oa := obj_below oa hb1 (obj_lt oa)
    have ob := obj_below ob hb1 (obj_lt ob)
    have hb := hb0.trans (hb1.mono hb0.size)
    have hsz1 := hb1.size
    have f0 : wn.cell? ⟨w.heap.size, 0, none⟩ = some (Value.slice A xs.length c) := (obj_cell oa).trans rfl
    have f1 : wn.cell? ⟨w.heap.size, 1, none⟩ = some (Value.slice B ys.length k) := (obj_cell oa).trans rfl
    clear hn hb1
    go_wp2_with fail
    (with_reducible refine (l3Reverse_rn A c xs wn (h.1.next hb)).mono ?_)
    rintro e w2 ⟨A2, c2, rfl, _, _, own2, hb2⟩
    have oa := obj_below oa hb2 (obj_lt oa)
    have ob := obj_below ob hb2 (obj_lt ob)
    have hb' := hb.trans (hb2.mono hb.size)
    have hsz2 := hb2.size
    have hsb := hb'.size
    have oa3 := obj_alloc oa (Obj.cells #[Value.slice A2 (rnP xs).length c2, Value.slice none 0 0] 26)
    have ob3 := obj_alloc ob (Obj.cells #[Value.slice A2 (rnP xs).length c2, Value.slice none 0 0] 26)
    have oc3 := obj_new w2 (Obj.cells #[Value.slice A2 (rnP xs).length c2, Value.slice none 0 0] 26)
    have hA3 := own2.alloc (Obj.cells #[Value.slice A2 (rnP xs).length c2, Value.slice none 0 0] 26)
    have lA : ∀ q, (Value.slice A2 (rnP xs).length c2).ownBlock = some q → wn.heap.size ≤ q ∧ q < w2.heap.size := fun q hq => own2.lt q hq
    have hb3 := hb'.alloc hsb (Obj.cells #[Value.slice A2 (rnP xs).length c2, Value.slice none 0 0] 26)
    have hz3 : (w2.alloc (Obj.cells #[Value.slice A2 (rnP xs).length c2, Value.slice none 0 0] 26)).heap.size = w2.heap.size + 1 := by simp
    have g1 : (w2.alloc (Obj.cells #[Value.slice A2 (rnP xs).length c2, Value.slice none 0 0] 26)).cell? ⟨w.heap.size, 1, none⟩ = some (Value.slice B ys.length k) := (obj_cell oa3).trans rfl
    have e1 : IntKind.i64.wrap ((ys.length : Int) - 1) = (ys.length : Int) - 1 := IntWalk.i64_in _ (by omega)
    have hlt2 : w.heap.size + 1 < w2.heap.size := by omega
    clear own2 hb2 hb oa ob f0 f1
    go_wp2_with fail
    generalize (w2.alloc (Obj.cells #[Value.slice A2 (rnP xs).length c2, Value.slice none 0 0] 26)) = w3 at oa3 ob3 oc3 hA3 hb3 hz3 g1 ⊢
    obtain ⟨g, hg⟩ : ∃ g, g = w2.heap.size := ⟨_, rfl⟩
    rw [← hg] at oc3 hz3 hlt2 lA hsz2 ⊢
    have HZ3 := Lib.hid hz3
    clear hg hz3 g1 e1
    go_loopw [5] (fun i wr => ∃ (j : Nat) (z : Int) (B1 : Option Addr) (kk : Nat), j ≤ ys.length ∧ z = (ys.length : Int) - 1 - j ∧ i = .int .i64 z ∧ wr.heap[g]? = some (Obj.cells #[Value.slice A2 (rnP xs).length c2, Value.slice B1 j kk] 26) ∧
      wr.heap[w.heap.size]? = some (Obj.cells #[Value.slice A xs.length c, Value.slice B ys.length k] 26) ∧
      wr.heap[w.heap.size + 1]? = some (Obj.cells #[Value.slice none 0 0, Value.slice none 0 0] 26) ∧ wr.ownsRow wn.heap.size 3 1 (.slice A2 (rnP xs).length c2) (rnP xs).length ((rnP xs).map (Value.int .i64)) ∧
      wr.ownsRow w3.heap.size 3 1 (.slice B1 j kk) j ((rnTo xs.length ys j).map (Value.int .i64)) ∧ Below w.heap.size w wr ∧ w3.heap.size ≤ wr.heap.size) (fun i _ => (intOf i + 1).toNat)
    case atStart => exact ⟨0, _, none, 0, Nat.zero_le _, by omega, rfl, oc3, oa3, ob3, hA3, World.ownsRow_nil _ _ _ _, hb3, Nat.le_refl _⟩
    case round =>
      clear oc3 oa3 ob3 hA3 hb3
      obtain ⟨j, z, B1, kk, hj, hzz, rfl, og, oa, ob, hA, hB, hbw, hsw⟩ := hrel
      have f1 : wr.cell? ⟨g, 1, none⟩ = some (Value.slice B1 j kk) := (obj_cell og).trans rfl
      have f0 : wr.cell? ⟨g, 0, none⟩ = some (Value.slice A2 (rnP xs).length c2) := (obj_cell og).trans rfl
      have a0 : wr.cell? ⟨w.heap.size, 0, none⟩ = some (Value.slice A xs.length c) := (obj_cell oa).trans rfl
      have a1 : wr.cell? ⟨w.heap.size, 1, none⟩ = some (Value.slice B ys.length k) := (obj_cell oa).trans rfl
      have HZ := Lib.hid hzz
      by_cases hlt : j < ys.length
      · obtain ⟨q, hq⟩ : ∃ q : Nat, z = (q : Int) := ⟨ys.length - 1 - j, by omega⟩
        have hqy : q < ys.length := by omega
        have HQ := Lib.hid (show j + q + 1 = ys.length by omega)
        have HS := Lib.hid (rnTo_succ xs.length ys j q HQ.out hqy)
        obtain ⟨b, off, rfl, _, hc⟩ := (h.2.next hbw).rd (by omega)
        have cc := hc q hqy
        have hr := HR.out ys[q] (List.getElem_mem hqy)
        subst hq
        obtain ⟨yv, hyv⟩ : ∃ yv, yv = ys[q] := ⟨_, rfl⟩
        rw [← hyv] at cc hr
        have HYV := Lib.hid hyv
        have e2 : IntKind.i64.wrap ((xs.length : Int) - yv) = (xs.length : Int) - yv := IntWalk.i64_in _ (by omega)
        have hq0 : (0 : Int) ≤ (q : Int) := Int.natCast_nonneg _
        have hq1 : (q : Int) < (ys.length : Int) := by omega
        have s3 : g < w3.heap.size := by have := HZ3.out; omega
        have hlim : ∀ q, (Value.slice B1 j kk).ownBlock = some q → w3.heap.size ≤ q ∧ q < wr.heap.size := fun q hq => hB.lt q hq
        have ogr := obj_alloc og (Obj.cells #[Value.int .i64 ((xs.length : Int) - yv)] 3)
        have oar := obj_alloc oa (Obj.cells #[Value.int .i64 ((xs.length : Int) - yv)] 3)
        have obr := obj_alloc ob (Obj.cells #[Value.int .i64 ((xs.length : Int) - yv)] 3)
        have hAr := hA.alloc (Obj.cells #[Value.int .i64 ((xs.length : Int) - yv)] 3)
        have hbr := hbw.alloc hbw.size (Obj.cells #[Value.int .i64 ((xs.length : Int) - yv)] 3)
        have f1d : wr.drew.cell? ⟨g, 1, none⟩ = some (Value.slice B1 j kk) := f1
        have f1r : (wr.alloc (Obj.cells #[Value.int .i64 ((xs.length : Int) - yv)] 3)).cell? ⟨g, 1, none⟩ = some (Value.slice B1 j kk) := (obj_cell ogr).trans rfl
        have a0d : wr.drew.cell? ⟨w.heap.size, 0, none⟩ = some (Value.slice A xs.length c) := a0
        have a1d : wr.drew.cell? ⟨w.heap.size, 1, none⟩ = some (Value.slice (some ⟨b, off, none⟩) ys.length k) := a1
        have ccd : wr.drew.cell? ⟨b, off + q, none⟩ = some (.int .i64 yv) := cc
        clear hzz hc hyv
        go_wp2_with fail
        go_region_law
          ((refine step_append_lies _ (by rfl) _ _ _ (by rfl) w3.heap.size 3 i0 (.int .i64 0) 1 8 Tryz.underlying24 hi hz0 hz1 hz2 rfl (by decide) (Value.slice B1 j kk) j _ (by rfl) ((World.ownsRow.alloc hB _).drew) ⟨wr.heap.size, 0, none⟩ 1 1 [.int .i64 ((xs.length : Int) - yv)] (by rfl) (by rfl) (cell_one_new _ _ _) (by intro u hu; simp at hu; subst hu; rfl) (by omega) (by unfold maxLen; omega) (by omega) (by simp; omega) (wr.heap.size + 1) (by simp) ?_; intro gg cap w9 hown9 hgrow9 hat hlt9
            have hg3 := grown_drew hgrow9
            have og1 := (hg3.block _ (obj_lt ogr) (by intro he; have := hlim _ he.symm; omega)).trans ogr
            have oa1 := (hg3.block _ (obj_lt oar) (by intro he; have := hlim _ he.symm; omega)).trans oar
            have ob1 := (hg3.block _ (obj_lt obr) (by intro he; have := hlim _ he.symm; omega)).trans obr
            have f3 : w9.cell? ⟨g, 1, none⟩ = some (Value.slice B1 j kk) := (obj_cell og1).trans rfl
            have f4 : w9.frozen? ⟨g, 1, none⟩ = false := obj_frozen og1))
        all_goals
          have hA1 := hAr.kept hg3 (own_off (lim := g) (fun q hq => (lA q hq).2) (fun q hq => by have := hlim q hq; omega))
          have hbw3 := hbr.grown hg3 (by simp; omega) (fun q hq => by have := hlim q hq; omega)
          have hsp : Span g (g + 1) w9 (w9.setCell ⟨g, 1, none⟩ (Value.slice (some ⟨gg, 0, none⟩) (j + 1) cap)) := Span.set (p := ⟨g, 1, none⟩) (Nat.le_refl _) (Nat.lt_succ_self _) _
          have hA2 := own_span hA1 hsp (fun q hq => .inl (lA q hq).2)
          have hB1 : w9.ownsRow w3.heap.size 3 1 (.slice (some ⟨gg, 0, none⟩) (j + 1) cap) (j + 1) ((rnTo xs.length ys (j + 1)).map (Value.int .i64)) := by rw [HS.out, ← HYV.out]; simpa using hown9
          have hB2 := own_span hB1 hsp (fun q hq => by have := (hB1.lt q hq).1; omega)
          have og2 := obj_set (i := 1) og1 (Value.slice (some ⟨gg, 0, none⟩) (j + 1) cap)
          have oa2 := obj_other (g' := g) (i := 1) oa1 (by omega) (Value.slice (some ⟨gg, 0, none⟩) (j + 1) cap)
          have ob2 := obj_other (g' := g) (i := 1) ob1 (by omega) (Value.slice (some ⟨gg, 0, none⟩) (j + 1) cap)
          have hb5 := hbw3.setCell (p := ⟨g, 1, none⟩) (by simp; omega) (Value.slice (some ⟨gg, 0, none⟩) (j + 1) cap)
          have hb6 : w3.heap.size ≤ (w9.setCell ⟨g, 1, none⟩ (Value.slice (some ⟨gg, 0, none⟩) (j + 1) cap)).heap.size := by have h1 := hg3.size; have h2 := hsp.size; simp at h1; omega
          have K := Lib.hid (And.intro og2 (And.intro oa2 (And.intro ob2 (And.intro hA2 (And.intro hB2 (And.intro hb5 hb6))))))
          clear og2 oa2 ob2 hA2 hB2 hb5 hb6 hsp hA1 hB1 hbw3 hown9 hgrow9 hg3 og1 oa1 ob1 f3 f4 f1 f0 a0 a1 f1d f1r a0d a1d ccd hA hB og oa ob hbw hlim ogr oar obr hAr hbr
          go_wp2_with fail
          go_roundw
          case rel => exact ⟨j + 1, (q : Int) - 1, some ⟨gg, 0, none⟩, cap, by omega, by have := HZ.out; omega, by go_num, K.out.1, K.out.2.1, K.out.2.2.1, K.out.2.2.2.1, K.out.2.2.2.2.1, K.out.2.2.2.2.2.1, K.out.2.2.2.2.2.2⟩
          case measure => (simp [intOf]) <;> omega
      · obtain rfl : j = ys.length := by omega
        have hzn : z = -1 := by omega
        subst hzn
        have g0 : wr.cell? ⟨w.heap.size + 1, 0, none⟩ = some (Value.slice none 0 0) := (obj_cell ob).trans rfl
        have g1 : wr.cell? ⟨w.heap.size + 1, 1, none⟩ = some (Value.slice none 0 0) := (obj_cell ob).trans rfl
        have g2 : wr.frozen? ⟨w.heap.size + 1, 0, none⟩ = false := obj_frozen ob
        have g3 : wr.frozen? ⟨w.heap.size + 1, 1, none⟩ = false := obj_frozen ob
        have o2 := obj_set (i := 1) (obj_set (i := 0) ob (Value.slice A2 (rnP xs).length c2)) (Value.slice B1 ys.length kk)
        have s3 := HZ3.out
        have hsp : Span (w.heap.size + 1) (w.heap.size + 1 + 1) wr ((wr.setCell ⟨w.heap.size + 1, 0, none⟩ (Value.slice A2 (rnP xs).length c2)).setCell ⟨w.heap.size + 1, 1, none⟩ (Value.slice B1 ys.length kk)) :=
          (Span.set (p := ⟨w.heap.size + 1, 0, none⟩) (Nat.le_refl _) (Nat.lt_succ_self _) _).trans (Span.set (p := ⟨w.heap.size + 1, 1, none⟩) (Nat.le_refl _) (Nat.lt_succ_self _) _)
        have hrl := rnTo_len xs.length ys ys.length (Nat.le_refl _)
        have hB' : wr.ownsRow w3.heap.size 3 1 (.slice B1 (rnTo xs.length ys ys.length).length kk) (rnTo xs.length ys ys.length).length ((rnTo xs.length ys ys.length).map (Value.int .i64)) := by rw [hrl]; exact hB
        have own : Own wr wn.heap.size wr.heap.size [⟨A2, c2, rnP xs⟩, ⟨B1, kk, rnTo xs.length ys ys.length⟩] [] :=
          ((Own.one hA (Nat.le_refl _)).lim g (fun r hr => by obtain rfl := List.mem_singleton.1 hr; exact fun q hq => (lA q hq).2)).app ((Own.one hB' (Nat.le_refl _)).wider (by omega) (Nat.le_refl _)) (by omega) (by omega)
        have own := own.span hsp (.inr (by omega))
        have hb4 := (hbw.setCell (p := ⟨w.heap.size + 1, 0, none⟩) (by simp) (Value.slice A2 (rnP xs).length c2)).setCell (p := ⟨w.heap.size + 1, 1, none⟩) (by simp) (Value.slice B1 ys.length kk)
        have l0 := (obj_cell (i := 0) o2).trans rfl
        have l1 := (obj_cell (i := 1) o2).trans rfl
        have hq2 := hsp.size
        have HL := Lib.hid hrl
        clear hsp hrl hzz
        go_wp2_with fail
        refine bodyPost_ret (v := .tuple #[.agg #[.slice A2 (rnP xs).length c2, .slice B1 ys.length kk], .bool true]) (by simp [results, Tryz.results11, go_sem, l0, l1]) rfl ?_
        rw [H1.out, H2.out, HN.out]
        exact ⟨_, _, _, _, by rw [HL.out], own.wider (by omega) (by omega), hb4⟩
  · have hnf : nearB xs ys = false := by simpa using hn
    have H1 := Lib.hid (show rnG1 xs ys = [] by unfold rnG1; rw [hnf]; rfl)
    have H2 := Lib.hid (show rnG2 xs ys = [] by unfold rnG2; rw [hnf]; rfl)
    have HN := Lib.hid hnf
    (with_reducible refine (near_sb A B c k xs ys w0 false (h.next hb0) hnf).mono ?_)
    rintro e w1 ⟨rfl, hb1⟩
    have oa := obj_below oa hb1 (obj_lt oa)
    have ob := obj_below ob hb1 (obj_lt ob)
    have hb := hb0.trans (hb1.mono hb0.size)
    have f0 : w1.cell? ⟨w.heap.size, 0, none⟩ = some (Value.slice A xs.length c) := (obj_cell oa).trans rfl
    have g0 : w1.cell? ⟨w.heap.size + 1, 0, none⟩ = some (Value.slice none 0 0) := (obj_cell ob).trans rfl
    have g1 : w1.cell? ⟨w.heap.size + 1, 1, none⟩ = some (Value.slice none 0 0) := (obj_cell ob).trans rfl
    have g2 : w1.frozen? ⟨w.heap.size + 1, 0, none⟩ = false := obj_frozen ob
    have g3 : w1.frozen? ⟨w.heap.size + 1, 1, none⟩ = false := obj_frozen ob
    have o2 := obj_set (i := 1) (obj_set (i := 0) ob (Value.slice none 0 0)) (Value.slice none 0 0)
    have hb4 := (hb.setCell (p := ⟨w.heap.size + 1, 0, none⟩) (by simp) (Value.slice none 0 0)).setCell (p := ⟨w.heap.size + 1, 1, none⟩) (by simp) (Value.slice none 0 0)
    have l0 := (obj_cell (i := 0) o2).trans rfl
    have l1 := (obj_cell (i := 1) o2).trans rfl
    clear hn hnf
    go_wp2_with fail
    refine bodyPost_ret (v := .tuple #[.agg #[.slice none 0 0, .slice none 0 0], .bool false]) (by simp [results, Tryz.results11, go_sem, l0, l1]) rfl ?_
    rw [H1.out, H2.out, HN.out]
    exact ⟨_, _, _, _, rfl, own_nilrow _ _ _, hb4⟩
end Go.Proofs.YtfcgohhmpgffjaaGreatDoor

/- slices.SortFunc of a list of rows; ordered. -/
namespace Go.Proofs.YtfcgohhmpgffjaaGreatDoor
set_option maxRecDepth 100000
open Go Go.RowKit

theorem before_ntrans {x y z : List Int} (h1 : before x y = false) (h2 : before y z = false) : before x z = false := by
  cases h : before x z with
  | false => rfl
  | true =>
    cases h3 : before y x with
    | true => rw [before_trans h3 h] at h2; cases h2
    | false =>
      have e := before_total h1 h3
      subst e
      rw [h] at h2; cases h2
theorem permIn_list {α : Type} [Inhabited α] {d d' : Array α} (h : Sort.PermIn 0 d.size d d') : d'.toList.Perm d.toList := by
  have h1 := h.2.2
  have e1 : d'.extract 0 d.size = d' := by rw [← h.1]; exact Array.extract_size
  have e2 : d.extract 0 d.size = d := Array.extract_size
  rw [e1, e2] at h1
  exact h1
theorem sortedIn_list {α : Type} [Inhabited α] {lt : α → α → Bool} {d : Array α} {n : Nat} (hn : d.size = n) (h : Sort.SortedIn lt 0 n d) : d.toList.Pairwise fun x y => lt y x = false := by
  rw [List.pairwise_iff_getElem]
  intro i j hi hj hij
  rw [Array.length_toList] at hi hj
  have := h i j (Nat.zero_le _) hij (by omega)
  rw [getElem!_pos d j hj, getElem!_pos d i hi] at this
  simpa using this
/-- The row's cells in a world that the sort passes through. -/
theorem rd_sortWorld {α : Type} [Inhabited α] {enc : α → Value} {w : World} {blk m : Nat} {dk : Array α} {os : Array Obj} {A : Option Addr} {xs : List Int} (h : Rd (Value.int .i64) w w.heap.size A xs) (hne : ∀ b off, A = some ⟨b, off, none⟩ → 0 < xs.length → b ≠ blk) :
    Rd (Value.int .i64) (sortWorld enc w blk 0 m dk os) (sortWorld enc w blk 0 m dk os).heap.size A xs := fun h0 => by
  obtain ⟨b, off, rfl, hb, hc⟩ := h h0
  have hn := hne b off rfl h0
  have hs : (Sort.putRow enc (Sort.ahead w m) blk 0 dk).heap.size = w.heap.size := by simp [Sort.putRow, Sort.mapBlock, Sort.ahead]
  refine ⟨b, off, rfl, ?_, fun j hj => ?_⟩
  · show b < (Sort.grow (Sort.putRow enc (Sort.ahead w m) blk 0 dk) os).heap.size
    simp only [Sort.grow, Array.size_append, hs]
    omega
  · have h1 : (Sort.putRow enc (Sort.ahead w m) blk 0 dk).cell? ⟨b, off + j, none⟩ = some (.int .i64 xs[j]) :=
      (Sort.cell?_putRow_other enc (Sort.ahead w m) blk 0 dk ⟨b, off + j, none⟩ (Or.inl hn)).trans (hc j hj)
    exact cell_grown (show b < _ by rw [hs]; exact hb) h1 0 os
theorem grow_below (W : World) (os : Array Obj) : Below W.heap.size W (Sort.grow W os) := ⟨rfl, rfl, rfl, by simp [Sort.grow], fun k hk => by simp [Sort.grow, Array.getElem?_append, hk]⟩
theorem putRow_grown {α : Type} [Inhabited α] (enc : α → Value) (w : World) (q g : Nat) (d : Array α) : w.grownBy (Sort.putRow enc (Sort.ahead w q) g 0 d) (some g) :=
  ⟨rfl, rfl, rfl, by simp [Sort.putRow, Sort.mapBlock, Sort.ahead], fun k _ hne => by
    have hk : g ≠ k := fun e => hne (by rw [e])
    simp [Sort.putRow, Sort.mapBlock, Sort.ahead, Array.getElem?_modify, hk]⟩
end Go.Proofs.YtfcgohhmpgffjaaGreatDoor

/- OrderPerms of the reference; MakeBasis, program and reference. -/
namespace Go.Proofs.YtfcgohhmpgffjaaGreatDoor
set_option maxRecDepth 100000
open Go Go.RowKit

/-- A call's result of two: a list of rows of its own, and a truth value. -/
def RetLb (w : World) (X : List (List Int)) (b : Bool) (e : Ending) (w' : World) : Prop :=
  ∃ A c rs, e = .returned (.tuple #[.slice A rs.length c, .bool b]) ∧ rs.map Row.xs = X ∧ Own w' w.heap.size w'.heap.size rs [⟨A, c, rs.map Row.v⟩] ∧ Below w.heap.size w w'
/-- The lists in which none that was kept before occurs. -/
def sieve (L : List (List Int)) : List (List Int) := L.foldl (fun acc p => if avoidB acc p = true then acc ++ [p] else acc) []
theorem sieve_take (L : List (List Int)) (k : Nat) (h : k < L.length) : sieve (L.take (k + 1)) = if avoidB (sieve (L.take k)) L[k] = true then sieve (L.take k) ++ [L[k]] else sieve (L.take k) := by
  unfold sieve
  rw [List.take_succ_eq_append_getElem h, List.foldl_append]
  rfl
theorem sieve_fold (L acc : List (List Int)) : ∃ u, L.foldl (fun acc p => if avoidB acc p = true then acc ++ [p] else acc) acc = acc ++ u := by
  induction L generalizing acc with
  | nil => exact ⟨[], by simp⟩
  | cons a t ih =>
    rw [List.foldl_cons]
    by_cases h : avoidB acc a = true
    · rw [if_pos h]
      obtain ⟨u, hu⟩ := ih (acc ++ [a])
      exact ⟨a :: u, by rw [hu]; simp⟩
    · rw [if_neg h]
      exact ih acc
theorem sieve_sub (L : List (List Int)) : ∀ q ∈ sieve L, q ∈ L := by
  have : ∀ (L acc : List (List Int)), ∀ q ∈ L.foldl (fun acc p => if avoidB acc p = true then acc ++ [p] else acc) acc, q ∈ acc ∨ q ∈ L := by
    intro L
    induction L with
    | nil => intro acc q hq; exact .inl hq
    | cons a t ih =>
      intro acc q hq
      rw [List.foldl_cons] at hq
      rcases ih _ q hq with h | h
      · split at h
        · rcases List.mem_append.1 h with h | h
          · exact .inl h
          · rw [List.mem_singleton.1 h]; exact .inr (by simp)
        · exact .inl h
      · exact .inr (by simp [h])
  intro q hq
  rcases this L [] q hq with h | h
  · simp at h
  · exact h
def mkB (X : List (List Int)) : Bool := allPermB X && basisB (sieve (ordL X))
def mkG (X : List (List Int)) : List (List Int) := if mkB X = true then sieve (ordL X) else []
theorem mk_empty {X : List (List Int)} (h : [] ∈ X) : basisB (sieve (ordL X)) = false := by
  have h1 := (ordL_mem X []).2 h
  have hs := ordL_srt X
  match hO : ordL X with
  | [] => rw [hO] at h1; simp at h1
  | a :: t =>
    rw [hO] at h1 hs
    have ha : a = [] := by
      rcases List.mem_cons.1 h1 with e | h1
      · exact e.symm
      · have := (List.pairwise_cons.1 hs).1 _ h1
        unfold before at this
        split at this
        · rename_i hl
          exact List.eq_nil_of_length_eq_zero hl
        · simp at this
    subst ha
    obtain ⟨u, hu⟩ := sieve_fold t [[]]
    have e : sieve ([] :: t) = [[]] ++ u := hu
    rw [e]
    unfold basisB
    rw [Bool.and_eq_false_iff]
    right
    exact basTo_false (k := 0) (by simp) rfl
theorem mkB_basis {X : List (List Int)} (h : mkB X = true) : basisB (mkG X) = true := by
  unfold mkG; rw [if_pos h]
  unfold mkB at h; rw [Bool.and_eq_true] at h; exact h.2
theorem basis_size {X : List (List Int)} (h : basisB X = true) : X.length + sizeX X ≤ 1048576 := by
  have h1 := basis_len h
  have h2 : sizeX X ≤ X.length * 8 := by
    have hp := basis_perm h
    clear h h1
    induction X with
    | nil => simp [sizeX]
    | cons a t ih =>
      have h1 := (permB_true (hp a (by simp))).1
      have h2 := ih (fun q hq => hp q (by simp [hq]))
      simp only [sizeX, List.map_cons, List.sum_cons, List.length_cons, Nat.add_mul, Nat.one_mul] at h2 ⊢
      omega
  omega
theorem mkG_le (X : List (List Int)) : (mkG X).length + sizeX (mkG X) ≤ 1048576 := by
  by_cases h : mkB X = true
  · exact basis_size (mkB_basis h)
  · unfold mkG; rw [if_neg h]; simp [sizeX]
theorem sizeR_sub {rs rs' : List Row} (h : rs'.Sublist rs) : rs'.length + sizeR rs' ≤ rs.length + sizeR rs := by
  induction h with
  | slnil => exact Nat.le_refl _
  | cons a _ ih => simp only [sizeR, List.map_cons, List.sum_cons, List.length_cons] at ih ⊢; omega
  | cons_cons a _ ih => simp only [sizeR, List.map_cons, List.sum_cons, List.length_cons] at ih ⊢; omega
theorem sizeX_append (X Y : List (List Int)) : sizeX (X ++ Y) = sizeX X + sizeX Y := by simp [sizeX]
theorem putL_size (X : List (List Int)) (p : List Int) : (putL X p).length + sizeX (putL X p) ≤ X.length + sizeX X + 1 + p.length := by
  unfold putL
  split
  · omega
  · have h1 : sizeX X = sizeX (X.take (putAt X p X.length)) + sizeX (X.drop (putAt X p X.length)) := by rw [← sizeX_append, List.take_append_drop]
    have h2 : X.length = (X.take (putAt X p X.length)).length + (X.drop (putAt X p X.length)).length := by rw [← List.length_append, List.take_append_drop]
    rw [sizeX_append, List.length_append]
    have h3 : sizeX (p :: X.drop (putAt X p X.length)) = p.length + sizeX (X.drop (putAt X p X.length)) := by simp [sizeX]
    rw [h3, List.length_cons]
    omega
theorem ordL_size (X : List (List Int)) : (ordL X).length + sizeX (ordL X) ≤ X.length + sizeX X := by
  have : ∀ (X Y : List (List Int)), (X.foldl putL Y).length + sizeX (X.foldl putL Y) ≤ Y.length + sizeX Y + (X.length + sizeX X) := by
    intro X
    induction X with
    | nil => intro Y; simp [sizeX]
    | cons a t ih =>
      intro Y
      have h1 := ih (putL Y a)
      have h2 := putL_size Y a
      have h3 : sizeX (a :: t) = a.length + sizeX t := by simp [sizeX]
      rw [List.foldl_cons, List.length_cons, h3]
      omega
  have := this X []
  simpa [ordL, sizeX] using this
/-- The rows that are kept. -/
def sieveR (rs : List Row) : Nat → List Row
  | 0 => []
  | k + 1 => match rs[k]? with
    | some r => if avoidB ((sieveR rs k).map Row.xs) r.xs = true then sieveR rs k ++ [r] else sieveR rs k
    | none => sieveR rs k
theorem sieveR_succ (rs : List Row) (k : Nat) (h : k < rs.length) : sieveR rs (k + 1) = if avoidB ((sieveR rs k).map Row.xs) rs[k].xs = true then sieveR rs k ++ [rs[k]] else sieveR rs k := by
  rw [sieveR, List.getElem?_eq_getElem h]
theorem sieveR_sub (rs : List Row) (k : Nat) (h : k ≤ rs.length) : (sieveR rs k).Sublist (rs.take k) := by
  induction k with
  | zero => exact List.Sublist.refl _
  | succ k ih =>
    rw [sieveR_succ rs k (by omega), List.take_succ_eq_append_getElem (by omega)]
    split
    · exact (ih (by omega)).append (List.Sublist.refl _)
    · exact (ih (by omega)).trans (List.sublist_append_left _ _)
theorem sieveR_map (rs : List Row) (k : Nat) (h : k ≤ rs.length) : (sieveR rs k).map Row.xs = sieve ((rs.map Row.xs).take k) := by
  induction k with
  | zero => rfl
  | succ k ih =>
    have ih := ih (by omega)
    have hk : (rs.map Row.xs)[k]'(by rw [List.length_map]; omega) = rs[k].xs := by simp
    rw [sieveR_succ rs k (by omega), sieve_take _ k (by rw [List.length_map]; omega), ih, hk]
    split
    · rw [List.map_append, ih]; rfl
    · exact ih
theorem sieveR_all (rs : List Row) : (sieveR rs rs.length).map Row.xs = sieve (rs.map Row.xs) := by
  rw [sieveR_map rs rs.length (Nat.le_refl _), List.take_of_length_le (by simp)]
end Go.Proofs.YtfcgohhmpgffjaaGreatDoor

/- Symmetries of permutations: inverse, complement, symmetry; SymmetryBasis. -/
namespace Go.Proofs.YtfcgohhmpgffjaaGreatDoor
set_option maxRecDepth 100000
open Go Go.RowKit

/-- The inverse, as far as the first k numbers tell it. -/
def invTo (p : List Int) : Nat → List Int
  | 0 => List.replicate p.length 0
  | k + 1 => (invTo p k).set ((p[k]?.getD 0) - 1).toNat ((k : Int) + 1)
def invL (p : List Int) : List Int := invTo p p.length
theorem invTo_length (p : List Int) (k : Nat) : (invTo p k).length = p.length := by
  induction k with
  | zero => simp [invTo]
  | succ k ih => simp [invTo, ih]
theorem invTo_bound (p : List Int) (k : Nat) (hk : k ≤ p.length) : ∀ x ∈ invTo p k, 0 ≤ x ∧ x ≤ p.length := by
  induction k with
  | zero =>
    intro x hx
    rw [invTo] at hx
    rw [List.eq_of_mem_replicate hx]
    omega
  | succ k ih =>
    intro x hx
    rw [invTo] at hx
    rcases List.mem_or_eq_of_mem_set hx with h | h
    · exact ih (by omega) x h
    · omega
def complL (p : List Int) : List Int := p.map fun v => (p.length : Int) + 1 - v
def complTo (p : List Int) (k : Nat) : List Int := (p.take k).map fun v => (p.length : Int) + 1 - v
theorem complTo_succ (p : List Int) (k : Nat) (h : k < p.length) : complTo p (k + 1) = complTo p k ++ [(p.length : Int) + 1 - p[k]] := by
  unfold complTo; rw [List.take_succ_eq_append_getElem h, List.map_append]; rfl
theorem complTo_all (p : List Int) : complTo p p.length = complL p := by unfold complTo complL; rw [List.take_length]
theorem complTo_len (p : List Int) (k : Nat) (h : k ≤ p.length) : (complTo p k).length = k := by unfold complTo; simp; omega
def revL (p : List Int) : List Int := p.reverse
/-- The symmetry number k. -/
def symL (p : List Int) : Nat → List Int
  | 0 => p
  | 1 => invL p
  | 2 => revL p
  | 3 => revL (invL p)
  | 4 => complL p
  | 5 => complL (invL p)
  | 6 => complL (revL p)
  | _ => complL (revL (invL p))
theorem small_perm {p : List Int} (h : permB p = true) : p.length ≤ 8 ∧ ∀ x ∈ p, 0 ≤ x ∧ x ≤ 8 := by
  have h8 := (permB_true h).1
  exact ⟨h8, fun x hx => by have := (permB_true h).2.1 x hx; omega⟩
theorem small_inv {p : List Int} (h : p.length ≤ 8) : (invL p).length ≤ 8 ∧ ∀ x ∈ invL p, 0 ≤ x ∧ x ≤ 8 :=
  ⟨by unfold invL; rw [invTo_length]; exact h, fun x hx => by have := invTo_bound p p.length (Nat.le_refl _) x hx; omega⟩
theorem small_rev {p : List Int} (h : p.length ≤ 8 ∧ ∀ x ∈ p, 0 ≤ x ∧ x ≤ 8) : (revL p).length ≤ 8 ∧ ∀ x ∈ revL p, 0 ≤ x ∧ x ≤ 8 :=
  ⟨by unfold revL; rw [List.length_reverse]; exact h.1, fun x hx => h.2 x (List.mem_reverse.1 hx)⟩
theorem symL_len {p : List Int} (h : p.length ≤ 8) (k : Nat) : (symL p k).length ≤ 8 := by
  have hi : (invL p).length = p.length := invTo_length p p.length
  unfold symL
  split <;> simp [complL, revL, hi, h]
end Go.Proofs.YtfcgohhmpgffjaaGreatDoor

/- Plain maths of occurrences: the inverse and the complement. -/
namespace Go.Proofs.YtfcgohhmpgffjaaGreatDoor
set_option maxRecDepth 100000

theorem invTo_get {p : List Int} (hp : permB p = true) : ∀ (k : Nat), k ≤ p.length → ∀ i : Int, 1 ≤ i → i ≤ k → at1 (invTo p k) (at1 p i) = i := by
  intro k
  induction k with
  | zero => intro _ i h1 h2; omega
  | succ k ih =>
    intro hk i h1 h2
    have hr := perm_rng hp h1 (by omega)
    have hk1 := perm_rng hp (x := (k : Int) + 1) (by omega) (by omega)
    have e1 : p[k]?.getD 0 = at1 p ((k : Int) + 1) := by rw [at1_get (by omega), List.getElem?_eq_getElem (by omega)]; rfl
    have hl := invTo_length p k
    rw [invTo, e1]
    unfold at1
    by_cases hik : i = (k : Int) + 1
    · subst hik
      rw [show (p[((k : Int) + 1 - 1).toNat]?.getD 0) = at1 p ((k : Int) + 1) from rfl]
      rw [List.getElem?_set_self (by omega)]; rfl
    · have hne : at1 p i ≠ at1 p ((k : Int) + 1) := fun e => hik (perm_inj hp ⟨h1, by omega⟩ ⟨by omega, by omega⟩ e)
      rw [show (p[(i - 1).toNat]?.getD 0) = at1 p i from rfl]
      rw [show (p[((k : Int) + 1 - 1).toNat]?.getD 0) = at1 p ((k : Int) + 1) from rfl]
      rw [List.getElem?_set_ne (by omega)]
      exact ih (by omega) i h1 (by omega)
theorem inv_at {p : List Int} (hp : permB p = true) {i : Int} (h1 : 1 ≤ i) (h2 : i ≤ p.length) : at1 (invL p) (at1 p i) = i := invTo_get hp p.length (Nat.le_refl _) i h1 h2
theorem invL_length (p : List Int) : (invL p).length = p.length := invTo_length p p.length
theorem at_inv {p : List Int} (hp : permB p = true) {v : Int} (h1 : 1 ≤ v) (h2 : v ≤ p.length) : at1 p (at1 (invL p) v) = v ∧ 1 ≤ at1 (invL p) v ∧ at1 (invL p) v ≤ p.length := by
  obtain ⟨x, hx1, hx2, rfl⟩ := perm_onto hp h1 h2
  rw [inv_at hp hx1 hx2]
  exact ⟨rfl, hx1, hx2⟩
theorem perm_inv {p : List Int} (hp : permB p = true) : permB (invL p) = true := by
  have h8 := (permB_true hp).1
  have hl := invL_length p
  refine perm_of (by omega) (fun x h1 h2 => ?_) (fun x y hx hy e => ?_)
  · have := (at_inv hp h1 (by omega)).2
    omega
  · have h1 := (at_inv hp hx.1 (by omega)).1
    have h2 := (at_inv hp hy.1 (by omega)).1
    rw [e, h2] at h1
    exact h1.symm
theorem inv_inv {p : List Int} (hp : permB p = true) : invL (invL p) = p := by
  have hl := invL_length p
  have hl2 := invL_length (invL p)
  refine at1_ext (by omega) fun x h1 h2 => ?_
  have hr := perm_rng hp h1 (by omega)
  have h3 := inv_at (perm_inv hp) (i := at1 p x) hr.1 (by omega)
  rw [inv_at hp h1 (by omega)] at h3
  exact h3
/-- The numbers at the places, in their order: the places of the inverse. -/
def invPl (p q l : List Int) : List Int := ofF q.length fun j => at1 p (at1 l (at1 (invL q) j))
theorem occ_inverse {p q l : List Int} (hp : permB p = true) (hq : permB q = true) (h : Occ p q l) : Occ (invL p) (invL q) (invPl p q l) := by
  have hl := h.len
  have hip := invL_length p
  have hiq := invL_length q
  have hb : ∀ j : Int, 1 ≤ j ∧ j ≤ q.length → 1 ≤ at1 (invL q) j ∧ at1 (invL q) j ≤ q.length := fun j hj => (at_inv hq hj.1 hj.2).2
  have hr : ∀ j : Int, 1 ≤ j ∧ j ≤ q.length → 1 ≤ at1 l (at1 (invL q) j) ∧ at1 l (at1 (invL q) j) ≤ p.length := fun j hj => h.rng _ (hb j hj).1 (by have := (hb j hj).2; omega)
  refine ⟨by rw [invPl, ofF_length, hiq], fun i j h1 h2 h3 => ?_, fun i h1 h2 => ?_, fun i j hi hj => ?_⟩
  · rw [invPl, ofF_length] at h3
    unfold invPl
    rw [at1_ofF h1 (by omega), at1_ofF (by omega) h3]
    rw [← h.ord _ _ (hb i ⟨h1, by omega⟩) (hb j ⟨by omega, h3⟩), (at_inv hq h1 (by omega)).1, (at_inv hq (by omega) h3).1]
    exact h2
  · rw [invPl, ofF_length] at h2
    unfold invPl
    rw [at1_ofF h1 h2, hip]
    have a := hr i ⟨h1, h2⟩
    exact perm_rng hp a.1 a.2
  · rw [hiq] at hi hj
    unfold invPl
    rw [at1_ofF hi.1 hi.2, at1_ofF hj.1 hj.2]
    have a := hr i hi
    have b := hr j hj
    rw [inv_at hp a.1 a.2, inv_at hp b.1 b.2, h.inc.lt (by have := hb i hi; omega) (by have := hb j hj; omega)]
theorem invPl_at {p q l : List Int} (hq : permB q = true) {i : Int} (h1 : 1 ≤ i) (h2 : i ≤ q.length) : at1 (invPl p q l) (at1 q i) = at1 p (at1 l i) := by
  have hr := perm_rng hq h1 h2
  unfold invPl
  rw [at1_ofF hr.1 hr.2, inv_at hq h1 h2]
theorem invPl_inj {p q l k : List Int} (hp : permB p = true) (hq : permB q = true) (hl : Occ p q l) (hk : Occ p q k) (e : invPl p q l = invPl p q k) : l = k := by
  have h1 := hl.len
  have h2 := hk.len
  refine at1_ext (by omega) fun x hx1 hx2 => ?_
  have : at1 (invPl p q l) (at1 q x) = at1 (invPl p q k) (at1 q x) := by rw [e]
  rw [invPl_at hq hx1 (by omega), invPl_at hq hx1 (by omega)] at this
  exact perm_inj hp (hl.rng x hx1 hx2) (hk.rng x hx1 (by omega)) this
theorem occ_count_inverse {p q : List Int} (hp : permB p = true) (hq : permB q = true) : (occI (invL p) (invL q)).length = (occI p q).length := by
  have hp' := perm_inv hp
  have hq' := perm_inv hq
  refine len_of_inj (occI_nodup _ _) (occI_nodup _ _) (invPl (invL p) (invL q)) (invPl p q) (fun l hl => ?_) (fun l hl k hk e => ?_) (fun l hl => ?_) (fun l hl k hk e => ?_)
  · have h := occ_inverse hp' hq' ((occ_iff hp' hq').1 hl)
    rw [inv_inv hp, inv_inv hq] at h
    exact (occ_iff hp hq).2 h
  · exact invPl_inj hp' hq' ((occ_iff hp' hq').1 hl) ((occ_iff hp' hq').1 hk) e
  · exact (occ_iff hp' hq').2 (occ_inverse hp hq ((occ_iff hp hq).1 hl))
  · exact invPl_inj hp hq ((occ_iff hp hq).1 hl) ((occ_iff hp hq).1 hk) e

/-! The complement. -/
theorem complL_length (p : List Int) : (complL p).length = p.length := by simp [complL]
theorem at1_compl {p : List Int} {x : Int} (h1 : 1 ≤ x) (h2 : x ≤ p.length) : at1 (complL p) x = (p.length : Int) + 1 - at1 p x := by
  obtain ⟨i, h, e1, e2⟩ := at1_nat (p := p) h1 h2
  have h' : i < (complL p).length := by rw [complL_length]; exact h
  rw [e2, e1, at1_get h']
  simp [complL]
theorem perm_compl {p : List Int} (hp : permB p = true) : permB (complL p) = true := by
  have h8 := (permB_true hp).1
  have hl := complL_length p
  refine perm_of (by omega) (fun x h1 h2 => ?_) (fun x y hx hy e => ?_)
  · rw [at1_compl h1 (by omega)]
    have := perm_rng hp h1 (by omega)
    omega
  · rw [at1_compl hx.1 (by omega), at1_compl hy.1 (by omega)] at e
    exact perm_inj hp ⟨hx.1, by omega⟩ ⟨hy.1, by omega⟩ (by omega)
theorem occ_compl {p q l : List Int} (h : Occ p q l) : Occ (complL p) (complL q) l := by
  have hl := h.len
  refine ⟨by rw [complL_length]; exact hl, h.inc, by rw [complL_length]; exact h.rng, fun i j hi hj => ?_⟩
  rw [complL_length] at hi hj
  have a := h.rng i hi.1 (by omega)
  have b := h.rng j hj.1 (by omega)
  rw [at1_compl hi.1 hi.2, at1_compl hj.1 hj.2, at1_compl a.1 a.2, at1_compl b.1 b.2]
  have := h.ord j i hj hi
  omega
theorem compl_compl {p : List Int} : complL (complL p) = p := by
  refine at1_ext (by rw [complL_length, complL_length]) fun x h1 h2 => ?_
  rw [complL_length, complL_length] at h2
  rw [at1_compl h1 (by rw [complL_length]; exact h2), at1_compl h1 h2, complL_length]
  omega

/-! All symmetries. -/
theorem perm_sym {p : List Int} (hp : permB p = true) (k : Nat) : permB (symL p k) = true := by
  unfold symL
  split
  all_goals first | exact hp | exact perm_inv hp | exact perm_reverse hp | exact perm_reverse (perm_inv hp) | exact perm_compl hp | exact perm_compl (perm_inv hp) | exact perm_compl (perm_reverse hp) | exact perm_compl (perm_reverse (perm_inv hp))
theorem has_reverse {p q : List Int} (hp : permB p = true) (hq : permB q = true) : hasB p.reverse q.reverse = hasB p q := by
  rw [Bool.eq_iff_iff, has_iff hp hq, has_iff (perm_reverse hp) (perm_reverse hq)]
  constructor
  · rintro ⟨l, h⟩
    have := occ_reverse h
    rw [List.reverse_reverse, List.reverse_reverse] at this
    exact ⟨_, this⟩
  · rintro ⟨l, h⟩; exact ⟨_, occ_reverse h⟩
theorem has_inverse {p q : List Int} (hp : permB p = true) (hq : permB q = true) : hasB (invL p) (invL q) = hasB p q := by
  rw [Bool.eq_iff_iff, has_iff hp hq, has_iff (perm_inv hp) (perm_inv hq)]
  constructor
  · rintro ⟨l, h⟩
    have := occ_inverse (perm_inv hp) (perm_inv hq) h
    rw [inv_inv hp, inv_inv hq] at this
    exact ⟨_, this⟩
  · rintro ⟨l, h⟩; exact ⟨_, occ_inverse hp hq h⟩
theorem has_compl {p q : List Int} (hp : permB p = true) (hq : permB q = true) : hasB (complL p) (complL q) = hasB p q := by
  rw [Bool.eq_iff_iff, has_iff hp hq, has_iff (perm_compl hp) (perm_compl hq)]
  constructor
  · rintro ⟨l, h⟩
    have := occ_compl h
    rw [compl_compl, compl_compl] at this
    exact ⟨_, this⟩
  · rintro ⟨l, h⟩; exact ⟨_, occ_compl h⟩
theorem has_sym {p q : List Int} (hp : permB p = true) (hq : permB q = true) (k : Nat) : hasB (symL p k) (symL q k) = hasB p q := by
  match k with
  | 0 => rfl
  | 1 => exact has_inverse hp hq
  | 2 => exact has_reverse hp hq
  | 3 => exact (has_reverse (perm_inv hp) (perm_inv hq)).trans (has_inverse hp hq)
  | 4 => exact has_compl hp hq
  | 5 => exact (has_compl (perm_inv hp) (perm_inv hq)).trans (has_inverse hp hq)
  | 6 => exact (has_compl (perm_reverse hp) (perm_reverse hq)).trans (has_reverse hp hq)
  | _ + 7 => exact (has_compl (perm_reverse (perm_inv hp)) (perm_reverse (perm_inv hq))).trans ((has_reverse (perm_inv hp) (perm_inv hq)).trans (has_inverse hp hq))
end Go.Proofs.YtfcgohhmpgffjaaGreatDoor

/- Plain maths of FnPatterns: patterns of places, patterns without a place, subsets by bits. -/
namespace Go.Proofs.YtfcgohhmpgffjaaGreatDoor
set_option maxRecDepth 100000

theorem at1_atL {p l : List Int} {x : Int} (h1 : 1 ≤ x) (h2 : x ≤ l.length) : at1 (atL p l) x = at1 p (at1 l x) := by
  obtain ⟨i, h, e1, e2⟩ := at1_nat (p := l) h1 h2
  have h' : i < (atL p l).length := by rw [atL_length]; exact h
  rw [e2, e1, at1_get h']
  simp [atL_map]
theorem belowN_bound {L : List Int} {x : Int} (h : x ∈ L) : belowN L x < L.length := by
  unfold belowN
  apply List.length_filter_lt_length_iff_exists.2
  exact ⟨x, h, by simp⟩
theorem at1_pat {L : List Int} {x : Int} (h1 : 1 ≤ x) (h2 : x ≤ L.length) : at1 (patL L) x = (belowN L (at1 L x) : Int) + 1 := by
  obtain ⟨i, h, e1, e2⟩ := at1_nat (p := L) h1 h2
  have h' : i < (patL L).length := by rw [patL_length]; exact h
  rw [e2, e1, at1_get h']
  simp [patL]
theorem patL_permB {L : List Int} (hn : L.Nodup) (h8 : L.length ≤ 8) : permB (patL L) = true := by
  have hl := patL_length L
  refine perm_of (by omega) (fun x h1 h2 => ?_) (fun x y hx hy e => ?_)
  · rw [at1_pat h1 (by omega)]
    have := belowN_bound (at1_mem h1 (show x ≤ (L.length : Int) by omega))
    omega
  · rw [at1_pat hx.1 (by omega), at1_pat hy.1 (by omega)] at e
    have mx := at1_mem hx.1 (show x ≤ (L.length : Int) by omega)
    have my := at1_mem hy.1 (show y ≤ (L.length : Int) by omega)
    have hxy : at1 L x = at1 L y := by
      rcases Int.lt_trichotomy (at1 L x) (at1 L y) with a | a | a
      · have := belowN_lt mx a; omega
      · exact a
      · have := belowN_lt my a; omega
    obtain ⟨i, hi, e1, e2⟩ := at1_nat hx.1 (show x ≤ (L.length : Int) by omega)
    obtain ⟨j, hj, e3, e4⟩ := at1_nat hy.1 (show y ≤ (L.length : Int) by omega)
    rw [e2, e4] at hxy
    have := nodup_inj hn hi hj hxy
    omega
theorem pat_occ {p l : List Int} {k : Nat} (hp : permB p = true) (h : l ∈ ascI p.length k) : permB (patL (atL p l)) = true ∧ Occ p (patL (atL p l)) l := by
  obtain ⟨hk, ha⟩ := ascI_mem h
  have hn := atL_nodup (permB_true hp).2.2 ha
  have h8 := (permB_true hp).1
  have hl8 : l.length ≤ 8 := by
    obtain ⟨h1, h2, h3⟩ := ascI_iff.1 h
    have := nodup_sub_len l (nums p.length) (by rw [List.nodup_iff_pairwise_ne]; exact h2.imp fun h => by omega) fun x hx => nums_mem.2 (h3 x hx)
    rw [nums_length] at this
    omega
  have hpp := patL_permB hn (by rw [atL_length]; exact hl8)
  refine ⟨hpp, (occ_iff hp hpp).1 ?_⟩
  unfold occI
  rw [patL_length, atL_length, hk]
  exact List.mem_filter.2 ⟨h, decide_eq_true rfl⟩
theorem at1_cut {p : List Int} {i : Nat} {x : Int} (hi : i < p.length) (h1 : 1 ≤ x) (h2 : x ≤ (p.length : Int) - 1) : at1 (cutAt p i) x = at1 p (if x ≤ i then x else x + 1) := by
  have hc := cutAt_length p i hi
  obtain ⟨j, hj, e1, e2⟩ := at1_nat (p := cutAt p i) h1 (by omega)
  rw [e2]
  have hj' : j < (p.take i ++ p.drop (i + 1)).length := hj
  show (p.take i ++ p.drop (i + 1))[j] = _
  by_cases hlt : j < i
  · rw [List.getElem_append_left (by rw [List.length_take]; omega), List.getElem_take, if_pos (by omega), e1, at1_get (by omega)]
  · rw [List.getElem_append_right (by rw [List.length_take]; omega), List.getElem_drop, if_neg (by omega), e1, show (j : Int) + 1 + 1 = ((j + 1 : Nat) : Int) + 1 by omega, at1_get (by omega)]
    congr 1
    rw [List.length_take]
    omega
def cutPl (n i : Nat) : List Int := ofF (n - 1) fun x => if x ≤ i then x else x + 1
theorem atL_cut {p : List Int} {i : Nat} (hi : i < p.length) : atL p (cutPl p.length i) = cutAt p i := by
  have hc := cutAt_length p i hi
  have hl : (cutPl p.length i).length = p.length - 1 := ofF_length _ _
  refine at1_ext (by rw [atL_length]; omega) fun x h1 h2 => ?_
  rw [atL_length] at h2
  rw [at1_atL h1 h2, at1_cut hi h1 (by omega)]
  unfold cutPl
  rw [at1_ofF h1 (by omega)]
theorem cutPl_asc {n i : Nat} (hi : i < n) : cutPl n i ∈ ascI n (n - 1) := by
  rw [ascI_iff]
  have hl : (cutPl n i).length = n - 1 := ofF_length _ _
  refine ⟨hl, inc_pair.1 fun a b h1 h2 h3 => ?_, rng_mem.1 fun a h1 h2 => ?_⟩
  · unfold cutPl
    rw [at1_ofF h1 (by omega), at1_ofF (by omega) (by omega)]
    split <;> split <;> omega
  · unfold cutPl
    rw [at1_ofF h1 (by omega)]
    split <;> omega
/-- A permutation has the pattern that is left without a place. -/
theorem cut_occ {p : List Int} {i : Nat} (hp : permB p = true) (hi : i < p.length) : permB (patL (cutAt p i)) = true ∧ hasB p (patL (cutAt p i)) = true := by
  have h := pat_occ hp (cutPl_asc hi)
  rw [atL_cut hi] at h
  exact ⟨h.1, (has_iff hp h.1).2 ⟨_, h.2⟩⟩
/-- Are these places of the pattern? -/
def isoB (p q l : List Int) : Bool := permB p && permB q && joinTo (p.length + 1) l l.length && decide (patL (atL p l) = q)
theorem inc_join {n : Nat} {l : List Int} (h : l.Pairwise (· < ·)) (hr : ∀ x ∈ l, 1 ≤ x ∧ x ≤ n) : joinTo (n + 1) l l.length = true := by
  unfold joinTo
  rw [List.all_eq_true]
  intro j hj
  have hj := List.mem_range.1 hj
  unfold joinAt
  rw [List.getElem?_eq_getElem hj]
  simp only [Option.getD_some, decide_eq_true_eq]
  have := hr _ (List.getElem_mem hj)
  refine ⟨this.1, by omega, ?_⟩
  rcases Nat.eq_zero_or_pos j with h0 | h0
  · exact .inl h0
  · right
    rw [List.getElem?_eq_getElem (by omega)]
    exact List.pairwise_iff_getElem.1 h (j - 1) j (by omega) hj (by omega)
theorem join_facts {n : Nat} {l : List Int} (h : joinTo (n + 1) l l.length = true) : l.Pairwise (· < ·) ∧ (∀ x ∈ l, 1 ≤ x ∧ x ≤ n) ∧ l.length ≤ n := by
  unfold joinTo at h
  rw [List.all_eq_true] at h
  have hat : ∀ j (hj : j < l.length), 1 ≤ l[j] ∧ l[j] ≤ n ∧ (j = 0 ∨ l[j - 1]?.getD 0 < l[j]) := fun j hj => by
    have := h j (List.mem_range.2 hj)
    unfold joinAt at this
    rw [List.getElem?_eq_getElem hj] at this
    simp only [Option.getD_some, decide_eq_true_eq] at this
    omega
  have hp : l.Pairwise (· < ·) := by
    rw [List.pairwise_iff_getElem]
    intro i j hi hj hij
    induction j with
    | zero => omega
    | succ j ih =>
      have h1 := (hat (j + 1) hj).2.2
      rw [Nat.add_sub_cancel, List.getElem?_eq_getElem (show j < l.length by omega)] at h1
      simp only [Option.getD_some] at h1
      by_cases e : i = j
      · subst e; omega
      · have := ih (by omega) (by omega); omega
  have hr : ∀ x ∈ l, 1 ≤ x ∧ x ≤ n := fun x hx => by
    obtain ⟨j, hj, rfl⟩ := List.mem_iff_getElem.1 hx
    have := hat j hj
    exact ⟨this.1, this.2.1⟩
  refine ⟨hp, hr, ?_⟩
  have := nodup_sub_len l (nums n) (by rw [List.nodup_iff_pairwise_ne]; exact hp.imp fun h => by omega) fun x hx => nums_mem.2 (hr x hx)
  rwa [nums_length] at this
theorem occ_iso {p q l : List Int} (hp : permB p = true) (hq : permB q = true) (h : l ∈ occL p q) : isoB p q l = true := by
  rw [occ_eq hp hq] at h
  obtain ⟨h1, h2⟩ := List.mem_filter.1 h
  obtain ⟨_, h3, h4⟩ := ascI_iff.1 h1
  unfold isoB
  rw [hp, hq, inc_join h3 h4, h2]; rfl
theorem inc_ext {l k : List Int} (hl : l.Pairwise (· < ·)) (hk : k.Pairwise (· < ·)) (h : ∀ x, x ∈ l ↔ x ∈ k) : l = k := by
  induction l generalizing k with
  | nil =>
    cases k with
    | nil => rfl
    | cons b u => have := (h b).2 (by simp); cases this
  | cons a t ih =>
    cases k with
    | nil => have := (h a).1 (by simp); cases this
    | cons b u =>
      rw [List.pairwise_cons] at hl hk
      have hab : a = b := by
        rcases List.mem_cons.1 ((h a).1 (by simp)) with e | e
        · exact e
        · rcases List.mem_cons.1 ((h b).2 (by simp)) with e2 | e2
          · exact e2.symm
          · have := hk.1 a e
            have := hl.1 b e2
            omega
      subst hab
      rw [ih hl.2 hk.2 fun x => ?_]
      constructor
      · intro hx
        rcases List.mem_cons.1 ((h x).1 (by simp [hx])) with e | e
        · subst e; have := hl.1 x hx; omega
        · exact e
      · intro hx
        rcases List.mem_cons.1 ((h x).2 (by simp [hx])) with e | e
        · subst e; have := hk.1 x hx; omega
        · exact e
/-- The places whose bits are set. -/
def bitsL (n s : Nat) : List Int := ((List.range n).filter fun i => s.testBit i).map fun i : Nat => (i : Int) + 1
theorem bitsL_succ (n s : Nat) : bitsL (n + 1) s = bitsL n s ++ (if s.testBit n = true then [(n : Int) + 1] else []) := by
  unfold bitsL
  rw [List.range_succ, List.filter_append, List.map_append]
  by_cases h : s.testBit n = true <;> simp [h]
theorem bitsL_mem {n s : Nat} {x : Int} : x ∈ bitsL n s ↔ 1 ≤ x ∧ x ≤ n ∧ s.testBit (x - 1).toNat = true := by
  unfold bitsL
  rw [List.mem_map]
  constructor
  · rintro ⟨i, hi, rfl⟩
    obtain ⟨h1, h2⟩ := List.mem_filter.1 hi
    have := List.mem_range.1 h1
    refine ⟨by omega, by omega, ?_⟩
    rw [show ((i : Int) + 1 - 1).toNat = i by omega]; exact h2
  · rintro ⟨h1, h2, h3⟩
    exact ⟨(x - 1).toNat, List.mem_filter.2 ⟨List.mem_range.2 (by omega), h3⟩, by omega⟩
theorem bitsL_inc (n s : Nat) : (bitsL n s).Pairwise (· < ·) := by
  unfold bitsL
  rw [List.pairwise_map]
  exact (List.pairwise_lt_range.sublist List.filter_sublist).imp fun h => by omega
theorem bitsL_asc (n s : Nat) : bitsL n s ∈ ascI n (bitsL n s).length := ascI_iff.2 ⟨rfl, bitsL_inc n s, fun x hx => ⟨(bitsL_mem.1 hx).1, (bitsL_mem.1 hx).2.1⟩⟩
theorem bits_ex (f : Nat → Bool) : ∀ n : Nat, ∃ s, s < 2 ^ n ∧ ∀ i, i < n → s.testBit i = f i := by
  intro n
  induction n with
  | zero => exact ⟨0, by simp, fun i hi => by omega⟩
  | succ n ih =>
    obtain ⟨s, hs, h⟩ := ih
    by_cases hf : f n = true
    · refine ⟨2 ^ n + s, by rw [Nat.pow_succ]; omega, fun i hi => ?_⟩
      rcases Nat.lt_or_ge i n with hlt | hge
      · rw [Nat.testBit_two_pow_add_gt hlt]; exact h i hlt
      · obtain rfl : i = n := by omega
        rw [Nat.testBit_two_pow_add_eq, Nat.testBit_lt_two_pow hs, hf]; rfl
    · refine ⟨s, by rw [Nat.pow_succ]; omega, fun i hi => ?_⟩
      rcases Nat.lt_or_ge i n with hlt | hge
      · exact h i hlt
      · obtain rfl : i = n := by omega
        rw [Nat.testBit_lt_two_pow hs]
        simpa using hf
theorem asc_bits {n k : Nat} {l : List Int} (h : l ∈ ascI n k) : ∃ s, s < 2 ^ n ∧ bitsL n s = l := by
  obtain ⟨h1, h2, h3⟩ := ascI_iff.1 h
  obtain ⟨s, hs, hb⟩ := bits_ex (fun i => decide (((i : Int) + 1) ∈ l)) n
  refine ⟨s, hs, inc_ext (bitsL_inc n s) h2 fun x => ?_⟩
  rw [bitsL_mem]
  constructor
  · rintro ⟨a, b, c⟩
    rw [hb _ (by omega), decide_eq_true_eq, show (((x - 1).toNat : Int) + 1) = x by omega] at c
    exact c
  · intro hx
    have := h3 x hx
    refine ⟨this.1, this.2, ?_⟩
    rw [hb _ (by omega), decide_eq_true_eq, show (((x - 1).toNat : Int) + 1) = x by omega]
    exact hx
/-- The patterns of k places. -/
def patsM (p : List Int) (k : Nat) : List (List Int) := (ascI p.length k).map fun l => patL (atL p l)
def patsL (p : List Int) (k : Nat) : List (List Int) := ordL (patsM p k)
/-- What the reference has put from the first s sets. -/
def patsTo (p : List Int) (k s : Nat) : List (List Int) := ordL (((List.range s).filter fun t => decide ((bitsL p.length t).length = k)).map fun t => patL (atL p (bitsL p.length t)))
theorem patsTo_succ (p : List Int) (k s : Nat) : patsTo p k (s + 1) = if (bitsL p.length s).length = k then putL (patsTo p k s) (patL (atL p (bitsL p.length s))) else patsTo p k s := by
  unfold patsTo
  rw [List.range_succ, List.filter_append, List.map_append]
  by_cases h : (bitsL p.length s).length = k
  · rw [if_pos h]
    simp [h, ordL]
  · rw [if_neg h]
    simp [h]
theorem patsTo_all (p : List Int) (k : Nat) : patsTo p k (2 ^ p.length) = patsL p k := by
  unfold patsTo patsL patsM
  refine ordL_congr fun q => ?_
  rw [List.mem_map, List.mem_map]
  constructor
  · rintro ⟨t, ht, rfl⟩
    obtain ⟨_, h2⟩ := List.mem_filter.1 ht
    have h2 := of_decide_eq_true h2
    exact ⟨_, by rw [← h2]; exact bitsL_asc _ _, rfl⟩
  · rintro ⟨l, hl, rfl⟩
    obtain ⟨s, hs, rfl⟩ := asc_bits hl
    exact ⟨s, List.mem_filter.2 ⟨List.mem_range.2 hs, decide_eq_true (ascI_iff.1 hl).1⟩, rfl⟩
theorem pats_has {p q : List Int} {k : Nat} (hp : permB p = true) (h : q ∈ patsL p k) : permB q = true ∧ hasB p q = true := by
  unfold patsL patsM at h
  rw [ordL_mem] at h
  obtain ⟨l, hl, rfl⟩ := List.mem_map.1 h
  have := pat_occ hp hl
  exact ⟨this.1, (has_iff hp this.1).2 ⟨l, this.2⟩⟩
end Go.Proofs.YtfcgohhmpgffjaaGreatDoor

/- Plain maths of FnNears: near occurrences reversed, and with every place joined. -/
namespace Go.Proofs.YtfcgohhmpgffjaaGreatDoor
set_option maxRecDepth 100000

theorem nth_at1 (l : List Int) (i : Int) : nth l i = at1 l (i + 1) := by unfold nth at1; rw [show i + 1 - 1 = i by omega]
theorem nearFit_iff {ys l : List Int} : nearFit ys l = true ↔ ∀ y ∈ ys, at1 l (y + 1) = at1 l y + 1 := by
  unfold nearFit badJ
  rw [Bool.not_eq_true', List.any_eq_false]
  constructor
  · intro h y hy
    have := h y hy
    rw [nth_at1, nth_at1, show y - 1 + 1 = y by omega] at this
    simpa using this
  · intro h y hy
    rw [nth_at1, nth_at1, show y - 1 + 1 = y by omega, h y hy]
    simp
theorem near_none (p xs : List Int) : nearCnt p xs [] = (occI p xs).length := by
  unfold nearCnt
  rw [List.filter_eq_self.2]
  intro l _
  rw [nearFit_iff]
  intro y hy
  cases hy
theorem near_le (p xs ys : List Int) : nearCnt p xs ys ≤ (occI p xs).length := List.length_filter_le _ _
theorem near_parts {xs ys : List Int} (h : nearB xs ys = true) : permB xs = true ∧ ys.Pairwise (· < ·) ∧ ∀ y ∈ ys, 1 ≤ y ∧ y < xs.length := by
  have hr := nearB_range h
  unfold nearB at h
  rw [Bool.and_eq_true] at h
  refine ⟨h.1, ?_, hr⟩
  rcases Nat.eq_zero_or_pos xs.length with h0 | h0
  · cases ys with
    | nil => exact List.Pairwise.nil
    | cons y t => have := hr y (by simp); omega
  · obtain ⟨n, hn⟩ : ∃ n, xs.length = n + 1 := ⟨xs.length - 1, by omega⟩
    rw [hn] at h
    exact (join_facts h.2).1
theorem near_of {xs ys : List Int} (hp : permB xs = true) (h : ys.Pairwise (· < ·)) (hr : ∀ y ∈ ys, 1 ≤ y ∧ y < xs.length) : nearB xs ys = true := by
  unfold nearB
  rw [hp, Bool.true_and]
  rcases Nat.eq_zero_or_pos xs.length with h0 | h0
  · cases ys with
    | nil => rfl
    | cons y t => have := hr y (by simp); omega
  · obtain ⟨n, hn⟩ : ∃ n, xs.length = n + 1 := ⟨xs.length - 1, by omega⟩
    rw [hn]
    exact inc_join h fun x hx => by have := hr x hx; omega
theorem rnTo_mem {n : Nat} {ys : List Int} {x : Int} : x ∈ rnTo n ys ys.length ↔ (n : Int) - x ∈ ys := by
  unfold rnTo
  rw [List.take_of_length_le (by simp), List.mem_map]
  constructor
  · rintro ⟨y, hy, rfl⟩
    rw [show (n : Int) - ((n : Int) - y) = y by omega]
    simpa using hy
  · intro h
    exact ⟨_, by simpa using h, by omega⟩
theorem near_rev {xs ys : List Int} (h : nearB xs ys = true) : nearB xs.reverse (rnTo xs.length ys ys.length) = true := by
  obtain ⟨h1, h2, h3⟩ := near_parts h
  refine near_of (perm_reverse h1) ?_ fun x hx => ?_
  · unfold rnTo
    rw [List.take_of_length_le (by simp), List.pairwise_map, List.pairwise_reverse]
    exact h2.imp fun h => by omega
  · have := h3 _ (rnTo_mem.1 hx)
    rw [List.length_reverse]
    omega
theorem revPl_near {n m : Nat} {ys l : List Int} (hr : ∀ y ∈ ys, 1 ≤ y ∧ y < m) (h : nearFit ys l = true) (zs : List Int) (hz : ∀ z ∈ zs, (m : Int) - z ∈ ys) : nearFit zs (revPl n m l) = true := by
  rw [nearFit_iff] at *
  intro z hz'
  have hy := hz z hz'
  have hb := hr _ hy
  have e := h _ hy
  unfold revPl
  rw [at1_ofF (by omega) (by omega), at1_ofF (by omega) (by omega), show (m : Int) + 1 - (z + 1) = (m : Int) - z by omega, show (m : Int) + 1 - z = (m : Int) - z + 1 by omega]
  omega
theorem near_count_reverse {p xs ys : List Int} (hp : permB p = true) (h : nearB xs ys = true) : nearCnt p.reverse xs.reverse (rnTo xs.length ys ys.length) = nearCnt p xs ys := by
  obtain ⟨hq, h2, h3⟩ := near_parts h
  have hp' := perm_reverse hp
  have hq' := perm_reverse hq
  have h4 : ∀ y ∈ rnTo xs.length ys ys.length, 1 ≤ y ∧ y < (xs.length : Int) := fun y hy => by have := h3 _ (rnTo_mem.1 hy); omega
  unfold nearCnt
  refine len_of_inj ((occI_nodup _ _).filter _) ((occI_nodup _ _).filter _) (revPl p.length xs.length) (revPl p.length xs.length) (fun l hl => ?_) (fun l hl k hk e => ?_) (fun l hl => ?_) (fun l hl k hk e => ?_)
  · obtain ⟨a, b⟩ := List.mem_filter.1 hl
    have h := occ_reverse ((occ_iff hp' hq').1 a)
    rw [List.reverse_reverse, List.reverse_reverse, List.length_reverse, List.length_reverse] at h
    exact List.mem_filter.2 ⟨(occ_iff hp hq).2 h, revPl_near h4 b _ fun z hz => by rw [rnTo_mem, show (xs.length : Int) - ((xs.length : Int) - z) = z by omega]; exact hz⟩
  · have h1 := ((occ_iff hp' hq').1 (List.mem_filter.1 hl).1).len
    have h2 := ((occ_iff hp' hq').1 (List.mem_filter.1 hk).1).len
    rw [List.length_reverse] at h1 h2
    exact revPl_inj h1 h2 e
  · obtain ⟨a, b⟩ := List.mem_filter.1 hl
    exact List.mem_filter.2 ⟨(occ_iff hp' hq').2 (occ_reverse ((occ_iff hp hq).1 a)), revPl_near h3 b _ fun z hz => rnTo_mem.1 hz⟩
  · exact revPl_inj ((occ_iff hp hq).1 (List.mem_filter.1 hl).1).len ((occ_iff hp hq).1 (List.mem_filter.1 hk).1).len e
end Go.Proofs.YtfcgohhmpgffjaaGreatDoor

/- Plain maths of FnNears: with every place joined, occurrences are windows. -/
namespace Go.Proofs.YtfcgohhmpgffjaaGreatDoor
set_option maxRecDepth 100000

def winP (m i : Nat) : List Int := ofF m fun x => (i : Int) + x
theorem winP_length (m i : Nat) : (winP m i).length = m := ofF_length _ _
theorem at1_win {m i : Nat} {x : Int} (h1 : 1 ≤ x) (h2 : x ≤ m) : at1 (winP m i) x = (i : Int) + x := at1_ofF h1 h2
theorem atL_win {p : List Int} {m i : Nat} (h : i + m ≤ p.length) : atL p (winP m i) = (p.drop i).take m := by
  refine at1_ext (by rw [atL_length, winP_length, List.length_take, List.length_drop]; omega) fun x h1 h2 => ?_
  rw [atL_length, winP_length] at h2
  rw [at1_atL h1 (by rw [winP_length]; exact h2), at1_win h1 h2]
  unfold at1
  rw [List.getElem?_take, if_pos (by omega), List.getElem?_drop, show ((i : Int) + x - 1).toNat = i + (x - 1).toNat by omega]
theorem idL_mem {n : Nat} {y : Int} : y ∈ idL n ↔ 1 ≤ y ∧ y ≤ n := by
  unfold idL
  rw [List.mem_map]
  constructor
  · rintro ⟨i, hi, rfl⟩
    have := List.mem_range.1 hi
    omega
  · intro h
    exact ⟨(y - 1).toNat, List.mem_range.2 (by omega), by omega⟩
theorem win_asc {n m i : Nat} (h : i + m ≤ n) : winP m i ∈ ascI n m := by
  rw [ascI_iff]
  refine ⟨winP_length m i, inc_pair.1 fun a b h1 h2 h3 => ?_, rng_mem.1 fun a h1 h2 => ?_⟩
  · rw [winP_length] at h3
    rw [at1_win h1 (by omega), at1_win (by omega) h3]
    omega
  · rw [winP_length] at h2
    rw [at1_win h1 h2]
    omega
theorem win_near (m i : Nat) : nearFit (idL (m - 1)) (winP m i) = true := by
  rw [nearFit_iff]
  intro y hy
  have := idL_mem.1 hy
  rw [at1_win (by omega) (by omega), at1_win (by omega) (by omega)]
  omega
theorem near_win {n m : Nat} {l : List Int} (hm : 0 < m) (h : l ∈ ascI n m) (hf : nearFit (idL (m - 1)) l = true) : ∃ i, i + m ≤ n ∧ l = winP m i := by
  obtain ⟨hl, hi, hr⟩ := ascI_iff.1 h
  have hr' := rng_mem.2 hr
  rw [nearFit_iff] at hf
  have key : ∀ k : Nat, k < m → at1 l ((k : Int) + 1) = at1 l 1 + k := by
    intro k
    induction k with
    | zero => intro _; simp
    | succ k ih =>
      intro hk
      have h1 := ih (by omega)
      have h2 := hf ((k : Int) + 1) (idL_mem.2 (by omega))
      rw [show ((k + 1 : Nat) : Int) + 1 = (k : Int) + 1 + 1 by omega, h2, h1]
      omega
  have h1 := hr' 1 (by omega) (by omega)
  have h2 := hr' (m : Int) (by omega) (by omega)
  have h3 := key (m - 1) (by omega)
  rw [show ((m - 1 : Nat) : Int) + 1 = m by omega] at h3
  refine ⟨(at1 l 1 - 1).toNat, by omega, at1_ext (by rw [winP_length]; exact hl) fun x hx1 hx2 => ?_⟩
  rw [at1_win hx1 (by omega)]
  have h4 := key (x - 1).toNat (by omega)
  rw [show (((x - 1).toNat : Nat) : Int) + 1 = x by omega] at h4
  omega
theorem win_count {p q : List Int} (hm : 0 < q.length) : nearCnt p q (idL (q.length - 1)) = runsN p q := by
  unfold nearCnt runsN runsTo
  apply Nat.le_antisymm
  · have hn := (occI_nodup p q).filter (nearFit (idL (q.length - 1)))
    refine Nat.le_trans (nodup_sub_len _ (((List.range (p.length + 1 - q.length)).filter (runH p q)).map (winP q.length)) hn fun l hl => ?_) (by rw [List.length_map]; exact Nat.le_refl _)
    obtain ⟨a, b⟩ := List.mem_filter.1 hl
    unfold occI at a
    obtain ⟨a1, a2⟩ := List.mem_filter.1 a
    obtain ⟨i, h1, rfl⟩ := near_win hm a1 b
    refine List.mem_map.2 ⟨i, List.mem_filter.2 ⟨List.mem_range.2 (by omega), ?_⟩, rfl⟩
    rw [atL_win h1] at a2
    exact a2
  · have hn : (((List.range (p.length + 1 - q.length)).filter (runH p q)).map (winP q.length)).Nodup := by
      rw [List.nodup_iff_pairwise_ne, List.pairwise_map]
      refine (List.pairwise_lt_range.sublist List.filter_sublist).imp fun {a b} h e => ?_
      have : at1 (winP q.length a) 1 = at1 (winP q.length b) 1 := congrArg (fun t => at1 t 1) e
      rw [at1_win (by omega) (by omega), at1_win (by omega) (by omega)] at this
      omega
    have := nodup_sub_len _ ((occI p q).filter (nearFit (idL (q.length - 1)))) hn fun l hl => ?_
    · rw [List.length_map] at this
      exact this
    · obtain ⟨i, hi, rfl⟩ := List.mem_map.1 hl
      obtain ⟨a, b⟩ := List.mem_filter.1 hi
      have a := List.mem_range.1 a
      refine List.mem_filter.2 ⟨List.mem_filter.2 ⟨win_asc (by omega), ?_⟩, win_near _ _⟩
      rw [atL_win (by omega)]
      exact b
theorem con_runs {p q : List Int} (hp : permB p = true) (hq : permB q = true) (hm : 0 < q.length) : cnG p (conG1 q) (conG2 q) = runsG p q := by
  have hnb : nearB q (idL (q.length - 1)) = true := near_of hq (by
    unfold idL
    rw [List.pairwise_map]
    exact List.pairwise_lt_range.imp fun h => by omega) fun y hy => by have := idL_mem.1 hy; omega
  rw [conG1, if_pos hq, conG2, if_pos hq, cnG, if_pos ⟨hp, hnb⟩, runsG, if_pos ⟨hp, hq, by omega⟩, win_count hm]
end Go.Proofs.YtfcgohhmpgffjaaGreatDoor
