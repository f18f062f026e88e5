/- The draws of FnRuns: pairs of lists, numbers. -/
import Derived.Test.YthipikllgpnlhaaD3
import Derived.Test.YthipikllgpnlhaaR5
import Derived.Test.YthipikllgpnlhaaV3
namespace Go.Proofs.Ythipikllgpnlhaa
set_option maxRecDepth 100000
open Go Go.RowKit

/-- Two lists were drawn, both read. -/
def RetII (w : World) (ok : List Int → List Int → Prop) (en : Ending) (w' : World) : Prop :=
  ∃ D k xs E m ys, en = .returned (.tuple #[.slice D xs.length k, .slice E ys.length m]) ∧ ok xs ys ∧ In w' D k xs ∧ In w' E m ys ∧ Below w.heap.size w w'
theorem In.of_own {w : World} {base e c : Nat} {A : Option Addr} {xs : List Int} (h : w.ownsRow base e 1 (.slice A xs.length c) xs.length (xs.map (Value.int .i64))) (hl : xs.length ≤ 1048576) : In w A c xs := ⟨hl, (own_caps h).1, Rd.of_own h⟩
set_option maxHeartbeats 2000000 in
theorem l7Case_any (A : Option Addr) (c : Nat) (bs : List Int) (w : World) (h : InY w A c bs) :
    Calls Try.prog 102 #[.slice A bs.length c] w (RetII w fun xs ys => xs.length ≤ 9 ∧ ys.length ≤ 9) := by
  have HC := Lib.hid (l1New_any A c bs w h.len h.rd)
  go_enter Try.func102, Try.ntmps102
  go_wp2_with fail
  (with_reducible refine HC.out.mono ?_)
  rintro e w1 ⟨q, rfl, hq, hc, hb⟩
  have HD := Lib.hid (l2Bent_any w1 q A c bs hc)
  clear HC
  go_wp2_with fail
  (with_reducible refine HD.out.mono ?_)
  rintro e w2 ⟨D, k, xs, rfl, hl, ho, k1⟩
  have HO := Lib.hid (l1Once_any w2 q A c bs 14 (by omega) k1.cur)
  clear HD
  go_wp2_with fail
  (with_reducible refine HO.out.mono ?_)
  rintro e w3 ⟨b, rfl, kb⟩
  have hq1 := hc.lt
  have ho := own_drawn ho kb hq1
  have k2 := k1.trans kb
  have hsz := k2.span.size
  clear HO k1 kb
  rcases b with _ | _
  · have kA := k2.next (((Below.refl w3.heap.size w3).alloc (Nat.le_refl _) (.cells #[.int .i64 0, .int .i64 1, .int .i64 2, .int .i64 3, .int .i64 3, .int .i64 4] 3)).mono hsz) hq1
    have hoA := own_below ho ((Below.refl w3.heap.size w3).alloc (Nat.le_refl _) (.cells #[.int .i64 0, .int .i64 1, .int .i64 2, .int .i64 3, .int .i64 3, .int .i64 4] 3))
    have HP := Lib.hid (l1PickInt_any _ q A c bs w3.heap.size 6 6 [0, 1, 2, 3, 3, 4] rfl (by decide) (by decide) (by omega) (by simp) (fun j hj => (obj_cell (obj_new w3 _)).trans (by
      have hj : j < 6 := hj
      rcases j with _ | _ | _ | _ | _ | _ | j
      all_goals first | rfl | omega)) kA.cur)
    go_wp2_with fail
    (with_reducible refine HP.out.mono ?_)
    rintro e w4 ⟨x, rfl, hx, k3⟩
    have hx8 : 0 ≤ x ∧ x ≤ 4 := by simp at hx; omega
    obtain ⟨n, rfl⟩ := Int.eq_ofNat_of_zero_le hx8.1
    have ho := own_drawn hoA k3 hq1
    have k4 := kA.trans k3
    have HD := Lib.hid (l2Draw_any w4 q A c bs n (by omega) k4.cur)
    clear HP hx
    go_wp2_with fail
    (with_reducible refine HD.out.mono ?_)
    rintro e w5 ⟨E, m, ys, rfl, hp, ho2, k5⟩
    have hyl : ys.length = n := by rw [hp.length_eq, upToL_length]
    have ho := own_drawn ho k5 hq1
    have HR := Lib.hid (show ys.length ≤ 9 by omega)
    have k6 := k4.trans k5
    clear hyl hp
    go_wp2_with fail
    go_ret2
    exact ⟨D, k, xs, E, m, ys, rfl, ⟨hl, HR.out⟩, In.of_own ho (by omega), In.of_own ho2 (by have := HR.out; omega), hb.trans (k6.below hq hb.size)⟩
  · have HD := Lib.hid (l2Bent_any w3 q A c bs k2.cur)
    go_wp2_with fail
    (with_reducible refine HD.out.mono ?_)
    rintro e w4 ⟨E, m, ys, rfl, hl2, ho2, k4⟩
    have ho := own_drawn ho k4 hq1
    go_wp2_with fail
    go_ret2
    exact ⟨D, k, xs, E, m, ys, rfl, ⟨hl, hl2⟩, In.of_own ho (by omega), In.of_own ho2 (by omega), hb.trans ((k2.trans k4).below hq hb.size)⟩
set_option maxHeartbeats 800000 in
theorem drawCountRuns (A : Option Addr) (c : Nat) (bs : List Int) (w : World) (h : InY w A c bs) :
    Calls Try.prog 48 #[.slice A bs.length c] w (RetII w fun xs ys => xs.length ≤ 9 ∧ ys.length ≤ 9) := by
  have HC := Lib.hid (l7Case_any A c bs w h)
  go_enter Try.func48, Try.ntmps48
  go_wp2_with fail
  (with_reducible refine HC.out.mono ?_)
  rintro e w1 ⟨D, k, xs, E, m, ys, rfl, hok, h1, h2, hb⟩
  go_wp2_with fail
  go_ret2
  exact ⟨D, k, xs, E, m, ys, rfl, hok, h1, h2, hb⟩
set_option maxHeartbeats 800000 in
theorem drawOverlaps (A : Option Addr) (c : Nat) (bs : List Int) (w : World) (h : InY w A c bs) :
    Calls Try.prog 50 #[.slice A bs.length c] w (RetDL w fun ys => ys.length ≤ 9) := by
  have HC := Lib.hid (l1New_any A c bs w h.len h.rd)
  go_enter Try.func50, Try.ntmps50
  go_wp2_with fail
  (with_reducible refine HC.out.mono ?_)
  rintro e w1 ⟨q, rfl, hq, hc, hb⟩
  have HD := Lib.hid (l2Bent_any w1 q A c bs hc)
  go_wp2_with fail
  (with_reducible refine HD.out.mono ?_)
  rintro e w2 ⟨D, k, ys, rfl, hl, ho, k1⟩
  go_wp2_with fail
  go_ret
  exact ⟨D, k, ys, rfl, hl, own_mono ho hb.size, hb.trans (k1.below hq hb.size)⟩
set_option maxHeartbeats 800000 in
theorem drawAlternatingN (A : Option Addr) (c : Nat) (bs : List Int) (w : World) (h : InY w A c bs) :
    Calls Try.prog 53 #[.slice A bs.length c] w fun en w' => ∃ x : Int, en = .returned (.int .i64 x) ∧ -1 ≤ x ∧ x ≤ 13 ∧ Below w.heap.size w w' := by
  have HC := Lib.hid (l1New_any A c bs w h.len h.rd)
  go_enter Try.func53, Try.ntmps53
  go_wp2_with fail
  (with_reducible refine HC.out.mono ?_)
  rintro e w1 ⟨q, rfl, hq, hc, hb⟩
  have HD := Lib.hid (l1Below_any w1 q A c bs 15 (by omega) hc)
  go_wp2_with fail
  (with_reducible refine HD.out.mono ?_)
  rintro e w2 ⟨x, rfl, hx, k1⟩
  have e1 : IntKind.i64.wrap (x - 1) = x - 1 := IntWalk.i64_in _ (by omega)
  go_wp2_with fail
  go_ret
  exact ⟨x - 1, by first | rfl | (simp only [e1]), by omega, by omega, hb.trans (k1.below hq hb.size)⟩
set_option maxHeartbeats 800000 in
theorem drawAvoidRuns (A : Option Addr) (c : Nat) (bs : List Int) (w : World) (h : InY w A c bs) :
    Calls Try.prog 49 #[.slice A bs.length c] w fun en w' => ∃ (x : Int) (E : Option Addr) (m : Nat) (ys : List Int), en = .returned (.tuple #[.int .i64 x, .slice E ys.length m]) ∧ -1 ≤ x ∧ x ≤ 5 ∧ ys.length ≤ 4 ∧ ys.Perm (upToL ys.length) ∧
      In w' E m ys ∧ Below w.heap.size w w' := by
  have HC := Lib.hid (l1New_any A c bs w h.len h.rd)
  go_enter Try.func49, Try.ntmps49
  go_wp2_with fail
  (with_reducible refine HC.out.mono ?_)
  rintro e w1 ⟨q, rfl, hq, hc, hb⟩
  have HD := Lib.hid (l1Below_any w1 q A c bs 6 (by omega) hc)
  clear HC
  go_wp2_with fail
  (with_reducible refine HD.out.mono ?_)
  rintro e w2 ⟨x, rfl, hx, k1⟩
  have HO := Lib.hid (l1Once_any w2 q A c bs 12 (by omega) k1.cur)
  clear HD
  go_wp2_with fail
  (with_reducible refine HO.out.mono ?_)
  rintro e w3 ⟨b, rfl, kb⟩
  have k2 := k1.trans kb
  obtain ⟨y, hy⟩ : ∃ y : Int, (if b = true then (1 : Int) else 0) = y := ⟨_, rfl⟩
  have hyb : 0 ≤ y ∧ y ≤ 1 := by rcases b with _ | _ <;> simp at hy <;> omega
  have HB := Lib.hid (l1Bit_b b y w3 hy)
  clear HO k1 kb hy
  go_wp2_with fail
  (with_reducible refine HB.out.mono ?_)
  rintro e w4 ⟨rfl, rfl⟩
  have e1 : IntKind.i64.wrap (x - y) = x - y := IntWalk.i64_in _ (by omega)
  have hx1 : -1 ≤ x - y ∧ x - y ≤ 5 := by omega
  have HD := Lib.hid (l1Below_any w3 q A c bs 5 (by omega) k2.cur)
  clear HB
  go_wp2_with fail
  (with_reducible refine HD.out.mono ?_)
  rintro e w4 ⟨z, rfl, hz, k3⟩
  obtain ⟨n, rfl⟩ := Int.eq_ofNat_of_zero_le hz.1
  have k4 := k2.trans k3
  have HE := Lib.hid (l2Draw_any w4 q A c bs n (by omega) k4.cur)
  clear HD
  go_wp2_with fail
  (with_reducible refine HE.out.mono ?_)
  rintro e w5 ⟨E, m, ys, rfl, hp, ho2, k5⟩
  have hyl : ys.length = n := by rw [hp.length_eq, upToL_length]
  have HP := Lib.hid hp
  have HR := Lib.hid (show ys.length ≤ 4 by omega)
  have HQ := Lib.hid hyl
  clear hyl hp
  have k6 := k4.trans k5
  go_wp2_with fail
  go_ret2
  exact ⟨x - y, E, m, ys, by first | rfl | (simp only [e1]), hx1.1, hx1.2, HR.out, by rw [HQ.out]; exact HP.out, In.of_own ho2 (by have := HR.out; omega), hb.trans (k6.below hq hb.size)⟩
set_option maxHeartbeats 800000 in
theorem drawChoose (A : Option Addr) (c : Nat) (bs : List Int) (w : World) (h : InY w A c bs) :
    Calls Try.prog 54 #[.slice A bs.length c] w fun en w' => ∃ x y : Int, en = .returned (.tuple #[.int .i64 x, .int .i64 y]) ∧ -1 ≤ x ∧ x ≤ 41 ∧ -1 ≤ y ∧ y ≤ 43 ∧ Below w.heap.size w w' := by
  have HC := Lib.hid (l1New_any A c bs w h.len h.rd)
  go_enter Try.func54, Try.ntmps54
  go_wp2_with fail
  (with_reducible refine HC.out.mono ?_)
  rintro e w1 ⟨q, rfl, hq, hc, hb⟩
  have HD := Lib.hid (l1Below_any w1 q A c bs 12 (by omega) hc)
  clear HC
  go_wp2_with fail
  (with_reducible refine HD.out.mono ?_)
  rintro e w2 ⟨x, rfl, hx, k1⟩
  have HD := Lib.hid (l1Below_any w2 q A c bs 41 (by omega) k1.cur)
  go_wp2_with fail
  (with_reducible refine HD.out.mono ?_)
  rintro e w3 ⟨y, rfl, hy, k2⟩
  have k2 := k1.trans k2
  have kA := k2.next (((Below.refl w3.heap.size w3).alloc (Nat.le_refl _) (.cells #[.int .i64 x, .int .i64 y, .int .i64 (-1), .int .i64 40, .int .i64 41] 3)).mono k2.span.size) hc.lt
  have HP := Lib.hid (l1PickInt_any _ q A c bs w3.heap.size 5 5 [x, y, -1, 40, 41] rfl (by simp) (by simp) (by have := hc.lt; have := k2.span.size; omega) (by simp) (fun j hj => (obj_cell (obj_new w3 _)).trans (by
    have hj : j < 5 := hj
    rcases j with _ | _ | _ | _ | _ | j
    all_goals first | rfl | omega)) kA.cur)
  clear HD
  go_wp2_with fail
  (with_reducible refine HP.out.mono ?_)
  rintro e w4 ⟨z, rfl, hz, k3⟩
  have hz8 : -1 ≤ z ∧ z ≤ 41 := by simp at hz; omega
  have k4 := kA.trans k3
  have e1 : IntKind.i64.wrap (z + 2) = z + 2 := IntWalk.i64_in _ (by omega)
  obtain ⟨u, hu⟩ : ∃ u, max 1 (z + 2) = u := ⟨_, rfl⟩
  have hub : 1 ≤ u ∧ u ≤ 43 := by omega
  have HM := Lib.hid (l1Max_b 1 (z + 2) u w4 hu)
  clear HP hu hz hx hy
  go_wp2_with fail
  (with_reducible refine HM.out.mono ?_)
  rintro e w5 ⟨rfl, rfl⟩
  have HD := Lib.hid (l1Below_any w4 q A c bs u (by omega) k4.cur)
  clear HM
  go_wp2_with fail
  (with_reducible refine HD.out.mono ?_)
  rintro e w5 ⟨v, rfl, hv, k5⟩
  have k5 := k4.trans k5
  have hvb : 0 ≤ v ∧ v ≤ 43 := by have := hv.2.1 (by omega); omega
  have HO := Lib.hid (l1Once_any w5 q A c bs 10 (by omega) k5.cur)
  clear HD hv
  go_wp2_with fail
  (with_reducible refine HO.out.mono ?_)
  rintro e w6 ⟨b, rfl, kb⟩
  have k6 := k5.trans kb
  obtain ⟨t, ht⟩ : ∃ y : Int, (if b = true then (1 : Int) else 0) = y := ⟨_, rfl⟩
  have htb : 0 ≤ t ∧ t ≤ 1 := by rcases b with _ | _ <;> simp at ht <;> omega
  have HB := Lib.hid (l1Bit_b b t w6 ht)
  clear HO ht
  go_wp2_with fail
  (with_reducible refine HB.out.mono ?_)
  rintro e w7 ⟨rfl, rfl⟩
  have e2 : IntKind.i64.wrap (v - t) = v - t := IntWalk.i64_in _ (by omega)
  go_wp2_with fail
  go_ret2
  exact ⟨z, v - t, by first | rfl | (simp only [e2]), hz8.1, hz8.2, by omega, by omega, hb.trans (k6.below hq hb.size)⟩
end Go.Proofs.Ythipikllgpnlhaa
