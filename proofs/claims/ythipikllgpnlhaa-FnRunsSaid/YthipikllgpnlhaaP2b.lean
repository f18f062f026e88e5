/- Contracts of LowsOf, RecordsOf, CountFixed, CountRises, MajorOf, inversions; program. -/
import Derived.Test.YthipikllgpnlhaaP2
namespace Go.Proofs.Ythipikllgpnlhaa
set_option maxRecDepth 100000
open Go Go.RowKit

def lowHAt (xs : List Int) (i j : Nat) : Bool := (List.range j).all fun j => !decide (xs[j]?.getD 0 < xs[i]?.getD 0)
def lowH (xs : List Int) (i : Nat) : Bool := lowHAt xs i i
theorem lowHAt_succ (xs : List Int) (i j : Nat) : lowHAt xs i (j + 1) = (lowHAt xs i j && !decide (xs[j]?.getD 0 < xs[i]?.getD 0)) := by simp [lowHAt, List.range_succ]
theorem lowHAt_false (xs : List Int) (i j n : Nat) (hj : j < n) (h : xs[j]?.getD 0 < xs[i]?.getD 0) : lowHAt xs i n = false := by
  unfold lowHAt
  rw [List.all_eq_false]
  exact ⟨j, List.mem_range.2 hj, by simp; omega⟩
set_option maxHeartbeats 400000 in
theorem lowH_cl (A : Option Addr) (c g i : Nat) (xs : List Int) (w : World) (h : In w A c xs) (hg : w.cell? ⟨g, 0, none⟩ = some (.slice A xs.length c)) (hi : i < xs.length) :
    Calls Try.prog 98 #[.int .i64 i, .pointer (some ⟨g, 0, none⟩)] w (Rq w (.bool (lowH xs i))) := by
  obtain ⟨hl, hcap, hx⟩ := h
  obtain ⟨b, off, rfl, _, hc⟩ := hx (by omega)
  have HC := Lib.hid hc
  have ci := hc i hi
  have hic : i ≤ c := by omega
  have hc0 : ¬ c = 0 := by omega
  clear hc hx
  go_enter Try.func98, Try.ntmps98
  go_wp2
  go_loopw [10] (fun q wr => ∃ j : Nat, j ≤ i ∧ q = .int .i64 j ∧ lowHAt xs i j = true ∧ Dr w wr) (fun q _ => i - (intOf q).toNat)
  case atStart => exact ⟨0, Nat.zero_le _, rfl, rfl, Dr.refl _⟩
  case round =>
    obtain ⟨j, hj, rfl, hall, hd⟩ := hrel
    have HA := Lib.hid hall
    have ci : wr.cell? ⟨b, off + i, none⟩ = some (.int .i64 xs[i]) := (hd.cell _).trans ci
    have hg : wr.cell? ⟨g, 0, none⟩ = some (.slice (some ⟨b, off, none⟩) xs.length c) := (hd.cell _).trans hg
    clear hall
    rcases Nat.lt_or_ge j i with hlt | hge
    · have cj : wr.cell? ⟨b, off + j, none⟩ = some (.int .i64 xs[j]) := (hd.cell _).trans (HC.out j (by omega))
      by_cases h1 : xs[j] < xs[i]
      · have HH := Lib.hid (show lowH xs i = false from lowHAt_false xs i j i hlt (by rw [List.getElem?_eq_getElem hi, List.getElem?_eq_getElem (show j < xs.length by omega)]; exact h1))
        go_wp2
        go_ret
        exact ⟨ret_bool HH.out.symm, (by first | with_reducible assumption | with_reducible exact hd | with_reducible exact Dr.drewN hd _ | with_reducible exact Dr.drewN (Dr.drewN hd _) _ | with_reducible exact Dr.drew hd)⟩
      · have HH := Lib.hid (show lowHAt xs i (j + 1) = true by rw [lowHAt_succ, HA.out, List.getElem?_eq_getElem hi, List.getElem?_eq_getElem (show j < xs.length by omega)]; simp; omega)
        go_wp2
        go_roundw
        case rel => exact ⟨j + 1, by omega, by go_num, HH.out, (by first | with_reducible assumption | with_reducible exact hd | with_reducible exact Dr.drewN hd _ | with_reducible exact Dr.drewN (Dr.drewN hd _) _ | with_reducible exact Dr.drew hd)⟩
        case measure => simp [intOf]; omega
    · obtain rfl : j = i := by omega
      go_wp2
      go_ret
      exact ⟨ret_bool HA.out.symm, (by first | with_reducible assumption | with_reducible exact hd | with_reducible exact Dr.drewN hd _ | with_reducible exact Dr.drewN (Dr.drewN hd _) _ | with_reducible exact Dr.drew hd)⟩

def recHAt (xs : List Int) (i j : Nat) : Bool := (List.range j).all fun j => !decide (xs[j]?.getD 0 > xs[i]?.getD 0)
def recH (xs : List Int) (i : Nat) : Bool := recHAt xs i i
theorem recHAt_succ (xs : List Int) (i j : Nat) : recHAt xs i (j + 1) = (recHAt xs i j && !decide (xs[j]?.getD 0 > xs[i]?.getD 0)) := by simp [recHAt, List.range_succ]
theorem recHAt_false (xs : List Int) (i j n : Nat) (hj : j < n) (h : xs[j]?.getD 0 > xs[i]?.getD 0) : recHAt xs i n = false := by
  unfold recHAt
  rw [List.all_eq_false]
  exact ⟨j, List.mem_range.2 hj, by simp; omega⟩
set_option maxHeartbeats 400000 in
theorem recH_cl (A : Option Addr) (c g i : Nat) (xs : List Int) (w : World) (h : In w A c xs) (hg : w.cell? ⟨g, 0, none⟩ = some (.slice A xs.length c)) (hi : i < xs.length) :
    Calls Try.prog 97 #[.int .i64 i, .pointer (some ⟨g, 0, none⟩)] w (Rq w (.bool (recH xs i))) := by
  obtain ⟨hl, hcap, hx⟩ := h
  obtain ⟨b, off, rfl, _, hc⟩ := hx (by omega)
  have HC := Lib.hid hc
  have ci := hc i hi
  have hic : i ≤ c := by omega
  have hc0 : ¬ c = 0 := by omega
  clear hc hx
  go_enter Try.func97, Try.ntmps97
  go_wp2
  go_loopw [10] (fun q wr => ∃ j : Nat, j ≤ i ∧ q = .int .i64 j ∧ recHAt xs i j = true ∧ Dr w wr) (fun q _ => i - (intOf q).toNat)
  case atStart => exact ⟨0, Nat.zero_le _, rfl, rfl, Dr.refl _⟩
  case round =>
    obtain ⟨j, hj, rfl, hall, hd⟩ := hrel
    have HA := Lib.hid hall
    have ci : wr.cell? ⟨b, off + i, none⟩ = some (.int .i64 xs[i]) := (hd.cell _).trans ci
    have hg : wr.cell? ⟨g, 0, none⟩ = some (.slice (some ⟨b, off, none⟩) xs.length c) := (hd.cell _).trans hg
    clear hall
    rcases Nat.lt_or_ge j i with hlt | hge
    · have cj : wr.cell? ⟨b, off + j, none⟩ = some (.int .i64 xs[j]) := (hd.cell _).trans (HC.out j (by omega))
      by_cases h1 : xs[j] > xs[i]
      · have HH := Lib.hid (show recH xs i = false from recHAt_false xs i j i hlt (by rw [List.getElem?_eq_getElem hi, List.getElem?_eq_getElem (show j < xs.length by omega)]; exact h1))
        go_wp2
        go_ret
        exact ⟨ret_bool HH.out.symm, (by first | with_reducible assumption | with_reducible exact hd | with_reducible exact Dr.drewN hd _ | with_reducible exact Dr.drewN (Dr.drewN hd _) _ | with_reducible exact Dr.drew hd)⟩
      · have HH := Lib.hid (show recHAt xs i (j + 1) = true by rw [recHAt_succ, HA.out, List.getElem?_eq_getElem hi, List.getElem?_eq_getElem (show j < xs.length by omega)]; simp; omega)
        go_wp2
        go_roundw
        case rel => exact ⟨j + 1, by omega, by go_num, HH.out, (by first | with_reducible assumption | with_reducible exact hd | with_reducible exact Dr.drewN hd _ | with_reducible exact Dr.drewN (Dr.drewN hd _) _ | with_reducible exact Dr.drew hd)⟩
        case measure => simp [intOf]; omega
    · obtain rfl : j = i := by omega
      go_wp2
      go_ret
      exact ⟨ret_bool HA.out.symm, (by first | with_reducible assumption | with_reducible exact hd | with_reducible exact Dr.drewN hd _ | with_reducible exact Dr.drewN (Dr.drewN hd _) _ | with_reducible exact Dr.drew hd)⟩

def fixH (xs : List Int) (i : Nat) : Bool := decide (xs[i]?.getD 0 = (i : Int) + 1)
set_option maxHeartbeats 400000 in
theorem fixH_cl (A : Option Addr) (c g i : Nat) (xs : List Int) (w : World) (h : In w A c xs) (hg : w.cell? ⟨g, 0, none⟩ = some (.slice A xs.length c)) (hi : i < xs.length) :
    Calls Try.prog 99 #[.int .i64 i, .pointer (some ⟨g, 0, none⟩)] w (Rq w (.bool (fixH xs i))) := by
  obtain ⟨hl, hcap, hx⟩ := h
  obtain ⟨b, off, rfl, _, hc⟩ := hx (by omega)
  have ci := hc i hi
  have HH := Lib.hid (show fixH xs i = decide (xs[i] = (i : Int) + 1) by simp [fixH, hi])
  clear hc hx
  go_enter Try.func99, Try.ntmps99
  go_wp2
  go_ret
  exact ⟨ret_bool (by rw [HH.out] <;> first | rfl | simp), (by first | with_reducible exact Dr.of _ _ | with_reducible exact Dr.of2 _ _ _ | with_reducible exact Dr.refl _ | with_reducible exact Dr.of3 _ _ _)⟩

def riseH (xs : List Int) (i : Nat) : Bool := decide (xs[i]?.getD 0 > (i : Int) + 1)
set_option maxHeartbeats 400000 in
theorem riseH_cl (A : Option Addr) (c g i : Nat) (xs : List Int) (w : World) (h : In w A c xs) (hg : w.cell? ⟨g, 0, none⟩ = some (.slice A xs.length c)) (hi : i < xs.length) :
    Calls Try.prog 100 #[.int .i64 i, .pointer (some ⟨g, 0, none⟩)] w (Rq w (.bool (riseH xs i))) := by
  obtain ⟨hl, hcap, hx⟩ := h
  obtain ⟨b, off, rfl, _, hc⟩ := hx (by omega)
  have ci := hc i hi
  have HH := Lib.hid (show riseH xs i = decide (xs[i] > (i : Int) + 1) by simp [riseH, hi])
  clear hc hx
  go_enter Try.func100, Try.ntmps100
  go_wp2
  go_ret
  exact ⟨ret_bool (by rw [HH.out] <;> first | rfl | simp), (by first | with_reducible exact Dr.of _ _ | with_reducible exact Dr.of2 _ _ _ | with_reducible exact Dr.refl _ | with_reducible exact Dr.of3 _ _ _)⟩

theorem call_LowsOf (args : Array Value) (w : World) : (callFunc 98 args).run Try.prog w = .ok (.enter 98 args) w := by kernel_rfl
theorem lows_impl (A : Option Addr) (c : Nat) (xs : List Int) (w : World) (h : In w A c xs) :
    Calls Try.prog 37 #[.slice A xs.length c] w (Ret (Value.int .i64) 3 w (listG xs (lowH xs))) := by
  have hmf : ∀ (fn : Fn) (first cap : Array Value) (w : World), (Instr.makeFunc fn first cap).run Try.prog w = .ok (.func fn first cap) w := fun _ _ _ _ => rfl
  have hb0 := (Below.refl w.heap.size w).alloc (Nat.le_refl _) (.cells #[.slice A xs.length c] 24)
  have h0 := h.next hb0
  have hc0 := alloc_cell w (.slice A xs.length c) 24
  go_enter Try.func37, Try.ntmps37
  go_wp2_with fail
  refine (listed_impl A c xs 98 w.heap.size (lowH xs) _ h0 (fun args w' => call_LowsOf args w') (fun w' i hb hi => ?_)).mono ?_
  · exact lowH_cl A c _ i xs w' (h0.next hb) (by rw [hb.cell (p := ⟨w.heap.size, 0, none⟩) (by simp)]; exact hc0) hi
  · rintro e w1 ⟨A1, c1, rfl, q1, q2, hown, hb⟩
    go_wp2_with fail
    go_ret
    exact ⟨A1, c1, rfl, q1, q2, own_mono hown (by simp), hb0.trans (hb.mono (by simp))⟩

theorem call_RecordsOf (args : Array Value) (w : World) : (callFunc 97 args).run Try.prog w = .ok (.enter 97 args) w := by kernel_rfl
theorem records_impl (A : Option Addr) (c : Nat) (xs : List Int) (w : World) (h : In w A c xs) :
    Calls Try.prog 35 #[.slice A xs.length c] w (Ret (Value.int .i64) 3 w (listG xs (recH xs))) := by
  have hmf : ∀ (fn : Fn) (first cap : Array Value) (w : World), (Instr.makeFunc fn first cap).run Try.prog w = .ok (.func fn first cap) w := fun _ _ _ _ => rfl
  have hb0 := (Below.refl w.heap.size w).alloc (Nat.le_refl _) (.cells #[.slice A xs.length c] 24)
  have h0 := h.next hb0
  have hc0 := alloc_cell w (.slice A xs.length c) 24
  go_enter Try.func35, Try.ntmps35
  go_wp2_with fail
  refine (listed_impl A c xs 97 w.heap.size (recH xs) _ h0 (fun args w' => call_RecordsOf args w') (fun w' i hb hi => ?_)).mono ?_
  · exact recH_cl A c _ i xs w' (h0.next hb) (by rw [hb.cell (p := ⟨w.heap.size, 0, none⟩) (by simp)]; exact hc0) hi
  · rintro e w1 ⟨A1, c1, rfl, q1, q2, hown, hb⟩
    go_wp2_with fail
    go_ret
    exact ⟨A1, c1, rfl, q1, q2, own_mono hown (by simp), hb0.trans (hb.mono (by simp))⟩

def countG (xs : List Int) (H : Nat → Bool) : Int := if permB xs = true then ((placesL H xs.length).length : Int) else -1

theorem call_CountFixed (args : Array Value) (w : World) : (callFunc 99 args).run Try.prog w = .ok (.enter 99 args) w := by kernel_rfl
set_option maxHeartbeats 400000 in
theorem fixed_impl (A : Option Addr) (c : Nat) (xs : List Int) (w : World) (h : In w A c xs) :
    Calls Try.prog 39 #[.slice A xs.length c] w (Rb w (.int .i64 (countG xs (fixH xs)))) := by
  have hmf : ∀ (fn : Fn) (first cap : Array Value) (w : World), (Instr.makeFunc fn first cap).run Try.prog w = .ok (.func fn first cap) w := fun _ _ _ _ => rfl
  have hb0 := (Below.refl w.heap.size w).alloc (Nat.le_refl _) (.cells #[.slice A xs.length c] 24)
  have h0 := h.next hb0
  have hc0 := alloc_cell w (.slice A xs.length c) 24
  by_cases hp : permB xs = true
  · have HG := Lib.hid (show countG xs (fixH xs) = ((listG xs (fixH xs)).length : Int) by rw [countG, if_pos hp, listG, if_pos hp])
    go_enter Try.func39, Try.ntmps39
    go_wp2_with fail
    refine (isPerm_impl _ _ _ _ h0).mono ?_
    rintro e w1 ⟨rfl, hb1⟩
    rw [hp]
    clear hp
    have hg1 : w1.cell? ⟨w.heap.size, 0, none⟩ = some (.slice A xs.length c) := by rw [hb1.cell (p := ⟨w.heap.size, 0, none⟩) (by simp)]; exact hc0
    have h1 := h0.next hb1
    have hsz : w.heap.size < w1.heap.size := by have := hb1.size; simp at this; omega
    go_wp2_with fail
    refine (listed_impl A c xs 99 w.heap.size (fixH xs) _ h1 (fun args w' => call_CountFixed args w') (fun w' i hb hi => ?_)).mono ?_
    · exact fixH_cl A c _ i xs w' (h1.next hb) (by rw [hb.cell (p := ⟨w.heap.size, 0, none⟩) hsz]; exact hg1) hi
    · rintro e w2 ⟨A1, c1, rfl, q1, q2, hown, hb⟩
      go_wp2_with fail
      go_ret
      exact ⟨ret_int HG.out.symm, hb0.trans ((hb1.trans (hb.mono hb1.size)).mono (by simp))⟩
  · have hpf : permB xs = false := by simpa using hp
    have HG := Lib.hid (show countG xs (fixH xs) = -1 by rw [countG, if_neg hp])
    go_enter Try.func39, Try.ntmps39
    go_wp2_with fail
    refine (isPerm_impl _ _ _ _ h0).mono ?_
    rintro e w1 ⟨rfl, hb1⟩
    rw [hpf]
    clear hp hpf
    go_wp2_with fail
    go_ret
    exact ⟨ret_int HG.out.symm, hb0.trans (hb1.mono (by simp))⟩

theorem call_CountRises (args : Array Value) (w : World) : (callFunc 100 args).run Try.prog w = .ok (.enter 100 args) w := by kernel_rfl
set_option maxHeartbeats 400000 in
theorem rises_impl (A : Option Addr) (c : Nat) (xs : List Int) (w : World) (h : In w A c xs) :
    Calls Try.prog 41 #[.slice A xs.length c] w (Rb w (.int .i64 (countG xs (riseH xs)))) := by
  have hmf : ∀ (fn : Fn) (first cap : Array Value) (w : World), (Instr.makeFunc fn first cap).run Try.prog w = .ok (.func fn first cap) w := fun _ _ _ _ => rfl
  have hb0 := (Below.refl w.heap.size w).alloc (Nat.le_refl _) (.cells #[.slice A xs.length c] 24)
  have h0 := h.next hb0
  have hc0 := alloc_cell w (.slice A xs.length c) 24
  by_cases hp : permB xs = true
  · have HG := Lib.hid (show countG xs (riseH xs) = ((listG xs (riseH xs)).length : Int) by rw [countG, if_pos hp, listG, if_pos hp])
    go_enter Try.func41, Try.ntmps41
    go_wp2_with fail
    refine (isPerm_impl _ _ _ _ h0).mono ?_
    rintro e w1 ⟨rfl, hb1⟩
    rw [hp]
    clear hp
    have hg1 : w1.cell? ⟨w.heap.size, 0, none⟩ = some (.slice A xs.length c) := by rw [hb1.cell (p := ⟨w.heap.size, 0, none⟩) (by simp)]; exact hc0
    have h1 := h0.next hb1
    have hsz : w.heap.size < w1.heap.size := by have := hb1.size; simp at this; omega
    go_wp2_with fail
    refine (listed_impl A c xs 100 w.heap.size (riseH xs) _ h1 (fun args w' => call_CountRises args w') (fun w' i hb hi => ?_)).mono ?_
    · exact riseH_cl A c _ i xs w' (h1.next hb) (by rw [hb.cell (p := ⟨w.heap.size, 0, none⟩) hsz]; exact hg1) hi
    · rintro e w2 ⟨A1, c1, rfl, q1, q2, hown, hb⟩
      go_wp2_with fail
      go_ret
      exact ⟨ret_int HG.out.symm, hb0.trans ((hb1.trans (hb.mono hb1.size)).mono (by simp))⟩
  · have hpf : permB xs = false := by simpa using hp
    have HG := Lib.hid (show countG xs (riseH xs) = -1 by rw [countG, if_neg hp])
    go_enter Try.func41, Try.ntmps41
    go_wp2_with fail
    refine (isPerm_impl _ _ _ _ h0).mono ?_
    rintro e w1 ⟨rfl, hb1⟩
    rw [hpf]
    clear hp hpf
    go_wp2_with fail
    go_ret
    exact ⟨ret_int HG.out.symm, hb0.trans (hb1.mono (by simp))⟩

def sumL (xs : List Int) : Int := xs.foldl (fun s x => wrap64 (s + x)) 0
theorem sumL_succ (xs : List Int) (k : Nat) (h : k < xs.length) : sumL (xs.take (k + 1)) = wrap64 (sumL (xs.take k) + xs[k]) := by
  unfold sumL
  rw [List.take_succ_eq_append_getElem h, List.foldl_append]
  rfl
def majorG (xs : List Int) : Int := if permB xs = true then sumL (listG xs (descH xs)) else -1
set_option maxHeartbeats 400000 in
theorem major_impl (A : Option Addr) (c : Nat) (xs : List Int) (w : World) (h : In w A c xs) :
    Calls Try.prog 30 #[.slice A xs.length c] w (Rb w (.int .i64 (majorG xs))) := by
  by_cases hp : permB xs = true
  · have HG := Lib.hid (show majorG xs = sumL (listG xs (descH xs)) by rw [majorG, if_pos hp])
    have hL := listG_length xs (descH xs)
    obtain ⟨L, hLe⟩ : ∃ L, L = listG xs (descH xs) := ⟨_, rfl⟩
    go_enter Try.func30, Try.ntmps30
    go_wp2_with fail
    refine (isPerm_impl _ _ _ _ h).mono ?_
    rintro e w1 ⟨rfl, hb1⟩
    rw [hp]
    clear hp
    go_wp2_with fail
    refine (descents_impl A c xs _ (h.next hb1)).mono ?_
    rw [← hLe]
    rw [← hLe] at hL
    have HL := Lib.hid hLe
    clear hLe
    rintro e w2 ⟨A1, c1, rfl, q1, q2, hown, hb⟩
    have hr := Rd.of_own hown
    have hB := hb1.trans (hb.mono hb1.size)
    clear hown
    go_wp2_with fail
    go_loop [3, 12] (fun s i => ∃ k : Nat, k ≤ L.length ∧ i = .int .i64 k ∧ s = .int .i64 (sumL (L.take k))) (fun _ i => L.length - (intOf i).toNat)
    case atStart => exact ⟨0, Nat.zero_le _, rfl, rfl⟩
    case round =>
      obtain ⟨k, hk, rfl, rfl⟩ := hrel
      rcases Nat.lt_or_ge k L.length with hlt | hge
      · obtain ⟨b, off, rfl, _, hc⟩ := hr (by omega)
        have ck := hc k hlt
        have HS := Lib.hid (sumL_succ L k hlt)
        clear hc
        go_wp2
        go_round
        case rel => exact ⟨k + 1, by omega, by go_num, by rw [HS.out]⟩
        case measure => simp [intOf]; omega
      · go_wp2
        go_ret
        exact ⟨ret_int (by rw [HG.out, ← HL.out, List.take_of_length_le hge]), hB⟩
  · have hpf : permB xs = false := by simpa using hp
    have HG := Lib.hid (show majorG xs = -1 by rw [majorG, if_neg hp])
    go_enter Try.func30, Try.ntmps30
    go_wp2_with fail
    refine (isPerm_impl _ _ _ _ h).mono ?_
    rintro e w1 ⟨rfl, hb1⟩
    rw [hpf]
    clear hp hpf
    go_wp2_with fail
    go_ret
    exact ⟨ret_int HG.out.symm, hb1⟩
end Go.Proofs.Ythipikllgpnlhaa