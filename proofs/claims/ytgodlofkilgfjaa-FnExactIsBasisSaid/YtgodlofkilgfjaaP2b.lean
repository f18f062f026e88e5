/- Contracts of LowsOf, RecordsOf, CountFixed, CountRises, MajorOf, inversions; program. -/
import Derived.Test.YtgodlofkilgfjaaP2
namespace Go.Proofs.Ytgodlofkilgfjaa
open Go Go.RowKit


def recHAt (xs : List Int) (i j : Nat) : Bool := (List.range j).all fun j => !decide (xs[j]?.getD 0 > xs[i]?.getD 0)
def recH (xs : List Int) (i : Nat) : Bool := recHAt xs i i
theorem recHAt_succ (xs : List Int) (i j : Nat) : recHAt xs i (j + 1) = (recHAt xs i j && !decide (xs[j]?.getD 0 > xs[i]?.getD 0)) := by simp [recHAt, List.range_succ]
theorem recHAt_false (xs : List Int) (i j n : Nat) (hj : j < n) (h : xs[j]?.getD 0 > xs[i]?.getD 0) : recHAt xs i n = false := by
  unfold recHAt
  rw [List.all_eq_false]
  exact ⟨j, List.mem_range.2 hj, by simp; omega⟩
set_option maxHeartbeats 400000 in
theorem recH_cl (A : Option Addr) (c g i : Nat) (xs : List Int) (w : World) (h : In w A c xs) (hg : w.cell? ⟨g, 0, none⟩ = some (.slice A xs.length c)) (hi : i < xs.length) :
    Calls Try.prog 58 #[.int .i64 i, .pointer (some ⟨g, 0, none⟩)] w (Rq w (.bool (recH xs i))) := by
  obtain ⟨hl, hcap, hx⟩ := h
  obtain ⟨b, off, rfl, _, hc⟩ := hx (by omega)
  have HC := Lib.hid hc
  have ci := hc i hi
  have hic : i ≤ c := by omega
  have hc0 : ¬ c = 0 := by omega
  clear hc hx
  go_enter Try.func58, Try.ntmps58
  go_wp2
  go_loopw [10] (fun q wr => ∃ j : Nat, j ≤ i ∧ q = .int .i64 j ∧ recHAt xs i j = true ∧ Dr w wr) (fun q _ => i - (intOf q).toNat)
  case atStart => exact ⟨0, Nat.zero_le _, rfl, rfl, Dr.refl _⟩
  case round =>
    obtain ⟨j, hj, rfl, hall, hd⟩ := hrel
    have HA := Lib.hid hall
    have ci : wr.cell? ⟨b, off + i, none⟩ = some (.int .i64 xs[i]) := (hd.cell _).trans ci
    have hg : wr.cell? ⟨g, 0, none⟩ = some (.slice (some ⟨b, off, none⟩) xs.length c) := (hd.cell _).trans hg
    clear hall
    rcases Nat.lt_or_ge j i with hlt | hge
    · have cj : wr.cell? ⟨b, off + j, none⟩ = some (.int .i64 xs[j]) := (hd.cell _).trans (HC.out j (by omega))
      by_cases h1 : xs[j] > xs[i]
      · have HH := Lib.hid (show recH xs i = false from recHAt_false xs i j i hlt (by rw [List.getElem?_eq_getElem hi, List.getElem?_eq_getElem (show j < xs.length by omega)]; exact h1))
        go_wp2
        go_ret
        exact ⟨ret_bool HH.out.symm, (by first | with_reducible assumption | with_reducible exact hd | with_reducible exact Dr.drewN hd _ | with_reducible exact Dr.drewN (Dr.drewN hd _) _ | with_reducible exact Dr.drew hd)⟩
      · have HH := Lib.hid (show recHAt xs i (j + 1) = true by rw [recHAt_succ, HA.out, List.getElem?_eq_getElem hi, List.getElem?_eq_getElem (show j < xs.length by omega)]; simp; omega)
        go_wp2
        go_roundw
        case rel => exact ⟨j + 1, by omega, by go_num, HH.out, (by first | with_reducible assumption | with_reducible exact hd | with_reducible exact Dr.drewN hd _ | with_reducible exact Dr.drewN (Dr.drewN hd _) _ | with_reducible exact Dr.drew hd)⟩
        case measure => simp [intOf]; omega
    · obtain rfl : j = i := by omega
      go_wp2
      go_ret
      exact ⟨ret_bool HA.out.symm, (by first | with_reducible assumption | with_reducible exact hd | with_reducible exact Dr.drewN hd _ | with_reducible exact Dr.drewN (Dr.drewN hd _) _ | with_reducible exact Dr.drew hd)⟩




theorem call_RecordsOf (args : Array Value) (w : World) : (callFunc 58 args).run Try.prog w = .ok (.enter 58 args) w := by kernel_rfl
theorem records_impl (A : Option Addr) (c : Nat) (xs : List Int) (w : World) (h : In w A c xs) :
    Calls Try.prog 17 #[.slice A xs.length c] w (Ret (Value.int .i64) 3 w (listG xs (recH xs))) := by
  have hmf : ∀ (fn : Fn) (first cap : Array Value) (w : World), (Instr.makeFunc fn first cap).run Try.prog w = .ok (.func fn first cap) w := fun _ _ _ _ => rfl
  have hb0 := (Below.refl w.heap.size w).alloc (Nat.le_refl _) (.cells #[.slice A xs.length c] 22)
  have h0 := h.next hb0
  have hc0 := alloc_cell w (.slice A xs.length c) 22
  go_enter Try.func17, Try.ntmps17
  go_wp2_with fail
  refine (listed_impl A c xs 58 w.heap.size (recH xs) _ h0 (fun args w' => call_RecordsOf args w') (fun w' i hb hi => ?_)).mono ?_
  · exact recH_cl A c _ i xs w' (h0.next hb) (by rw [hb.cell (p := ⟨w.heap.size, 0, none⟩) (by simp)]; exact hc0) hi
  · rintro e w1 ⟨A1, c1, rfl, q1, q2, hown, hb⟩
    go_wp2_with fail
    go_ret
    exact ⟨A1, c1, rfl, q1, q2, own_mono hown (by simp), hb0.trans (hb.mono (by simp))⟩

def countG (xs : List Int) (H : Nat → Bool) : Int := if permB xs = true then ((placesL H xs.length).length : Int) else -1



end Go.Proofs.Ytgodlofkilgfjaa