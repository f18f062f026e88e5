/- IsWithin, program and reference. -/
import Derived.Test.YthkggnmfdlggbaaG2
namespace Go.Proofs.Ythkggnmfdlggbaa
set_option maxRecDepth 100000
open Go Go.RowKit

def allPermB (X : List (List Int)) : Bool := !X.any fun p => !permB p
set_option maxHeartbeats 1000000 in
theorem l3All_b (A : Option Addr) (c : Nat) (rs : List Row) (w : World) (b : Bool) (h : InL w A c rs) (hb : allPermB (rs.map Row.xs) = b) :
    Calls Try.prog 56 #[.slice A rs.length c] w (Rb w (.bool b)) := by
  have HB := Lib.hid (show (!(rs.any fun r : Row => !permB r.xs)) = b by rw [any_rows rs (fun p => !permB p), ← hb]; rfl)
  have hlen := h.len
  clear hb
  go_enter Try.func56, Try.ntmps56
  go_wp2_with fail
  go_loopw [3] (fun i wr => ∃ k : Nat, k ≤ rs.length ∧ i = .int .i64 k ∧ Hid ((rs.take k).any (fun r : Row => !permB r.xs) = false) ∧ Below w.heap.size w wr) (fun i _ => rs.length - (intOf i).toNat)
  case atStart => exact ⟨0, Nat.zero_le _, rfl, Lib.hid rfl, Below.refl _ _⟩
  case round =>
    obtain ⟨k, hk, rfl, HN, hb⟩ := hrel
    rcases Nat.lt_or_ge k rs.length with hlt | hge
    · obtain ⟨b', off, rfl, _, hc⟩ := (h.next hb).read.at (by omega)
      have c1 := hc k hlt
      have hin := (h.next hb).row (List.getElem_mem hlt)
      clear hc
      go_wp2_with fail
      by_cases hh : permB rs[k].xs = true
      · have HT := Lib.hid (show (rs.take (k + 1)).any (fun r : Row => !permB r.xs) = false from any_take_false HN.out hlt (by rw [hh]; rfl))
        (with_reducible refine (isPerm_sb rs[k].A rs[k].c rs[k].xs wr true hin hh).mono ?_)
        rintro e w1 ⟨rfl, hd1⟩
        clear hh
        go_wp2_with fail
        go_roundw
        case rel => exact ⟨k + 1, by omega, by go_num, HT, below_dr hb hd1⟩
        case measure => simp [intOf]; omega
      · have hhf : permB rs[k].xs = false := by simpa using hh
        have HT := Lib.hid (show (rs.any fun r : Row => !permB r.xs) = true from any_at hlt (by rw [hhf]; rfl))
        (with_reducible refine (isPerm_sb rs[k].A rs[k].c rs[k].xs wr false hin hhf).mono ?_)
        rintro e w1 ⟨rfl, hd1⟩
        clear hh hhf
        go_wp2_with fail
        go_ret
        exact ⟨ret_bool (by rw [← HB.out, HT.out]; rfl), below_dr hb hd1⟩
    · have HT := Lib.hid (show (rs.any fun r : Row => !permB r.xs) = false by have := HN.out; rwa [List.take_of_length_le hge] at this)
      go_wp2_with fail
      go_ret
      exact ⟨ret_bool (by rw [← HB.out, HT.out]; rfl), hb⟩

def withinB (X Y : List (List Int)) : Bool := basisB X && basisB Y && !Y.any fun p => avoidB X p
end Go.Proofs.Ythkggnmfdlggbaa
