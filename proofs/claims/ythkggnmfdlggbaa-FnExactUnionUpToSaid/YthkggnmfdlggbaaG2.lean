/- Avoiding a list; InClass, IsWithin. -/
import Derived.Test.YthkggnmfdlggbaaG1
namespace Go.Proofs.Ythkggnmfdlggbaa
set_option maxRecDepth 100000
open Go Go.RowKit

def avoidB (X : List (List Int)) (p : List Int) : Bool := !X.any fun q => hasB p q
theorem basis_perm {X : List (List Int)} (h : basisB X = true) : ∀ q ∈ X, permB q = true := fun q hq => by
  unfold basisB at h
  rw [Bool.and_eq_true] at h
  obtain ⟨i, hi, rfl⟩ := List.mem_iff_getElem.1 hq
  exact basTo_perm h.2 hi hi
theorem basis_len {X : List (List Int)} (h : basisB X = true) : X.length ≤ 8 := by
  unfold basisB at h
  rw [Bool.and_eq_true, decide_eq_true_eq] at h
  exact h.1
theorem rows_8 {rs : List Row} (h : ∀ q ∈ rs.map Row.xs, permB q = true) : ∀ r ∈ rs, r.xs.length ≤ 8 := fun r hr => (permB_true (h r.xs (List.mem_map.2 ⟨r, hr, rfl⟩))).1
theorem any_rows (rs : List Row) (H : List Int → Bool) : (rs.any fun r : Row => H r.xs) = (rs.map Row.xs).any H := by rw [List.any_map]; rfl
theorem basis_ib (A : Option Addr) (c : Nat) (rs : List Row) (w : World) (b : Bool) (h : InL w A c rs) (hb : basisB (rs.map Row.xs) = b) : Calls Try.prog 65 #[.slice A rs.length c] w (Rb w (.bool b)) := by
  subst hb; exact basis_impl A c rs w h
theorem basis_sb (A : Option Addr) (c : Nat) (rs : List Row) (w : World) (b : Bool) (h : InL w A c rs) (hb : basisB (rs.map Row.xs) = b) : Calls Try.prog 59 #[.slice A rs.length c] w (Rb w (.bool b)) := by
  subst hb; exact basis_spec A c rs w h

theorem call_av (args : Array Value) (w : World) : (callFunc 105 args).run Try.prog w = .ok (.enter 105 args) w := by kernel_rfl
set_option maxHeartbeats 800000 in
theorem av_cl (A B : Option Addr) (c d g : Nat) (p q : List Int) (w : World) (hp : In w B d p) (hq : In w A c q) (hg : w.cell? ⟨g, 0, none⟩ = some (.slice B p.length d)) (h8 : p.length ≤ 8) (hq8 : q.length ≤ 8) :
    Calls Try.prog 105 #[.slice A q.length c, .pointer (some ⟨g, 0, none⟩)] w (Rb w (.bool (hasB p q))) := by
  go_enter Try.func105, Try.ntmps105
  go_wp2_with fail
  (with_reducible refine (has_b B A d c p q w _ hp hq (by omega) (by omega) rfl).mono ?_)
  rintro e w1 ⟨rfl, hb1⟩
  go_wp2_with fail
  go_ret
  exact ⟨rfl, hb1⟩
set_option maxHeartbeats 1000000 in
theorem avoids_b (A B : Option Addr) (c d : Nat) (rs : List Row) (p : List Int) (w : World) (b : Bool) (h : InL w A c rs) (hp : In w B d p) (h8 : p.length ≤ 8) (hr8 : ∀ r ∈ rs, r.xs.length ≤ 8) (hb : avoidB (rs.map Row.xs) p = b) :
    Calls Try.prog 79 #[.slice A rs.length c, .slice B p.length d] w (Rb w (.bool b)) := by
  have hmf : ∀ (fn : Fn) (first cap : Array Value) (w : World), (Instr.makeFunc fn first cap).run Try.prog w = .ok (.func fn first cap) w := fun _ _ _ _ => rfl
  have HB := Lib.hid (show (!(rs.any fun r : Row => hasB p r.xs)) = b by rw [any_rows rs (hasB p), ← hb]; rfl)
  have hb0 := (Below.refl w.heap.size w).alloc (Nat.le_refl _) (.cells #[.slice B p.length d] 22)
  have h0 := h.next hb0
  have hp0 := hp.next hb0
  have hc0 := alloc_cell w (.slice B p.length d) 22
  have hz0 : (w.alloc (.cells #[.slice B p.length d] 22)).heap.size = w.heap.size + 1 := by simp
  have hlen := h.len
  clear hb
  go_enter Try.func79, Try.ntmps79
  go_wp2_with fail
  generalize (w.alloc (.cells #[.slice B p.length d] 22)) = w0 at hb0 h0 hp0 hc0 hz0 ⊢
  refine (containsFuncL1 A c rs 105 w.heap.size (hasB p) w0 (by omega) h0.read (fun args w' => call_av args w') (fun w' k hk hb => ?_) _ rfl).mono ?_
  · exact av_cl rs[k].A B rs[k].c d _ p rs[k].xs w' (hp0.next hb) ((h0.next hb).row (List.getElem_mem hk)) ((hb.cell (p := ⟨w.heap.size, 0, none⟩) (by show w.heap.size < w0.heap.size; omega)).trans hc0) h8 (hr8 _ (List.getElem_mem hk))
  · rintro e w1 ⟨rfl, hb1⟩
    go_wp2_with fail
    go_ret
    exact ⟨ret_bool HB.out, hb0.trans (hb1.mono hb0.size)⟩
set_option maxHeartbeats 1000000 in
theorem l12Avoids_b (A B : Option Addr) (c d : Nat) (rs : List Row) (p : List Int) (w : World) (b : Bool) (h : InL w A c rs) (hp : In w B d p) (h8 : p.length ≤ 8) (hr8 : ∀ r ∈ rs, r.xs.length ≤ 8) (hb : avoidB (rs.map Row.xs) p = b) :
    Calls Try.prog 58 #[.slice A rs.length c, .slice B p.length d] w (Rb w (.bool b)) := by
  have HB := Lib.hid (show (!(rs.any fun r : Row => hasB p r.xs)) = b by rw [any_rows rs (hasB p), ← hb]; rfl)
  have hlen := h.len
  clear hb
  go_enter Try.func58, Try.ntmps58
  go_wp2_with fail
  go_loopw [5] (fun i wr => ∃ k : Nat, k ≤ rs.length ∧ i = .int .i64 k ∧ Hid ((rs.take k).any (fun r : Row => hasB p r.xs) = false) ∧ Below w.heap.size w wr) (fun i _ => rs.length - (intOf i).toNat)
  case atStart => exact ⟨0, Nat.zero_le _, rfl, Lib.hid rfl, Below.refl _ _⟩
  case round =>
    obtain ⟨k, hk, rfl, HN, hb⟩ := hrel
    have hsz := hb.size
    rcases Nat.lt_or_ge k rs.length with hlt | hge
    · obtain ⟨b', off, rfl, _, hc⟩ := (h.next hb).read.at (by omega)
      have c1 := hc k hlt
      have hin := (h.next hb).row (List.getElem_mem hlt)
      have hr := hr8 _ (List.getElem_mem hlt)
      have hp1 := hp.next hb
      clear hc
      go_wp2_with fail
      by_cases hh : hasB p rs[k].xs = true
      · have HT := Lib.hid (show (rs.any fun r : Row => hasB p r.xs) = true from any_at hlt hh)
        (with_reducible refine (l7Has_b B rs[k].A d rs[k].c p rs[k].xs wr true hp1 hin h8 hr hh).mono ?_)
        rintro e w1 ⟨rfl, hb1⟩
        clear hh
        go_wp2_with fail
        go_ret
        exact ⟨ret_bool (by rw [← HB.out, HT.out]; rfl), hb.trans (hb1.mono hsz)⟩
      · have hhf : hasB p rs[k].xs = false := by simpa using hh
        have HT := Lib.hid (show (rs.take (k + 1)).any (fun r : Row => hasB p r.xs) = false from any_take_false HN.out hlt hhf)
        (with_reducible refine (l7Has_b B rs[k].A d rs[k].c p rs[k].xs wr false hp1 hin h8 hr hhf).mono ?_)
        rintro e w1 ⟨rfl, hb1⟩
        clear hh hhf
        go_wp2_with fail
        go_roundw
        case rel => exact ⟨k + 1, by omega, by go_num, HT, hb.trans (hb1.mono hsz)⟩
        case measure => simp [intOf]; omega
    · have HT := Lib.hid (show (rs.any fun r : Row => hasB p r.xs) = false by have := HN.out; rwa [List.take_of_length_le hge] at this)
      go_wp2_with fail
      go_ret
      exact ⟨ret_bool (by rw [← HB.out, HT.out]; rfl), hb⟩

def inClassB (X : List (List Int)) (p : List Int) : Bool := basisB X && permB p && avoidB X p
end Go.Proofs.Ythkggnmfdlggbaa
