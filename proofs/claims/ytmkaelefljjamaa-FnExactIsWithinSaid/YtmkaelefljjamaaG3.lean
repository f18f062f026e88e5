/- IsWithin, program and reference. -/
import Derived.Test.YtmkaelefljjamaaG2
namespace Go.Proofs.Ytmkaelefljjamaa
set_option maxRecDepth 100000
open Go Go.RowKit

def allPermB (X : List (List Int)) : Bool := !X.any fun p => !permB p
set_option maxHeartbeats 1000000 in
theorem l3All_b (A : Option Addr) (c : Nat) (rs : List Row) (w : World) (b : Bool) (h : InL w A c rs) (hb : allPermB (rs.map Row.xs) = b) :
    Calls Try.prog 66 #[.slice A rs.length c] w (Rb w (.bool b)) := by
  have HB := Lib.hid (show (!(rs.any fun r : Row => !permB r.xs)) = b by rw [any_rows rs (fun p => !permB p), ← hb]; rfl)
  have hlen := h.len
  clear hb
  go_enter Try.func66, Try.ntmps66
  go_wp2_with fail
  go_loopw [3] (fun i wr => ∃ k : Nat, k ≤ rs.length ∧ i = .int .i64 k ∧ Hid ((rs.take k).any (fun r : Row => !permB r.xs) = false) ∧ Below w.heap.size w wr) (fun i _ => rs.length - (intOf i).toNat)
  case atStart => exact ⟨0, Nat.zero_le _, rfl, Lib.hid rfl, Below.refl _ _⟩
  case round =>
    obtain ⟨k, hk, rfl, HN, hb⟩ := hrel
    rcases Nat.lt_or_ge k rs.length with hlt | hge
    · obtain ⟨b', off, rfl, _, hc⟩ := (h.next hb).read.at (by omega)
      have c1 := hc k hlt
      have hin := (h.next hb).row (List.getElem_mem hlt)
      clear hc
      go_wp2_with fail
      by_cases hh : permB rs[k].xs = true
      · have HT := Lib.hid (show (rs.take (k + 1)).any (fun r : Row => !permB r.xs) = false from any_take_false HN.out hlt (by rw [hh]; rfl))
        (with_reducible refine (isPerm_sb rs[k].A rs[k].c rs[k].xs wr true hin hh).mono ?_)
        rintro e w1 ⟨rfl, hd1⟩
        clear hh
        go_wp2_with fail
        go_roundw
        case rel => exact ⟨k + 1, by omega, by go_num, HT, below_dr hb hd1⟩
        case measure => simp [intOf]; omega
      · have hhf : permB rs[k].xs = false := by simpa using hh
        have HT := Lib.hid (show (rs.any fun r : Row => !permB r.xs) = true from any_at hlt (by rw [hhf]; rfl))
        (with_reducible refine (isPerm_sb rs[k].A rs[k].c rs[k].xs wr false hin hhf).mono ?_)
        rintro e w1 ⟨rfl, hd1⟩
        clear hh hhf
        go_wp2_with fail
        go_ret
        exact ⟨ret_bool (by rw [← HB.out, HT.out]; rfl), below_dr hb hd1⟩
    · have HT := Lib.hid (show (rs.any fun r : Row => !permB r.xs) = false by have := HN.out; rwa [List.take_of_length_le hge] at this)
      go_wp2_with fail
      go_ret
      exact ⟨ret_bool (by rw [← HB.out, HT.out]; rfl), hb⟩

def withinB (X Y : List (List Int)) : Bool := basisB X && basisB Y && !Y.any fun p => avoidB X p
theorem call_wi (args : Array Value) (w : World) : (callFunc 68 args).run Try.prog w = .ok (.enter 68 args) w := by kernel_rfl
set_option maxHeartbeats 800000 in
theorem wi_cl (A B : Option Addr) (c d g : Nat) (rs : List Row) (p : List Int) (w : World) (h : InL w B d rs) (hp : In w A c p) (hg : w.cell? ⟨g, 0, none⟩ = some (.slice B rs.length d)) (h8 : p.length ≤ 8) (hr8 : ∀ r ∈ rs, r.xs.length ≤ 8) :
    Calls Try.prog 68 #[.slice A p.length c, .pointer (some ⟨g, 0, none⟩)] w (Rb w (.bool (avoidB (rs.map Row.xs) p))) := by
  go_enter Try.func68, Try.ntmps68
  go_wp2_with fail
  (with_reducible refine (avoids_b B A d c rs p w _ h hp h8 hr8 rfl).mono ?_)
  rintro e w1 ⟨rfl, hb1⟩
  go_wp2_with fail
  go_ret
  exact ⟨rfl, hb1⟩
set_option maxHeartbeats 2000000 in
theorem within_impl (A : Option Addr) (c : Nat) (rs : List Row) (B : Option Addr) (d : Nat) (qs : List Row) (w : World) (h : InL w A c rs) (hq : InL w B d qs) :
    Calls Try.prog 27 #[.slice A rs.length c, .slice B qs.length d] w (Rb w (.bool (withinB (rs.map Row.xs) (qs.map Row.xs)))) := by
  have hmf : ∀ (fn : Fn) (first cap : Array Value) (w : World), (Instr.makeFunc fn first cap).run Try.prog w = .ok (.func fn first cap) w := fun _ _ _ _ => rfl
  have hb0 := (Below.refl w.heap.size w).alloc (Nat.le_refl _) (.cells #[.slice A rs.length c] 33)
  have h0 := h.next hb0
  have hq0 := hq.next hb0
  have hc0 := alloc_cell w (.slice A rs.length c) 33
  have hz0 : (w.alloc (.cells #[.slice A rs.length c] 33)).heap.size = w.heap.size + 1 := by simp
  have hlen := hq.len
  by_cases hB : basisB (rs.map Row.xs) = true
  · by_cases hP : basisB (qs.map Row.xs) = true
    · have HG := Lib.hid (show withinB (rs.map Row.xs) (qs.map Row.xs) = !(qs.any fun r : Row => avoidB (rs.map Row.xs) r.xs) by unfold withinB; rw [hB, hP, any_rows qs (avoidB (rs.map Row.xs))]; rfl)
      have hr8 := rows_8 (basis_perm hB)
      have hq8 := rows_8 (basis_perm hP)
      have H1 := Lib.hid hB
      have H2 := Lib.hid hP
      clear hB hP
      go_enter Try.func27, Try.ntmps27
      go_wp2_with fail
      generalize (w.alloc (.cells #[.slice A rs.length c] 33)) = w0 at hb0 h0 hq0 hc0 hz0 ⊢
      (with_reducible refine (basis_ib A c rs w0 true h0 H1.out).mono ?_)
      rintro e w1 ⟨rfl, hb1⟩
      go_wp2_with fail
      (with_reducible refine (basis_ib B d qs w1 true (hq0.next hb1) H2.out).mono ?_)
      rintro e w2 ⟨rfl, hb2⟩
      have hb12 := hb1.trans (hb2.mono hb1.size)
      have h2 := h0.next hb12
      have hq2 := hq0.next hb12
      have hc2 : w2.cell? ⟨w.heap.size, 0, none⟩ = some (.slice A rs.length c) := (hb12.cell (p := ⟨w.heap.size, 0, none⟩) (by show w.heap.size < w0.heap.size; omega)).trans hc0
      have hsz2 := hb12.size
      go_wp2_with fail
      refine (containsFuncL1 B d qs 68 w.heap.size (avoidB (rs.map Row.xs)) w2 (by omega) hq2.read (fun args w' => call_wi args w') (fun w' k hk hb => ?_) _ rfl).mono ?_
      · exact wi_cl qs[k].A A qs[k].c c _ rs qs[k].xs w' (h2.next hb) ((hq2.next hb).row (List.getElem_mem hk)) ((hb.cell (p := ⟨w.heap.size, 0, none⟩) (by show w.heap.size < w2.heap.size; omega)).trans hc2) (hq8 _ (List.getElem_mem hk)) hr8
      · rintro e w3 ⟨rfl, hb3⟩
        go_wp2_with fail
        go_ret
        exact ⟨ret_bool HG.out.symm, (hb0.trans (hb12.mono hb0.size)).trans (hb3.mono (Nat.le_trans hb0.size hsz2))⟩
    · have hPf : basisB (qs.map Row.xs) = false := by simpa using hP
      have HG := Lib.hid (show withinB (rs.map Row.xs) (qs.map Row.xs) = false by unfold withinB; rw [hB, hPf]; rfl)
      have H1 := Lib.hid hB
      have H2 := Lib.hid hPf
      clear hB hP hPf
      go_enter Try.func27, Try.ntmps27
      go_wp2_with fail
      generalize (w.alloc (.cells #[.slice A rs.length c] 33)) = w0 at hb0 h0 hq0 hc0 hz0 ⊢
      (with_reducible refine (basis_ib A c rs w0 true h0 H1.out).mono ?_)
      rintro e w1 ⟨rfl, hb1⟩
      go_wp2_with fail
      (with_reducible refine (basis_ib B d qs w1 false (hq0.next hb1) H2.out).mono ?_)
      rintro e w2 ⟨rfl, hb2⟩
      go_wp2_with fail
      go_ret
      exact ⟨ret_bool HG.out.symm, hb0.trans ((hb1.trans (hb2.mono hb1.size)).mono hb0.size)⟩
  · have hBf : basisB (rs.map Row.xs) = false := by simpa using hB
    have HG := Lib.hid (show withinB (rs.map Row.xs) (qs.map Row.xs) = false by unfold withinB; rw [hBf]; rfl)
    have H1 := Lib.hid hBf
    clear hB hBf
    go_enter Try.func27, Try.ntmps27
    go_wp2_with fail
    generalize (w.alloc (.cells #[.slice A rs.length c] 33)) = w0 at hb0 h0 hq0 hc0 hz0 ⊢
    (with_reducible refine (basis_ib A c rs w0 false h0 H1.out).mono ?_)
    rintro e w1 ⟨rfl, hb1⟩
    go_wp2_with fail
    go_ret
    exact ⟨ret_bool HG.out.symm, hb0.trans (hb1.mono hb0.size)⟩
theorem allPerm_mem {X : List (List Int)} (h : allPermB X = true) : ∀ q ∈ X, permB q = true := fun q hq => by
  unfold allPermB at h
  rw [Bool.not_eq_true', List.any_eq_false] at h
  simpa using h q hq
theorem allPerm_of {X : List (List Int)} (h : ∀ q ∈ X, permB q = true) : allPermB X = true := by
  unfold allPermB
  rw [Bool.not_eq_true', List.any_eq_false]
  intro q hq
  simp [h q hq]
/-- A permutation of the second list is none, or the first list holds what is none, or it is in the first class. -/
def wiBad (X : List (List Int)) (p : List Int) : Bool := !permB p || !allPermB X || avoidB X p
theorem within_bad {X Y : List (List Int)} {p : List Int} (hp : p ∈ Y) (h : wiBad X p = true) : withinB X Y = false := by
  unfold withinB
  rcases hB : basisB X with _ | _
  · rfl
  rcases hC : basisB Y with _ | _
  · rfl
  have h1 := basis_perm hC p hp
  have h2 := allPerm_of (basis_perm hB)
  unfold wiBad at h
  rw [h1, h2] at h
  have : (Y.any fun p => avoidB X p) = true := List.any_eq_true.2 ⟨p, hp, by simpa using h⟩
  rw [this]; rfl
theorem within_good {X Y : List (List Int)} (h : Y.any (wiBad X) = false) : withinB X Y = (basisB X && basisB Y) := by
  unfold withinB
  have : (Y.any fun p => avoidB X p) = false := by
    rw [List.any_eq_false] at h ⊢
    intro p hp
    have := h p hp
    unfold wiBad at this
    simp only [Bool.or_eq_true, not_or] at this
    exact this.2
  rw [this, Bool.not_false, Bool.and_true]
set_option maxHeartbeats 2000000 in
theorem within_spec (A : Option Addr) (c : Nat) (rs : List Row) (B : Option Addr) (d : Nat) (qs : List Row) (w : World) (h : InL w A c rs) (hq : InL w B d qs) :
    Calls Try.prog 26 #[.slice A rs.length c, .slice B qs.length d] w (Rb w (.bool (withinB (rs.map Row.xs) (qs.map Row.xs)))) := by
  have hlen := hq.len
  go_enter Try.func26, Try.ntmps26
  go_wp2_with fail
  go_loopw [5] (fun i wr => ∃ k : Nat, k ≤ qs.length ∧ i = .int .i64 k ∧ Hid ((qs.take k).any (fun r : Row => wiBad (rs.map Row.xs) r.xs) = false) ∧ Below w.heap.size w wr) (fun i _ => qs.length - (intOf i).toNat)
  case atStart => exact ⟨0, Nat.zero_le _, rfl, Lib.hid rfl, Below.refl _ _⟩
  case round =>
    obtain ⟨k, hk, rfl, HN, hb⟩ := hrel
    have hsz := hb.size
    rcases Nat.lt_or_ge k qs.length with hlt | hge
    · obtain ⟨b', off, rfl, hbb, hc⟩ := (hq.next hb).read.at (by omega)
      have c1 := hc k hlt
      have hin := (hq.next hb).row (List.getElem_mem hlt)
      have HMEM := Lib.hid (show qs[k].xs ∈ qs.map Row.xs from List.mem_map.2 ⟨qs[k], List.getElem_mem hlt, rfl⟩)
      clear hc
      go_wp2_with fail
      by_cases hP : permB qs[k].xs = true
      · have h8 := (permB_true hP).1
        have HP := Lib.hid hP
        clear hP
        (with_reducible refine (isPerm_sb qs[k].A qs[k].c qs[k].xs wr true hin HP.out).mono ?_)
        rintro e w1 ⟨rfl, hd1⟩
        have hb1 := below_dr hb hd1
        go_wp2_with fail
        by_cases hA : allPermB (rs.map Row.xs) = true
        · have hr8 := rows_8 (allPerm_mem hA)
          have HA := Lib.hid hA
          clear hA
          (with_reducible refine (l3All_b A c rs w1 true (h.next hb1) HA.out).mono ?_)
          rintro e w2 ⟨rfl, hb2⟩
          have hb2 := hb1.trans (hb2.mono hb1.size)
          have c2 : w2.cell? ⟨b', off + k, none⟩ = some (Value.slice qs[k].A qs[k].xs.length qs[k].c) := by
            obtain ⟨b2, off2, he, _, hc⟩ := (hq.next hb2).read.at (by omega)
            injection he with he
            injection he with he1 he2 _
            subst he1 he2
            exact hc k hlt
          have hin2 := (hq.next hb2).row (List.getElem_mem hlt)
          go_wp2_with fail
          by_cases hV : avoidB (rs.map Row.xs) qs[k].xs = true
          · have HF := Lib.hid (within_bad HMEM.out (show wiBad (rs.map Row.xs) qs[k].xs = true by unfold wiBad; rw [hV, Bool.or_true]))
            (with_reducible refine (l12Avoids_b A qs[k].A c qs[k].c rs qs[k].xs w2 true (h.next hb2) hin2 h8 hr8 hV).mono ?_)
            rintro e w3 ⟨rfl, hb3⟩
            clear hV
            go_wp2_with fail
            go_ret
            exact ⟨ret_bool HF.out.symm, hb2.trans (hb3.mono hb2.size)⟩
          · have hVf : avoidB (rs.map Row.xs) qs[k].xs = false := by simpa using hV
            have HT := Lib.hid (show (qs.take (k + 1)).any (fun r : Row => wiBad (rs.map Row.xs) r.xs) = false from any_take_false HN.out hlt (by unfold wiBad; rw [HP.out, HA.out, hVf]; rfl))
            (with_reducible refine (l12Avoids_b A qs[k].A c qs[k].c rs qs[k].xs w2 false (h.next hb2) hin2 h8 hr8 hVf).mono ?_)
            rintro e w3 ⟨rfl, hb3⟩
            clear hV hVf
            go_wp2_with fail
            go_roundw
            case rel => exact ⟨k + 1, by omega, by go_num, HT, hb2.trans (hb3.mono hb2.size)⟩
            case measure => simp [intOf]; omega
        · have hAf : allPermB (rs.map Row.xs) = false := by simpa using hA
          have HF := Lib.hid (within_bad HMEM.out (show wiBad (rs.map Row.xs) qs[k].xs = true by unfold wiBad; rw [hAf]; simp))
          (with_reducible refine (l3All_b A c rs w1 false (h.next hb1) hAf).mono ?_)
          rintro e w2 ⟨rfl, hb2⟩
          clear hA hAf
          go_wp2_with fail
          go_ret
          exact ⟨ret_bool HF.out.symm, hb1.trans (hb2.mono hb1.size)⟩
      · have hPf : permB qs[k].xs = false := by simpa using hP
        have HF := Lib.hid (within_bad HMEM.out (show wiBad (rs.map Row.xs) qs[k].xs = true by unfold wiBad; rw [hPf]; simp))
        (with_reducible refine (isPerm_sb qs[k].A qs[k].c qs[k].xs wr false hin hPf).mono ?_)
        rintro e w1 ⟨rfl, hd1⟩
        clear hP hPf
        go_wp2_with fail
        go_ret
        exact ⟨ret_bool HF.out.symm, below_dr hb hd1⟩
    · have HG := Lib.hid (within_good (X := rs.map Row.xs) (Y := qs.map Row.xs) (by have := HN.out; rw [List.take_of_length_le hge, any_rows qs (wiBad (rs.map Row.xs))] at this; exact this))
      go_wp2_with fail
      by_cases hB : basisB (rs.map Row.xs) = true
      · (with_reducible refine (basis_sb A c rs wr true (h.next hb) hB).mono ?_)
        rintro e w1 ⟨rfl, hb1⟩
        have hb1 := hb.trans (hb1.mono hsz)
        have HB := Lib.hid hB
        clear hB
        go_wp2_with fail
        (with_reducible refine (basis_sb B d qs w1 _ (hq.next hb1) rfl).mono ?_)
        rintro e w2 ⟨rfl, hb2⟩
        go_wp2_with fail
        go_ret
        exact ⟨ret_bool (by rw [HG.out, HB.out, Bool.true_and]), hb1.trans (hb2.mono hb1.size)⟩
      · have hBf : basisB (rs.map Row.xs) = false := by simpa using hB
        (with_reducible refine (basis_sb A c rs wr false (h.next hb) hBf).mono ?_)
        rintro e w1 ⟨rfl, hb1⟩
        have HB := Lib.hid hBf
        clear hB hBf
        go_wp2_with fail
        go_ret
        exact ⟨ret_bool (by rw [HG.out, HB.out, Bool.false_and]), hb.trans (hb1.mono hsz)⟩
end Go.Proofs.Ytmkaelefljjamaa
