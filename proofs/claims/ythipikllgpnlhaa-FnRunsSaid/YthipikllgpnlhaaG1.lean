/- slices.IndexFunc, slices.ContainsFunc: the function value by its contract. -/
import Derived.Test.YthipikllgpnlhaaL1
import Derived.Test.YthipikllgpnlhaaH3
namespace Go.Proofs.Ythipikllgpnlhaa
set_option maxRecDepth 100000
open Go Go.RowKit

/-- A call's result: a number that is not below zero just where something holds. -/
def IdxPost (w : World) (b : Bool) (e : Ending) (w' : World) : Prop := ∃ i : Int, e = .returned (.int .i64 i) ∧ decide (i ≥ 0) = b ∧ Below w.heap.size w w'
theorem any_take_false {α : Type} {H : α → Bool} {l : List α} {k : Nat} (h : (l.take k).any H = false) (hk : k < l.length) (h1 : H l[k] = false) : (l.take (k + 1)).any H = false := by
  rw [List.take_succ_eq_append_getElem hk, List.any_append, h]
  simp [h1]
theorem any_at {α : Type} {H : α → Bool} {l : List α} {k : Nat} (hk : k < l.length) (h1 : H l[k] = true) : l.any H = true := List.any_eq_true.2 ⟨l[k], List.getElem_mem hk, h1⟩



set_option maxHeartbeats 800000 in
theorem indexFuncL1 (A : Option Addr) (c : Nat) (rs : List Row) (F : Nat) (g : Nat) (H : List Int → Bool) (w : World) (hl : rs.length ≤ 4611686018427387904) (hx : Read w w.heap.size rs [⟨A, c, rs.map Row.v⟩])
    (hF : ∀ args w', (callFunc F args).run Try.prog w' = .ok (.enter F args) w')
    (hcl : ∀ (w' : World) (k : Nat) (hk : k < rs.length), Below w.heap.size w w' → Calls Try.prog F #[.slice rs[k].A rs[k].xs.length rs[k].c, .pointer (some ⟨g, 0, none⟩)] w' (Rb w' (.bool (H rs[k].xs)))) :
    Calls Try.prog 148 #[.slice A rs.length c, .func (.func F) #[] #[.pointer (some ⟨g, 0, none⟩)]] w (IdxPost w (rs.any (fun r : Row => H r.xs))) := by
  go_enter Try.func148, Try.ntmps148
  go_wp2_with fail
  go_loopw [8] (fun i wr => ∃ k : Nat, k ≤ rs.length ∧ i = .int .i64 k ∧ Hid ((rs.take k).any (fun r : Row => H r.xs) = false) ∧ Below w.heap.size w wr) (fun i _ => rs.length - (intOf i).toNat)
  case atStart => exact ⟨0, Nat.zero_le _, rfl, Lib.hid rfl, Below.refl _ _⟩
  case round =>
    obtain ⟨k, hk, rfl, HN, hb⟩ := hrel
    have hsz := hb.size
    rcases Nat.lt_or_ge k rs.length with hlt | hge
    · have hcall := hcl wr k hlt hb
      obtain ⟨b, off, rfl, _, hc⟩ := (hx.below hb).at (by omega)
      have c1 := hc k hlt
      clear hc
      go_wp2_with fail
      (with_reducible refine hcall.mono ?_)
      rintro e w1 ⟨rfl, hb1⟩
      have hbz := hb.trans (hb1.mono hsz)
      by_cases hh : H rs[k].xs = true
      · have HT := Lib.hid (show rs.any (fun r : Row => H r.xs) = true from any_at hlt hh)
        rw [hh]
        clear hh hcall
        go_wp2_with fail
        go_ret
        exact ⟨k, rfl, by rw [HT.out]; exact decide_eq_true (by omega), hbz⟩
      · have hhf : H rs[k].xs = false := by simpa using hh
        have HT := Lib.hid (show (rs.take (k + 1)).any (fun r : Row => H r.xs) = false from any_take_false HN.out hlt hhf)
        rw [hhf]
        clear hh hhf hcall
        go_wp2_with fail
        go_roundw
        case rel => exact ⟨k + 1, by omega, by go_num, HT, hbz⟩
        case measure => simp [intOf]; omega
    · have HT := Lib.hid (show rs.any (fun r : Row => H r.xs) = false by have := HN.out; rwa [List.take_of_length_le hge] at this)
      go_wp2_with fail
      go_ret
      exact ⟨-1, rfl, by rw [HT.out]; rfl, hb⟩
theorem containsFuncL1 (A : Option Addr) (c : Nat) (rs : List Row) (F : Nat) (g : Nat) (H : List Int → Bool) (w : World) (hl : rs.length ≤ 4611686018427387904) (hx : Read w w.heap.size rs [⟨A, c, rs.map Row.v⟩])
    (hF : ∀ args w', (callFunc F args).run Try.prog w' = .ok (.enter F args) w')
    (hcl : ∀ (w' : World) (k : Nat) (hk : k < rs.length), Below w.heap.size w w' → Calls Try.prog F #[.slice rs[k].A rs[k].xs.length rs[k].c, .pointer (some ⟨g, 0, none⟩)] w' (Rb w' (.bool (H rs[k].xs)))) (b : Bool) (hb : rs.any (fun r : Row => H r.xs) = b) :
    Calls Try.prog 130 #[.slice A rs.length c, .func (.func F) #[] #[.pointer (some ⟨g, 0, none⟩)]] w (Rb w (.bool b)) := by
  subst hb
  have HI := Lib.hid (indexFuncL1 A c rs F g H w hl hx hF hcl)
  go_enter Try.func130, Try.ntmps130
  go_wp2_with fail
  (with_reducible refine HI.out.mono ?_)
  rintro e w1 ⟨i, rfl, hd, hb1⟩
  have HD := Lib.hid hd
  clear hd
  go_wp2_with fail
  go_ret
  exact ⟨ret_bool (by rw [← HD.out]), hb1⟩

set_option maxHeartbeats 800000 in
theorem indexFuncL0 (A : Option Addr) (c : Nat) (rs : List Row) (F : Nat) (H : List Int → Bool) (w : World) (hl : rs.length ≤ 4611686018427387904) (hx : Read w w.heap.size rs [⟨A, c, rs.map Row.v⟩])
    (hF : ∀ args w', (callFunc F args).run Try.prog w' = .ok (.enter F args) w')
    (hcl : ∀ (w' : World) (k : Nat) (hk : k < rs.length), Below w.heap.size w w' → Calls Try.prog F #[.slice rs[k].A rs[k].xs.length rs[k].c] w' (Rb w' (.bool (H rs[k].xs)))) :
    Calls Try.prog 148 #[.slice A rs.length c, .func (.func F) #[] #[]] w (IdxPost w (rs.any (fun r : Row => H r.xs))) := by
  go_enter Try.func148, Try.ntmps148
  go_wp2_with fail
  go_loopw [8] (fun i wr => ∃ k : Nat, k ≤ rs.length ∧ i = .int .i64 k ∧ Hid ((rs.take k).any (fun r : Row => H r.xs) = false) ∧ Below w.heap.size w wr) (fun i _ => rs.length - (intOf i).toNat)
  case atStart => exact ⟨0, Nat.zero_le _, rfl, Lib.hid rfl, Below.refl _ _⟩
  case round =>
    obtain ⟨k, hk, rfl, HN, hb⟩ := hrel
    have hsz := hb.size
    rcases Nat.lt_or_ge k rs.length with hlt | hge
    · have hcall := hcl wr k hlt hb
      obtain ⟨b, off, rfl, _, hc⟩ := (hx.below hb).at (by omega)
      have c1 := hc k hlt
      clear hc
      go_wp2_with fail
      (with_reducible refine hcall.mono ?_)
      rintro e w1 ⟨rfl, hb1⟩
      have hbz := hb.trans (hb1.mono hsz)
      by_cases hh : H rs[k].xs = true
      · have HT := Lib.hid (show rs.any (fun r : Row => H r.xs) = true from any_at hlt hh)
        rw [hh]
        clear hh hcall
        go_wp2_with fail
        go_ret
        exact ⟨k, rfl, by rw [HT.out]; exact decide_eq_true (by omega), hbz⟩
      · have hhf : H rs[k].xs = false := by simpa using hh
        have HT := Lib.hid (show (rs.take (k + 1)).any (fun r : Row => H r.xs) = false from any_take_false HN.out hlt hhf)
        rw [hhf]
        clear hh hhf hcall
        go_wp2_with fail
        go_roundw
        case rel => exact ⟨k + 1, by omega, by go_num, HT, hbz⟩
        case measure => simp [intOf]; omega
    · have HT := Lib.hid (show rs.any (fun r : Row => H r.xs) = false by have := HN.out; rwa [List.take_of_length_le hge] at this)
      go_wp2_with fail
      go_ret
      exact ⟨-1, rfl, by rw [HT.out]; rfl, hb⟩
theorem containsFuncL0 (A : Option Addr) (c : Nat) (rs : List Row) (F : Nat) (H : List Int → Bool) (w : World) (hl : rs.length ≤ 4611686018427387904) (hx : Read w w.heap.size rs [⟨A, c, rs.map Row.v⟩])
    (hF : ∀ args w', (callFunc F args).run Try.prog w' = .ok (.enter F args) w')
    (hcl : ∀ (w' : World) (k : Nat) (hk : k < rs.length), Below w.heap.size w w' → Calls Try.prog F #[.slice rs[k].A rs[k].xs.length rs[k].c] w' (Rb w' (.bool (H rs[k].xs)))) (b : Bool) (hb : rs.any (fun r : Row => H r.xs) = b) :
    Calls Try.prog 130 #[.slice A rs.length c, .func (.func F) #[] #[]] w (Rb w (.bool b)) := by
  subst hb
  have HI := Lib.hid (indexFuncL0 A c rs F H w hl hx hF hcl)
  go_enter Try.func130, Try.ntmps130
  go_wp2_with fail
  (with_reducible refine HI.out.mono ?_)
  rintro e w1 ⟨i, rfl, hd, hb1⟩
  have HD := Lib.hid hd
  clear hd
  go_wp2_with fail
  go_ret
  exact ⟨ret_bool (by rw [← HD.out]), hb1⟩

set_option maxHeartbeats 800000 in
theorem indexFuncL2 (A : Option Addr) (c : Nat) (rs : List Row) (F : Nat) (g g2 : Nat) (H : List Int → Bool) (w : World) (hl : rs.length ≤ 4611686018427387904) (hx : Read w w.heap.size rs [⟨A, c, rs.map Row.v⟩])
    (hF : ∀ args w', (callFunc F args).run Try.prog w' = .ok (.enter F args) w')
    (hcl : ∀ (w' : World) (k : Nat) (hk : k < rs.length), Below w.heap.size w w' → Calls Try.prog F #[.slice rs[k].A rs[k].xs.length rs[k].c, .pointer (some ⟨g, 0, none⟩), .pointer (some ⟨g2, 0, none⟩)] w' (Rb w' (.bool (H rs[k].xs)))) :
    Calls Try.prog 148 #[.slice A rs.length c, .func (.func F) #[] #[.pointer (some ⟨g, 0, none⟩), .pointer (some ⟨g2, 0, none⟩)]] w (IdxPost w (rs.any (fun r : Row => H r.xs))) := by
  go_enter Try.func148, Try.ntmps148
  go_wp2_with fail
  go_loopw [8] (fun i wr => ∃ k : Nat, k ≤ rs.length ∧ i = .int .i64 k ∧ Hid ((rs.take k).any (fun r : Row => H r.xs) = false) ∧ Below w.heap.size w wr) (fun i _ => rs.length - (intOf i).toNat)
  case atStart => exact ⟨0, Nat.zero_le _, rfl, Lib.hid rfl, Below.refl _ _⟩
  case round =>
    obtain ⟨k, hk, rfl, HN, hb⟩ := hrel
    have hsz := hb.size
    rcases Nat.lt_or_ge k rs.length with hlt | hge
    · have hcall := hcl wr k hlt hb
      obtain ⟨b, off, rfl, _, hc⟩ := (hx.below hb).at (by omega)
      have c1 := hc k hlt
      clear hc
      go_wp2_with fail
      (with_reducible refine hcall.mono ?_)
      rintro e w1 ⟨rfl, hb1⟩
      have hbz := hb.trans (hb1.mono hsz)
      by_cases hh : H rs[k].xs = true
      · have HT := Lib.hid (show rs.any (fun r : Row => H r.xs) = true from any_at hlt hh)
        rw [hh]
        clear hh hcall
        go_wp2_with fail
        go_ret
        exact ⟨k, rfl, by rw [HT.out]; exact decide_eq_true (by omega), hbz⟩
      · have hhf : H rs[k].xs = false := by simpa using hh
        have HT := Lib.hid (show (rs.take (k + 1)).any (fun r : Row => H r.xs) = false from any_take_false HN.out hlt hhf)
        rw [hhf]
        clear hh hhf hcall
        go_wp2_with fail
        go_roundw
        case rel => exact ⟨k + 1, by omega, by go_num, HT, hbz⟩
        case measure => simp [intOf]; omega
    · have HT := Lib.hid (show rs.any (fun r : Row => H r.xs) = false by have := HN.out; rwa [List.take_of_length_le hge] at this)
      go_wp2_with fail
      go_ret
      exact ⟨-1, rfl, by rw [HT.out]; rfl, hb⟩
theorem containsFuncL2 (A : Option Addr) (c : Nat) (rs : List Row) (F : Nat) (g g2 : Nat) (H : List Int → Bool) (w : World) (hl : rs.length ≤ 4611686018427387904) (hx : Read w w.heap.size rs [⟨A, c, rs.map Row.v⟩])
    (hF : ∀ args w', (callFunc F args).run Try.prog w' = .ok (.enter F args) w')
    (hcl : ∀ (w' : World) (k : Nat) (hk : k < rs.length), Below w.heap.size w w' → Calls Try.prog F #[.slice rs[k].A rs[k].xs.length rs[k].c, .pointer (some ⟨g, 0, none⟩), .pointer (some ⟨g2, 0, none⟩)] w' (Rb w' (.bool (H rs[k].xs)))) (b : Bool) (hb : rs.any (fun r : Row => H r.xs) = b) :
    Calls Try.prog 130 #[.slice A rs.length c, .func (.func F) #[] #[.pointer (some ⟨g, 0, none⟩), .pointer (some ⟨g2, 0, none⟩)]] w (Rb w (.bool b)) := by
  subst hb
  have HI := Lib.hid (indexFuncL2 A c rs F g g2 H w hl hx hF hcl)
  go_enter Try.func130, Try.ntmps130
  go_wp2_with fail
  (with_reducible refine HI.out.mono ?_)
  rintro e w1 ⟨i, rfl, hd, hb1⟩
  have HD := Lib.hid hd
  clear hd
  go_wp2_with fail
  go_ret
  exact ⟨ret_bool (by rw [← HD.out]), hb1⟩

end Go.Proofs.Ythipikllgpnlhaa
