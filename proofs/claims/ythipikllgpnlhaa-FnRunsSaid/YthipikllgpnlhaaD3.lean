/- What the great laws begin with: the size test, equal lists of numbers, the draws from the code. -/
import Derived.Test.YthipikllgpnlhaaD2
namespace Go.Proofs.Ythipikllgpnlhaa
set_option maxRecDepth 100000
open Go Go.RowKit

/-- The code's bytes are read. -/
structure InY (w : World) (A : Option Addr) (c : Nat) (bs : List Int) : Prop where
  len : bs.length ≤ 1048576
  rd : Rd (Value.int .u8) w w.heap.size A bs
theorem InY.next {w w' : World} {A : Option Addr} {c : Nat} {bs : List Int} (h : InY w A c bs) (hb : Below w.heap.size w w') : InY w' A c bs := ⟨h.len, h.rd.next hb⟩

theorem big_ok (A : Option Addr) (c : Nat) (bs : List Int) (w : World) (hl : bs.length ≤ 1048576) :
    Calls Try.prog 7 #[.slice A bs.length c] w fun e w' => e = .returned (.bool false) ∧ w = w' := by
  have h1 : ¬ ((bs.length : Int) > 1048576) := by omega
  go_enter Try.func7, Try.ntmps7
  go_wp2_with fail
  go_ret
  exact ⟨by simp, rfl⟩
theorem big_no (A : Option Addr) (c : Nat) (bs : List Int) (w : World) (hl : 1048576 < bs.length) (hm : bs.length ≤ 9223372036854775807) :
    Calls Try.prog 7 #[.slice A bs.length c] w fun e w' => e = .returned (.bool true) ∧ w = w' := by
  have h1 : (bs.length : Int) > 1048576 := by omega
  go_enter Try.func7, Try.ntmps7
  go_wp2_with fail
  go_ret
  exact ⟨by simp, rfl⟩

set_option maxHeartbeats 800000 in
theorem sameInts_any (A A' : Option Addr) (c c' : Nat) (xs ys : List Int) (w : World) (hl : xs.length ≤ 1048576)
    (hx : Rd (Value.int .i64) w w.heap.size A xs) (hy : Rd (Value.int .i64) w w.heap.size A' ys) :
    Calls Try.prog 32 #[.slice A xs.length c, .slice A' ys.length c'] w (Rq w (.bool (decide (xs = ys)))) := by
  by_cases hlen : xs.length = ys.length
  · have hne : ((xs.length : Int) != (ys.length : Int)) = false := by simp [hlen]
    go_enter Try.func32, Try.ntmps32
    rw [← hlen]
    have hlH := Lib.hid hlen
    clear hne hlen
    go_wp2_with fail
    go_loopw [5] (fun i wr => ∃ k : Nat, k ≤ xs.length ∧ i = .int .i64 k ∧ Dr w wr ∧ Hid (xs.take k = ys.take k)) (fun i _ => xs.length - (intOf i).toNat)
    case atStart => exact ⟨0, Nat.zero_le _, rfl, Dr.refl _, Lib.hid rfl⟩
    case round =>
      obtain ⟨k, hk, rfl, hd, hT⟩ := hrel
      rcases Nat.lt_or_ge k xs.length with hlt | hge
      · have hly : k < ys.length := by have := hlH.out; omega
        obtain ⟨b, off, rfl, hb, hcx⟩ := hx (by omega)
        obtain ⟨b', off', rfl, hb', hcy⟩ := hy (by omega)
        have f1 : wr.cell? ⟨b, off + k, none⟩ = some (.int .i64 xs[k]) := (hd.cell _).trans (hcx k hlt)
        have f2 : wr.cell? ⟨b', off' + k, none⟩ = some (.int .i64 ys[k]) := (hd.cell _).trans (hcy k hly)
        have l1 : (k : Int) < (xs.length : Int) := by omega
        have l0 : (0 : Int) ≤ (k : Int) := Int.natCast_nonneg _
        by_cases he : xs[k] = ys[k]
        · have hbe : (xs[k] != ys[k]) = false := by simp [he]
          have HT := Lib.hid (show xs.take (k + 1) = ys.take (k + 1) by rw [List.take_succ_eq_append_getElem hlt, List.take_succ_eq_append_getElem hly, hT.out, he])
          have e1 : IntKind.i64.wrap ((k : Int) + 1) = (k : Int) + 1 := IntWalk.i64_in _ (by omega)
          generalize xs[k] = u at f1 hbe he
          clear he
          go_wp2_with fail
          go_quiet (fail)
          go_wp2_with fail
          go_roundw
          case rel => exact ⟨k + 1, by omega, by go_num, hd.drewN _, HT⟩
          case measure => simp [intOf]; omega
        · have hbe : (xs[k] != ys[k]) = true := by simp [he]
          have HE := Lib.hid (show xs ≠ ys from fun h => he (by subst h; rfl))
          clear he
          go_wp2_with fail
          go_quiet (fail)
          go_wp2_with fail
          go_ret
          exact ⟨ret_bool (decide_eq_false HE.out).symm, hd.drewN _⟩
      · have hkk : k = xs.length := by omega
        have HE := Lib.hid (show xs = ys by
          have h1 := hT.out
          have h2 := hlH.out
          rw [hkk, List.take_length, h2, List.take_length] at h1
          exact h1)
        have l1 : ¬ (k : Int) < (xs.length : Int) := by omega
        clear hkk
        go_wp2_with fail
        go_ret
        exact ⟨ret_bool (decide_eq_true HE.out).symm, hd⟩
  · have hne : ((xs.length : Int) != (ys.length : Int)) = true := by simp; omega
    have HE := Lib.hid (show xs ≠ ys from fun h => hlen (by rw [h]))
    clear hlen
    go_enter Try.func32, Try.ntmps32
    go_wp2_with fail
    go_ret
    exact ⟨ret_bool (decide_eq_false HE.out).symm, Dr.refl _⟩
theorem sameInts_eq (A A' : Option Addr) (c c' n n' : Nat) (xs ys : List Int) (w : World) (he : xs = ys) (hn : xs.length = n) (hn' : xs.length = n') (hl : n ≤ 1048576)
    (hx : Rd (Value.int .i64) w w.heap.size A xs) (hy : Rd (Value.int .i64) w w.heap.size A' ys) :
    Calls Try.prog 32 #[.slice A n c, .slice A' n' c'] w (Rq w (.bool true)) := by
  subst he hn hn'
  have := sameInts_any A A' c c' xs xs w hl hx hy
  rwa [decide_eq_true rfl] at this

/-- A draw of a list from the code. -/
def RetDL (w : World) (ok : List Int → Prop) (en : Ending) (w' : World) : Prop :=
  ∃ D k ys, en = .returned (.slice D ys.length k) ∧ ok ys ∧ w'.ownsRow w.heap.size 3 1 (.slice D ys.length k) ys.length (ys.map (Value.int .i64)) ∧ Below w.heap.size w w'
theorem Drawn.below {w w' : World} {q B : Nat} {A : Option Addr} {c : Nat} {bs : List Int} (k : Drawn w w' q A c bs) (hB : B ≤ q) (hw : B ≤ w.heap.size) : Below B w w' := k.span.below hB hw
set_option maxHeartbeats 800000 in
theorem drawInversions (A : Option Addr) (c : Nat) (bs : List Int) (w : World) (h : InY w A c bs) :
    Calls Try.prog 23 #[.slice A bs.length c] w (RetDL w fun ys => ys.length ≤ 9) := by
  have HC := Lib.hid (l1New_any A c bs w h.len h.rd)
  go_enter Try.func23, Try.ntmps23
  go_wp2_with fail
  (with_reducible refine HC.out.mono ?_)
  rintro e w1 ⟨q, rfl, hq, hc, hb⟩
  have HD := Lib.hid (l2Bent_any w1 q A c bs hc)
  go_wp2_with fail
  (with_reducible refine HD.out.mono ?_)
  rintro e w2 ⟨D, k, ys, rfl, hl, ho, k1⟩
  go_wp2_with fail
  go_ret
  exact ⟨D, k, ys, rfl, hl, own_mono ho hb.size, hb.trans (k1.below hq hb.size)⟩
set_option maxHeartbeats 800000 in
theorem drawEuler (A : Option Addr) (c : Nat) (bs : List Int) (w : World) (h : InY w A c bs) :
    Calls Try.prog 24 #[.slice A bs.length c] w fun en w' => ∃ x : Int, en = .returned (.int .i64 x) ∧ -1 ≤ x ∧ x ≤ 13 ∧ Below w.heap.size w w' := by
  have HC := Lib.hid (l1New_any A c bs w h.len h.rd)
  go_enter Try.func24, Try.ntmps24
  go_wp2_with fail
  (with_reducible refine HC.out.mono ?_)
  rintro e w1 ⟨q, rfl, hq, hc, hb⟩
  have HD := Lib.hid (l1Below_any w1 q A c bs 15 (by omega) hc)
  go_wp2_with fail
  (with_reducible refine HD.out.mono ?_)
  rintro e w2 ⟨x, rfl, hx, k1⟩
  have e1 : IntKind.i64.wrap (x - 1) = x - 1 := IntWalk.i64_in _ (by omega)
  go_wp2_with fail
  go_ret
  exact ⟨x - 1, by first | rfl | (simp only [e1]), by omega, by omega, hb.trans (k1.below hq hb.size)⟩
set_option maxHeartbeats 800000 in
theorem drawMahon (A : Option Addr) (c : Nat) (bs : List Int) (w : World) (h : InY w A c bs) :
    Calls Try.prog 26 #[.slice A bs.length c] w fun en w' => ∃ x : Int, en = .returned (.int .i64 x) ∧ -1 ≤ x ∧ x ≤ 11 ∧ Below w.heap.size w w' := by
  have HC := Lib.hid (l1New_any A c bs w h.len h.rd)
  go_enter Try.func26, Try.ntmps26
  go_wp2_with fail
  (with_reducible refine HC.out.mono ?_)
  rintro e w1 ⟨q, rfl, hq, hc, hb⟩
  have HD := Lib.hid (l1Below_any w1 q A c bs 13 (by omega) hc)
  go_wp2_with fail
  (with_reducible refine HD.out.mono ?_)
  rintro e w2 ⟨x, rfl, hx, k1⟩
  have e1 : IntKind.i64.wrap (x - 1) = x - 1 := IntWalk.i64_in _ (by omega)
  go_wp2_with fail
  go_ret
  exact ⟨x - 1, by first | rfl | (simp only [e1]), by omega, by omega, hb.trans (k1.below hq hb.size)⟩
end Go.Proofs.Ythipikllgpnlhaa
