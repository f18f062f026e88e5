/- The draws' numbers: a cursor over the code's bytes. Only the bounds of what is drawn are told. -/
import Derived.Test.YthipikllgpnlhaaR1
namespace Go.Proofs.Ythipikllgpnlhaa
set_option maxRecDepth 100000
open Go Go.RowKit

theorem bitsAnd_lt (x : Int) (m : Nat) (hm : m < 2 ^ 32) : 0 ≤ bits .and .i64 x m ∧ bits .and .i64 x m ≤ m := by
  have h1 : ((BitVec.ofInt 64 x) &&& (BitVec.ofInt 64 (m : Int))).toNat ≤ m := by
    rw [BitVec.toNat_and]
    refine Nat.le_trans (Nat.and_le_right) ?_
    rw [BitVec.toNat_ofInt]
    omega
  have h2 : bits .and .i64 x m = IntKind.i64.wrap (((BitVec.ofInt 64 x) &&& (BitVec.ofInt 64 (m : Int))).toNat : Nat) := rfl
  rw [h2, IntWalk.i64_in _ (by omega)]
  omega
theorem bitsAnd_255 (x : Int) : 0 ≤ bits .and .i64 x 255 ∧ bits .and .i64 x 255 < 256 := by
  have := bitsAnd_lt x 255 (by decide)
  exact ⟨this.1, Int.lt_of_le_of_lt this.2 (by decide)⟩

/-- The cursor of a draw lies in block q, the code's bytes below it. -/
structure Cur (w : World) (q : Nat) (A : Option Addr) (c : Nat) (bs : List Int) : Prop where
  len : bs.length ≤ 1048576
  ob : ∃ (i : Nat) (h : Int), i ≤ bs.length ∧ w.heap[q]? = some (Obj.cells #[.slice A bs.length c, .int .i64 i, .int .i64 h] 88)
  rd : Rd (Value.int .u8) w q A bs
theorem Cur.lt {w : World} {q : Nat} {A : Option Addr} {c : Nat} {bs : List Int} (h : Cur w q A c bs) : q < w.heap.size := by
  obtain ⟨i, k, _, ho⟩ := h.ob
  exact obj_lt ho
theorem Cur.below {w w' : World} {B q : Nat} {A : Option Addr} {c : Nat} {bs : List Int} (h : Cur w q A c bs) (hb : Below B w w') (hB : q < B) : Cur w' q A c bs := by
  obtain ⟨i, k, hi, ho⟩ := h.ob
  exact ⟨h.len, ⟨i, k, hi, obj_below ho hb hB⟩, h.rd.below (hb.mono (by omega))⟩
theorem Cur.dr {w w' : World} {q : Nat} {A : Option Addr} {c : Nat} {bs : List Int} (h : Cur w q A c bs) (hd : Dr w w') : Cur w' q A c bs := by
  obtain ⟨n, rfl⟩ := hd
  exact ⟨h.len, h.ob, h.rd⟩
theorem Span.dr {lo hi : Nat} {a w w' : World} (h : Span lo hi a w) (hd : Dr w w') : Span lo hi a w' := by
  obtain ⟨n, rfl⟩ := hd
  exact ⟨h.os, h.tape, h.output, h.size, h.block⟩

/-- A draw of the cursor turned the cursor alone. -/
structure Drawn (w w' : World) (q : Nat) (A : Option Addr) (c : Nat) (bs : List Int) : Prop where
  cur : Cur w' q A c bs
  span : Span q (q + 1) w w'
theorem Drawn.trans {a b d : World} {q : Nat} {A : Option Addr} {c : Nat} {bs : List Int} (h : Drawn a b q A c bs) (k : Drawn b d q A c bs) : Drawn a d q A c bs := ⟨k.cur, h.span.trans k.span⟩
theorem Drawn.dr {a b d : World} {q : Nat} {A : Option Addr} {c : Nat} {bs : List Int} (h : Drawn a b q A c bs) (k : Dr b d) : Drawn a d q A c bs := ⟨h.cur.dr k, h.span.dr k⟩
theorem Drawn.refl {w : World} {q : Nat} {A : Option Addr} {c : Nat} {bs : List Int} (h : Cur w q A c bs) : Drawn w w q A c bs := ⟨h, Span.refl _ _ _⟩
/-- A number between 0 and n was drawn. -/
def RetC (w : World) (q : Nat) (A : Option Addr) (c : Nat) (bs : List Int) (ok : Int → Prop) (en : Ending) (w' : World) : Prop :=
  ∃ x : Int, en = .returned (.int .i64 x) ∧ ok x ∧ Drawn w w' q A c bs

theorem cur_set {w : World} {q : Nat} {A : Option Addr} {c i : Nat} {bs : List Int} {h : Int} (hc : Cur w q A c bs) (ho : w.heap[q]? = some (Obj.cells #[.slice A bs.length c, .int .i64 i, .int .i64 h] 88)) (hi : i ≤ bs.length) (h' : Int) :
    (w.setCell ⟨q, 2, none⟩ (.int .i64 h')).heap[q]? = some (Obj.cells #[.slice A bs.length c, .int .i64 i, .int .i64 h'] 88) ∧ Drawn w (w.setCell ⟨q, 2, none⟩ (.int .i64 h')) q A c bs := by
  have h1 := obj_set (i := 2) ho (.int .i64 h')
  refine ⟨h1, ⟨hc.len, ⟨i, h', hi, h1⟩, hc.rd.setCell (Nat.le_refl _) _⟩, Span.set (p := ⟨q, _, none⟩) (Nat.le_refl q) (Nat.lt_succ_self q) _⟩
theorem cur_next {w : World} {q : Nat} {A : Option Addr} {c i : Nat} {bs : List Int} {h : Int} (hc : Cur w q A c bs) (ho : w.heap[q]? = some (Obj.cells #[.slice A bs.length c, .int .i64 i, .int .i64 h] 88)) (hi : i < bs.length) :
    Drawn w (w.setCell ⟨q, 1, none⟩ (.int .i64 ((i : Int) + 1))) q A c bs := by
  have h1 := obj_set (i := 1) ho (.int .i64 ((i : Int) + 1))
  exact ⟨⟨hc.len, ⟨i + 1, h, hi, h1⟩, hc.rd.setCell (Nat.le_refl _) _⟩, Span.set (p := ⟨q, _, none⟩) (Nat.le_refl q) (Nat.lt_succ_self q) _⟩

set_option maxHeartbeats 800000 in
theorem l1Byte_any (w : World) (q : Nat) (A : Option Addr) (c : Nat) (bs : List Int) (hc : Cur w q A c bs) :
    Calls Try.prog 129 #[.pointer (some ⟨q, 0, none⟩)] w (RetC w q A c bs fun x => 0 ≤ x ∧ x < 256) := by
  have hlen := hc.len
  obtain ⟨i, h, hi, ho⟩ := hc.ob
  have f0 := obj_cell (i := 0) ho
  have f1 := obj_cell (i := 1) ho
  have f2 := obj_cell (i := 2) ho
  have g2 := obj_frozen (i := 2) ho
  simp only [List.getElem?_toArray, List.getElem?_cons_zero, List.getElem?_cons_succ] at f0 f1 f2
  rcases Nat.lt_or_ge i bs.length with hlt | hge
  · have l1 : (i : Int) < (bs.length : Int) := by omega
    have e1 : IntKind.i64.wrap ((i : Int) + 1) = (i : Int) + 1 := IntWalk.i64_in _ (by omega)
    go_enter Try.func129, Try.ntmps129
    go_wp2_with fail
    clear f0 f1 f2 g2
    generalize wrap64 (wrap64 (h * 6364136223846793005) + 1442695040888963407) = hn
    obtain ⟨h1, k1⟩ := cur_set hc ho hi hn
    generalize w.setCell { block := q, off := 2 } (Value.int IntKind.i64 hn) = w1 at h1 k1 ⊢
    have f0 := obj_cell (i := 0) h1
    have f1 := obj_cell (i := 1) h1
    have f2 := obj_cell (i := 2) h1
    have g1 := obj_frozen (i := 1) h1
    simp only [List.getElem?_toArray, List.getElem?_cons_zero, List.getElem?_cons_succ] at f0 f1 f2
    obtain ⟨b, off, rfl, hb, hcell⟩ := k1.cur.rd (by omega)
    have hci := hcell i hlt
    go_quiet (fail)
    have hx := bitsAnd_255 (bits .xor .i64 (hn / 8589934592) (hn / 35184372088832))
    generalize bits .and .i64 (bits .xor .i64 (hn / 8589934592) (hn / 35184372088832)) 255 = x at hx ⊢
    go_wp2_with fail
    go_quiet (fail)
    go_wp2_with fail
    go_quiet (fail)
    go_wp2_with fail
    go_ret
    refine ⟨_, rfl, bitsAnd_255 _, ?_⟩
    exact (k1.dr (Dr.of _ _)).trans (cur_next (k1.cur.dr (Dr.of _ _)) (obj_dr h1 (Dr.of _ _)) hlt)
  · have l1 : ¬ (i : Int) < (bs.length : Int) := by omega
    go_enter Try.func129, Try.ntmps129
    go_wp2_with fail
    clear f0 f1 f2 g2
    generalize wrap64 (wrap64 (h * 6364136223846793005) + 1442695040888963407) = hn
    obtain ⟨h1, k1⟩ := cur_set hc ho hi hn
    generalize w.setCell { block := q, off := 2 } (Value.int IntKind.i64 hn) = w1 at h1 k1 ⊢
    have f0 := obj_cell (i := 0) h1
    have f1 := obj_cell (i := 1) h1
    have f2 := obj_cell (i := 2) h1
    have g1 := obj_frozen (i := 1) h1
    simp only [List.getElem?_toArray, List.getElem?_cons_zero, List.getElem?_cons_succ] at f0 f1 f2
    go_quiet (fail)
    have hx := bitsAnd_255 (bits .xor .i64 (hn / 8589934592) (hn / 35184372088832))
    generalize bits .and .i64 (bits .xor .i64 (hn / 8589934592) (hn / 35184372088832)) 255 = x at hx ⊢
    go_wp2_with fail
    go_quiet (fail)
    go_wp2_with fail
    go_ret
    exact ⟨x, rfl, hx, k1.dr (by first | with_reducible exact Dr.of _ _ | with_reducible exact Dr.of2 _ _ _ | with_reducible exact Dr.refl _ | with_reducible exact Dr.of3 _ _ _)⟩

set_option maxHeartbeats 800000 in
theorem l1Below_any (w : World) (q : Nat) (A : Option Addr) (c : Nat) (bs : List Int) (n : Int) (hn : -9223372036854775808 ≤ n ∧ n ≤ 9223372036854775807) (hc : Cur w q A c bs) :
    Calls Try.prog 93 #[.pointer (some ⟨q, 0, none⟩), .int .i64 n] w (RetC w q A c bs fun x => 0 ≤ x ∧ (0 < n → x < n) ∧ (n ≤ 0 → x = 0)) := by
  by_cases h0 : n ≤ 0
  · go_enter Try.func93, Try.ntmps93
    go_wp2_with fail
    go_ret
    exact ⟨0, rfl, ⟨Int.le_refl _, fun h => by omega, fun _ => rfl⟩, Drawn.refl hc⟩
  by_cases h1 : n ≤ 256
  · have HC := Lib.hid (l1Byte_any w q A c bs hc)
    go_enter Try.func93, Try.ntmps93
    go_wp2_with fail
    (with_reducible refine HC.out.mono ?_)
    rintro e w1 ⟨x, rfl, ⟨hx0, hx1⟩, k1⟩
    have hm0 := Int.emod_nonneg x (show n ≠ 0 by omega)
    have hm1 := Int.emod_lt_of_pos x (show 0 < n by omega)
    have hm2 : x.tmod n = x % n := Int.tmod_eq_emod_of_nonneg hx0
    go_wp2_with fail
    go_ret
    exact ⟨x % n, by first | rfl | (simp only [hm2]), ⟨hm0, fun _ => hm1, fun h => by omega⟩, k1⟩
  · have HC := Lib.hid (l1Byte_any w q A c bs hc)
    go_enter Try.func93, Try.ntmps93
    go_wp2_with fail
    (with_reducible refine HC.out.mono ?_)
    rintro e w1 ⟨x, rfl, hx, k1⟩
    go_wp2_with fail
    (with_reducible refine (l1Byte_any w1 q A c bs k1.cur).mono ?_)
    rintro e w2 ⟨y, rfl, hy, k2⟩
    have k2 := k1.trans k2
    go_wp2_with fail
    (with_reducible refine (l1Byte_any w2 q A c bs k2.cur).mono ?_)
    rintro e w3 ⟨z, rfl, hz, k3⟩
    have k3 := k2.trans k3
    go_wp2_with fail
    (with_reducible refine (l1Byte_any w3 q A c bs k3.cur).mono ?_)
    rintro e w4 ⟨u, rfl, hu, k4⟩
    have k4 := k3.trans k4
    have t1 : IntKind.i64.wrap (x * 16777216) = x * 16777216 := IntWalk.i64_in _ (by omega)
    have t2 : IntKind.i64.wrap (y * 65536) = y * 65536 := IntWalk.i64_in _ (by omega)
    have t3 : IntKind.i64.wrap (z * 256) = z * 256 := IntWalk.i64_in _ (by omega)
    have t4 : IntKind.i64.wrap (x * 16777216 + y * 65536) = x * 16777216 + y * 65536 := IntWalk.i64_in _ (by omega)
    have t5 : IntKind.i64.wrap (x * 16777216 + y * 65536 + z * 256) = x * 16777216 + y * 65536 + z * 256 := IntWalk.i64_in _ (by omega)
    have t6 : IntKind.i64.wrap (x * 16777216 + y * 65536 + z * 256 + u) = x * 16777216 + y * 65536 + z * 256 + u := IntWalk.i64_in _ (by omega)
    have t7 : 0 ≤ x * 16777216 + y * 65536 + z * 256 + u := by omega
    have hm0 := Int.emod_nonneg (x * 16777216 + y * 65536 + z * 256 + u) (show n ≠ 0 by omega)
    have hm1 := Int.emod_lt_of_pos (x * 16777216 + y * 65536 + z * 256 + u) (show 0 < n by omega)
    go_wp2_with fail
    go_ret
    exact ⟨(x * 16777216 + y * 65536 + z * 256 + u) % n, by first | rfl | (simp only [Int.tmod_eq_emod_of_nonneg t7]), ⟨hm0, fun _ => hm1, fun h => by omega⟩, k4⟩

set_option maxHeartbeats 800000 in
theorem l1Once_any (w : World) (q : Nat) (A : Option Addr) (c : Nat) (bs : List Int) (n : Int) (hn : -9223372036854775808 ≤ n ∧ n ≤ 9223372036854775807) (hc : Cur w q A c bs) :
    Calls Try.prog 103 #[.pointer (some ⟨q, 0, none⟩), .int .i64 n] w (fun en w' => ∃ b : Bool, en = .returned (.bool b) ∧ Drawn w w' q A c bs) := by
  have HC := Lib.hid (l1Below_any w q A c bs n hn hc)
  go_enter Try.func103, Try.ntmps103
  go_wp2_with fail
  (with_reducible refine HC.out.mono ?_)
  rintro e w1 ⟨x, rfl, hx, k1⟩
  go_wp2_with fail
  go_ret
  exact ⟨_, rfl, k1⟩

/-- One of a list of numbers that is read, which lies beyond the cursor or below it. -/
theorem l1PickInt_any (w : World) (q : Nat) (A : Option Addr) (c : Nat) (bs : List Int) (b : Nat) (n k : Nat) (xs : List Int) (hnl : xs.length = n) (h0 : 0 < xs.length) (hl : xs.length ≤ 256) (hb : b ≠ q) (hbw : b < w.heap.size)
    (hr : ∀ j (h : j < xs.length), w.cell? ⟨b, j, none⟩ = some (.int .i64 xs[j])) (hc : Cur w q A c bs) :
    Calls Try.prog 107 #[.pointer (some ⟨q, 0, none⟩), .slice (some ⟨b, 0, none⟩) n k] w (RetC w q A c bs fun x => x ∈ xs) := by
  subst hnl
  have HC := Lib.hid (l1Below_any w q A c bs (xs.length : Int) (by omega) hc)
  go_enter Try.func107, Try.ntmps107
  go_wp2_with fail
  (with_reducible refine HC.out.mono ?_)
  rintro e w1 ⟨x, rfl, hx, k1⟩
  obtain ⟨m, rfl⟩ := Int.eq_ofNat_of_zero_le hx.1
  have hm : m < xs.length := by have := hx.2.1 (by omega); omega
  have hcl : w1.cell? ⟨b, m, none⟩ = some (.int .i64 xs[m]) := by
    have h1 : w1.heap[b]? = w.heap[b]? := k1.span.block b hbw (by omega)
    rw [← hr m hm]
    exact World.cell?_of_block h1
  go_wp2_with fail
  go_ret
  exact ⟨_, rfl, List.getElem_mem hm, k1⟩

set_option maxHeartbeats 800000 in
theorem l1New_any (A : Option Addr) (c : Nat) (bs : List Int) (w : World) (hl : bs.length ≤ 1048576) (hr : Rd (Value.int .u8) w w.heap.size A bs) :
    Calls Try.prog 71 #[.slice A bs.length c] w (fun en w' => ∃ q, en = .returned (.pointer (some ⟨q, 0, none⟩)) ∧ w.heap.size ≤ q ∧ Cur w' q A c bs ∧ Below w.heap.size w w') := by
  go_enter Try.func71, Try.ntmps71
  have e0 : IntKind.i64.wrap ((26583 : Int) + (bs.length : Int)) = 26583 + (bs.length : Int) := IntWalk.i64_in _ (by omega)
  go_wp2_with fail
  go_loopw [3, 4] (fun v i wr => ∃ (k : Nat) (h : Int), k ≤ bs.length ∧ v = .int .i64 h ∧ i = .int .i64 k ∧ wr = w) (fun _ i _ => bs.length - (intOf i).toNat)
  case atStart => exact ⟨0, _, Nat.zero_le _, rfl, rfl, rfl⟩
  case round =>
    obtain ⟨k, h, hk, rfl, rfl, rfl⟩ := hrel
    rcases Nat.lt_or_ge k bs.length with hlt | hge
    · by_cases h4 : k < 4000
      · have l1 : (k : Int) < (bs.length : Int) := by omega
        have l2 : (k : Int) < 4000 := by omega
        have e1 : IntKind.i64.wrap ((k : Int) + 1) = (k : Int) + 1 := IntWalk.i64_in _ (by omega)
        obtain ⟨b, off, rfl, hb, hcell⟩ := hr (by omega)
        have hci := hcell k hlt
        go_wp2_with fail
        go_roundw
        case rel => exact ⟨k + 1, _, by omega, rfl, by go_num, trivial⟩
        case measure => simp [intOf]; omega
      · have l1 : (k : Int) < (bs.length : Int) := by omega
        have l2 : ¬ (k : Int) < 4000 := by omega
        go_wp2_with fail
        go_ret
        exact ⟨_, rfl, Nat.le_refl _, ⟨hl, ⟨0, h, Nat.zero_le _, obj_new _ _⟩, hr.alloc (Nat.le_refl _) _⟩, (Below.refl _ _).alloc (Nat.le_refl _) _⟩
    · have l1 : ¬ (k : Int) < (bs.length : Int) := by omega
      go_wp2_with fail
      go_ret
      exact ⟨_, rfl, Nat.le_refl _, ⟨hl, ⟨0, h, Nat.zero_le _, obj_new _ _⟩, hr.alloc (Nat.le_refl _) _⟩, (Below.refl _ _).alloc (Nat.le_refl _) _⟩
end Go.Proofs.Ythipikllgpnlhaa
