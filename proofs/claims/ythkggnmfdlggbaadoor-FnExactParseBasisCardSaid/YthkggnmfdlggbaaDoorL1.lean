/- Lists of rows: the laws' own helpers toIntSS, eqIntSS, markIntSS, heldIntSS, szIntSS. -/
import Derived.Test.YthkggnmfdlggbaaDoorR2
import Derived.Test.YthkggnmfdlggbaaDoorC2
namespace Go.Proofs.YthkggnmfdlggbaaDoor
set_option maxRecDepth 100000
open Go Go.RowKit

theorem infoL : (Tryd.prog.info? 30).map (fun i => (i.zero, i.size, i.bytes)) = some (some (.slice none 0 0), 1, 24) := by kernel_rfl

def sizeX (X : List (List Int)) : Nat := (X.map List.length).sum
theorem sizeR_eq (rs : List Row) : sizeR rs = sizeX (rs.map Row.xs) := by simp only [sizeR, sizeX, List.map_map]; rfl
theorem map_len {rs rs' : List Row} (h : rs'.map Row.xs = rs.map Row.xs) : rs'.length = rs.length := by have := congrArg List.length h; simpa using this
theorem map_size {rs rs' : List Row} (h : rs'.map Row.xs = rs.map Row.xs) : sizeR rs' = sizeR rs := by rw [sizeR_eq, sizeR_eq, h]
theorem map_len1 {rs : List Row} {X : List (List Int)} (h : rs.map Row.xs = X) : rs.length = X.length := by rw [← h, List.length_map]
theorem map_size1 {rs : List Row} {X : List (List Int)} (h : rs.map Row.xs = X) : sizeR rs = sizeX X := by rw [sizeR_eq, h]
theorem sizeR_mem {rs : List Row} {r : Row} (h : r ∈ rs) : r.xs.length ≤ sizeR rs := by
  induction rs with
  | nil => cases h
  | cons a t ih =>
    have e : sizeR (a :: t) = a.xs.length + sizeR t := by simp [sizeR]
    rcases List.mem_cons.1 h with rfl | h
    · omega
    · have := ih h; omega
theorem sizeR_take (rs : List Row) (j : Nat) (h : j < rs.length) : sizeR (rs.take (j + 1)) = sizeR (rs.take j) + rs[j].xs.length := by
  rw [List.take_succ_eq_append_getElem h, sizeR_append]; simp [sizeR]
theorem sizeR_take_le (rs : List Row) (j : Nat) : sizeR (rs.take j) ≤ sizeR rs := by
  have := sizeR_append (rs.take j) (rs.drop j)
  rw [List.take_append_drop] at this
  omega

/-- What a call is handed of a list of rows. -/
structure InL (w : World) (A : Option Addr) (c : Nat) (rs : List Row) : Prop where
  len : rs.length + sizeR rs ≤ 1048576
  read : Read w w.heap.size rs [⟨A, c, rs.map Row.v⟩]
theorem InL.next {w w' : World} {A : Option Addr} {c : Nat} {rs : List Row} (h : InL w A c rs) (hb : Below w.heap.size w w') : InL w' A c rs := ⟨h.len, (h.read.below hb).more hb.size⟩
theorem InL.dr {w w' : World} {A : Option Addr} {c : Nat} {rs : List Row} (h : InL w A c rs) (hd : Dr w w') : InL w' A c rs := ⟨h.len, (h.read.dr hd).more (by rw [hd.heap]; exact Nat.le_refl _)⟩
theorem Read.toL {w : World} {hi : Nat} {A : Option Addr} {c : Nat} {rs : List Row} (h : Read w hi rs [⟨A, c, rs.map Row.v⟩]) (hl : rs.length + sizeR rs ≤ 1048576) (hB : hi ≤ w.heap.size) : InL w A c rs := ⟨hl, h.more hB⟩
theorem InL.row {w : World} {A : Option Addr} {c : Nat} {rs : List Row} (h : InL w A c rs) {r : Row} (hr : r ∈ rs) : In w r.A r.c r.xs :=
  h.read.mem hr (by have := sizeR_mem hr; have := h.len; omega) (Nat.le_refl _)
theorem Read.at {w : World} {B : Nat} {A : Option Addr} {c : Nat} {rs : List Row} (h : Read w B rs [⟨A, c, rs.map Row.v⟩]) (h0 : 0 < rs.length) :
    ∃ b off, A = some ⟨b, off, none⟩ ∧ b < B ∧ ∀ j (hj : j < rs.length), w.cell? ⟨b, off + j, none⟩ = some (Value.slice rs[j].A rs[j].xs.length rs[j].c) := by
  obtain ⟨b, off, he, hb, hc⟩ := h.ord _ (List.mem_singleton.2 rfl) (by simpa using h0)
  refine ⟨b, off, he, hb, fun j hj => ?_⟩
  have := hc j (by simpa using hj)
  rw [this]
  simp [Row.v]
theorem Read.atN {w : World} {B : Nat} {A : Option Addr} {c : Nat} {rs : List Row} {X : List Value} (h : Read w B rs [⟨A, c, X⟩]) (h0 : 0 < X.length) :
    ∃ b off, A = some ⟨b, off, none⟩ ∧ b < B ∧ ∀ j (hj : j < X.length), w.cell? ⟨b, off + j, none⟩ = some X[j] := h.ord _ (List.mem_singleton.2 rfl) h0


theorem marked_get (k : Int) (rs : List Row) (j : Nat) (h : j < rs.length) (h' : j < (marked k rs).length) : (marked k rs)[j] = ⟨rs[j].A, rs[j].c, marks (k + sizeR (rs.take j)) rs[j].xs.length⟩ := by
  induction rs generalizing k j with
  | nil => simp at h
  | cons r t ih =>
    cases j with
    | zero => simp [marked, sizeR]
    | succ j =>
      simp only [marked, List.getElem_cons_succ]
      rw [ih (k + r.xs.length) j (by simpa using h)]
      simp only [List.take_succ_cons]
      have : k + (r.xs.length : Int) + (sizeR (t.take j) : Nat) = k + (sizeR (r :: t.take j) : Nat) := by simp [sizeR]; omega
      rw [this]
set_option maxHeartbeats 400000 in
theorem heldIntSS_marks (A : Option Addr) (c hi : Nat) (q : Int) (rs : List Row) (w : World) (hq : 0 ≤ q ∧ q ≤ 8388608) (hs : sizeR rs ≤ 1048576) (hln : rs.length ≤ 1048576) (hh : hi ≤ w.heap.size)
    (h : Read w hi (marked q rs) [⟨A, c, rs.map Row.v⟩]) :
    Calls Tryd.prog 8 #[.slice A rs.length c, .int .i64 q] w (Rb w (.int .i64 (q + (sizeR rs : Nat)))) := by
  go_enter Tryd.func8, Tryd.ntmps8
  go_wp2
  go_loopw [1, 5] (fun k i wr => ∃ j : Nat, j ≤ rs.length ∧ i = .int .i64 j ∧ k = .int .i64 (q + (sizeR (rs.take j) : Nat)) ∧ Below w.heap.size w wr) (fun _ i _ => rs.length - (intOf i).toNat)
  case atStart => exact ⟨0, Nat.zero_le _, rfl, by simp [sizeR], Below.refl _ _⟩
  case round =>
    obtain ⟨j, hj, rfl, rfl, hb⟩ := hrel
    have hsz := hb.size
    have h := h.below (hb.mono hh)
    by_cases hlt : j < rs.length
    · obtain ⟨b, off, rfl, _, hc⟩ := h.atN (by simpa using (show 0 < rs.length by omega))
      have c1 : wr.cell? ⟨b, off + j, none⟩ = some (Value.slice rs[j].A rs[j].xs.length rs[j].c) := by rw [hc j (by simpa using hlt)]; simp [Row.v]
      have hm := sizeR_take rs j hlt
      have hle := sizeR_take_le rs (j + 1)
      have hlm : j < (marked q rs).length := by rw [marked_length]; exact hlt
      have hrow := h.rd (marked q rs)[j] (List.getElem_mem hlm)
      rw [marked_get q rs j hlt hlm] at hrow
      clear hc hlm
      go_wp2_with fail
      (with_reducible refine (heldIntS_marks rs[j].A rs[j].c (q + (sizeR (rs.take j) : Nat)) rs[j].xs.length wr (by omega) (hrow.more (by omega))).mono ?_)
      rintro e w' ⟨rfl, rfl⟩
      go_wp2
      go_roundw
      case rel => exact ⟨j + 1, by omega, by go_num, by rw [hm]; go_num, hb⟩
      case measure => simp [intOf]; omega
    · obtain rfl : j = rs.length := by omega
      have hm : sizeR (rs.take rs.length) = sizeR rs := by rw [List.take_length]
      go_wp2
      go_ret
      exact ⟨ret_int (by rw [hm]), hb⟩

set_option maxHeartbeats 400000 in
theorem markIntSS_any (A : Option Addr) (c lo hi : Nat) (rs rs0 : List Row) (os : List Outer) (q : Int) (w : World) (hq : 0 ≤ q ∧ q ≤ 8388608) (hs : sizeR rs ≤ 1048576) (hln : rs.length ≤ 1048576) (_hh : hi ≤ w.heap.size)
    (h : Own w lo hi (rs0 ++ rs) os) (ho : (⟨A, c, rs.map Row.v⟩ : Outer) ∈ os) :
    Calls Tryd.prog 7 #[.slice A rs.length c, .int .i64 q] w fun e w' => e = .returned (.int .i64 (q + (sizeR rs : Nat))) ∧ Own w' lo hi (rs0 ++ marked q rs) os ∧ Span lo hi w w' := by
  go_enter Tryd.func7, Tryd.ntmps7
  go_wp2
  go_loopw [1, 5] (fun k i wr => ∃ j : Nat, j ≤ rs.length ∧ i = .int .i64 j ∧ k = .int .i64 (q + (sizeR (rs.take j) : Nat)) ∧ Own wr lo hi (rs0 ++ marked q (rs.take j) ++ rs.drop j) os ∧ Span lo hi w wr) (fun _ i _ => rs.length - (intOf i).toNat)
  case atStart => exact ⟨0, Nat.zero_le _, rfl, by simp [sizeR], by simpa [marked] using h, Span.refl _ _ _⟩
  case round =>
    clear h
    obtain ⟨j, hj, rfl, rfl, h, hsp⟩ := hrel
    have hsz := hsp.size
    by_cases hlt : j < rs.length
    · have hrd := h.read
      obtain ⟨b, off, rfl, _, hc⟩ := hrd.ord _ ho (by simpa using (show 0 < rs.length by omega))
      have c1 : wr.cell? ⟨b, off + j, none⟩ = some (Value.slice rs[j].A rs[j].xs.length rs[j].c) := by rw [hc j (by simpa using hlt)]; simp [Row.v]
      have hm := sizeR_take rs j hlt
      have hle := sizeR_take_le rs (j + 1)
      rw [List.drop_eq_getElem_cons hlt] at h
      have hrow : wr.ownsRow lo 3 1 (.slice rs[j].A rs[j].xs.length rs[j].c) rs[j].xs.length (rs[j].xs.map (Value.int .i64)) := h.rows rs[j] (List.mem_append.2 (.inr List.mem_cons_self))
      have hlr := h.lt rs[j] (List.mem_append.2 (.inr List.mem_cons_self))
      clear hc hrd
      go_wp2_with fail
      (with_reducible refine (markIntS_any rs[j].A rs[j].c lo rs[j].xs (q + (sizeR (rs.take j) : Nat)) wr (by omega) (by omega) hrow).mono ?_)
      rintro e w' ⟨rfl, om, hg⟩
      have h2 := Own.mark h hg om
      have hsp2 := hsp.trans (Span.of_grown hg (fun g hgg => ⟨(hrow.lt g hgg).1, hlr g hgg⟩))
      have H2 := Lib.hid (show Own w' lo hi (rs0 ++ marked q (rs.take (j + 1)) ++ rs.drop (j + 1)) os by
        rw [List.take_succ_eq_append_getElem hlt, marked_append]
        simpa [marked] using h2)
      have H3 := Lib.hid hsp2
      clear h2 hsp2 om hg h hrow hlr
      go_wp2
      go_roundw
      case rel => exact ⟨j + 1, by omega, by go_num, by rw [hm]; go_num, H2.out, H3.out⟩
      case measure => simp [intOf]; omega
    · obtain rfl : j = rs.length := by omega
      have hm : sizeR (rs.take rs.length) = sizeR rs := by rw [List.take_length]
      go_wp2
      go_ret
      refine ⟨ret_int (by rw [hm]), ?_, hsp⟩
      simpa using h

theorem eqIntS_b (A A' : Option Addr) (c c' n m : Nat) (xs ys : List Int) (w : World) (b : Bool) (hn : xs.length = n) (hm : ys.length = m) (hl : n ≤ 4611686018427387904)
    (hx : Rd (Value.int .i64) w w.heap.size A xs) (hy : Rd (Value.int .i64) w w.heap.size A' ys) (hb : decide (xs = ys) = b) :
    Calls Tryd.prog 15 #[.slice A n c, .slice A' m c'] w (Rq w (.bool b)) := by
  subst hn hm hb
  exact eqIntS_any A A' c c' xs ys w hl hx hy
set_option maxHeartbeats 400000 in
theorem eqL_R (A A' : Option Addr) (c c' : Nat) (rs rs' : List Row) (w : World) (h : InL w A c rs) (h' : InL w A' c' rs') (he : rs.map Row.xs = rs'.map Row.xs) :
    Calls Tryd.prog 6 #[.slice A rs.length c, .slice A' rs'.length c'] w (Rb w (.bool true)) := by
  have hlen : rs.length = rs'.length := (map_len he.symm).symm
  have hl1 := h.len
  have hne : ((rs.length : Int) != (rs'.length : Int)) = false := by simp [hlen]
  have HE : ∀ (j : Nat) (hj : j < rs.length) (hj' : j < rs'.length), rs[j].xs = rs'[j].xs := fun j hj hj' => by
    have h1 : (rs.map Row.xs)[j]'(by simpa using hj) = (rs'.map Row.xs)[j]'(by simpa using hj') := by simp only [he]
    simpa using h1
  have HL := Lib.hid hlen
  have HEh := Lib.hid HE
  clear hlen he HE
  go_enter Tryd.func6, Tryd.ntmps6
  go_wp2
  go_loopw [5] (fun i wr => ∃ j : Nat, j ≤ rs.length ∧ i = .int .i64 j ∧ Dr w wr) (fun i _ => rs.length - (intOf i).toNat)
  case atStart => exact ⟨0, Nat.zero_le _, rfl, Dr.refl _⟩
  case round =>
    obtain ⟨j, hj, rfl, hd⟩ := hrel
    by_cases hlt : j < rs.length
    · have hlt' : j < rs'.length := by have := HL.out; omega
      obtain ⟨b, off, rfl, _, hc⟩ := (h.dr hd).read.at (by omega)
      obtain ⟨b', off', rfl, _, hc'⟩ := (h'.dr hd).read.at (by omega)
      have c1 := hc j hlt
      have c2 := hc' j hlt'
      have r1 := ((h.dr hd).row (List.getElem_mem hlt)).rd
      have r2 := ((h'.dr hd).row (List.getElem_mem hlt')).rd
      have q0 := ((h.dr hd).row (List.getElem_mem hlt)).len
      have q1 : rs[j].xs.length ≤ 4611686018427387904 := by omega
      have hb : decide (rs[j].xs = rs'[j].xs) = true := by simpa using HEh.out j hlt hlt'
      have HB := Lib.hid hb
      clear hc hc' hb
      go_wp2
      go_quiet ((go_at_call 15; exact quiet_rq (eqIntS_b _ _ _ _ _ _ rs[j].xs rs'[j].xs _ true rfl rfl q1 r1 r2 HB.out)))
      go_wp2
      go_roundw
      case rel => exact ⟨j + 1, by omega, by go_num, (by first | with_reducible assumption | with_reducible exact hd | with_reducible exact Dr.drewN hd _ | with_reducible exact Dr.drewN (Dr.drewN hd _) _ | with_reducible exact Dr.drew hd)⟩
      case measure => simp [intOf]; omega
    · go_wp2
      go_ret
      exact ⟨rfl, below_dr (Below.refl _ _) hd⟩


theorem markL_R (A : Option Addr) (c : Nat) (rs : List Row) (lo hi : Nat) (q : Int) (w : World) (hq : 0 ≤ q ∧ q ≤ 8388608) (hs : rs.length + sizeR rs ≤ 1048576) (hh : hi ≤ w.heap.size) (h : Own w lo hi rs [⟨A, c, rs.map Row.v⟩]) :
    Calls Tryd.prog 7 #[.slice A rs.length c, .int .i64 q] w fun e w' => e = .returned (.int .i64 (q + (sizeR rs : Nat))) ∧ Own w' lo hi (marked q rs) [⟨A, c, rs.map Row.v⟩] ∧ Span lo hi w w' :=
  (markIntSS_any A c lo hi rs [] _ q w hq (by omega) (by omega) hh h (List.mem_singleton.2 rfl)).mono fun _ _ ⟨a, b, d⟩ => ⟨a, b, d⟩
theorem heldL_R (A : Option Addr) (c hi : Nat) (q : Int) (rs : List Row) (w : World) (hq : 0 ≤ q ∧ q ≤ 8388608) (hs : rs.length + sizeR rs ≤ 1048576) (hh : hi ≤ w.heap.size) (h : Read w hi (marked q rs) [⟨A, c, rs.map Row.v⟩]) :
    Calls Tryd.prog 8 #[.slice A rs.length c, .int .i64 q] w (Rb w (.int .i64 (q + (sizeR rs : Nat)))) :=
  heldIntSS_marks A c hi q rs w hq (by omega) (by omega) hh h
end Go.Proofs.YthkggnmfdlggbaaDoor
