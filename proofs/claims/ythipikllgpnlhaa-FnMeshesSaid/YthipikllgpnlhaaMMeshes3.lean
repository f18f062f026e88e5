/- Several texts in one, each with its own head: Q1, M2, P3, N1. No program of ours. -/
import Derived.Test.YthipikllgpnlhaaProg
import Derived.Test.YthipikllgpnlhaaMMeshes2
/- Contracts of small list functions of Go's library and of the reference: Equal, l2Same, Clone, Index, Contains, identity, the patterns. -/
namespace Go.Proofs.Ythipikllgpnlhaa
set_option maxRecDepth 100000
open Go Go.RowKit

/-! append of a list that is read, nil or not, onto a row of the call's own (after the guide's page of words) -/
section
variable {P : Program} (w : World)
theorem run_append_of_nil (base : Nat) (t ty e : TypeId) (i : TypeInfo) (ht : P.underlying t = some (.slice e)) (hi : P.info? e = some i)
    (v : Value) (n : Nat) (xs : List Value) (hown : w.ownsRow base e 1 v n xs) (c : Nat) : (Builtin.append_ #[t, t] ty #[v, .slice none 0 c]).run P w = .ok v w := by
  rcases hown.2 with ⟨rfl, rfl⟩ | ⟨g, cap, cur, rfl, _, _, hnc, _⟩
  · simp [Builtin.append_, run_underlying ht, sizeOf, typeInfo, hi, Builtin.lenOf, Builtin.firstCells]
  · simp [Builtin.append_, run_underlying ht, sizeOf, typeInfo, hi, Builtin.lenOf, Builtin.firstCells, hnc, storeCells]
theorem run_append_rd {α : Type} {f : α → Value} (base : Nat) (t ty e : TypeId) (i : TypeInfo) (z : Value) (bytes : Nat) (ht : P.underlying t = some (.slice e)) (hi : P.info? e = some i) (hz : i.zero = some z)
    (hsize : i.size = 1) (hby : i.bytes = bytes) (hzs : z.cells.size = 1)
    (v : Value) (n : Nat) (xs : List Value) (hown : w.ownsRow base e 1 v n xs)
    (B : Nat) (A : Option Addr) (c m : Nat) (ys : List α) (hm : ys.length = m) (hr : Rd f w B A ys) (h1 : ∀ y, (f y).oneCell' = true)
    (h63 : n + m ≤ maxLen) (hbytes : (n + m) * bytes ≤ 140737488355328) (hbase : base ≤ w.heap.size) :
    ∃ v' w', (Builtin.append_ #[t, t] ty #[v, .slice A m c]).run P w = .ok v' w' ∧ w'.ownsRow base e 1 v' (n + m) (xs ++ ys.map f) ∧ w.grownBy w' v.ownBlock := by
  subst hm
  rcases Nat.eq_zero_or_pos ys.length with h0 | h0
  · have hy : ys = [] := List.eq_nil_of_length_eq_zero h0
    subst hy
    cases A with
    | none => exact ⟨v, w, run_append_of_nil w base t ty e i ht hi v n xs hown c, by simpa using hown, World.grownBy.refl w _⟩
    | some ad =>
      obtain ⟨v', w', hrun, h2, h3, _⟩ := run_append_own (P := P) w base t ty e i z 1 bytes ht hi hz hsize hby hzs (by omega) v n xs hown ad 0 c [] rfl (by intro j u h; simp at h) (by simp) (by simpa using h63) (by simpa using hbytes) hbase
      exact ⟨v', w', hrun, by simpa using h2, h3⟩
  · obtain ⟨b, off, rfl, _, hc⟩ := hr h0
    obtain ⟨v', w', hrun, h2, h3, _⟩ := run_append_own (P := P) w base t ty e i z 1 bytes ht hi hz hsize hby hzs (by omega) v n xs hown ⟨b, off, none⟩ ys.length c (ys.map f) (by simp) (fun j u hu => by
      rw [List.getElem?_map] at hu
      obtain ⟨y, hy, rfl⟩ := Option.map_eq_some_iff.1 hu
      obtain ⟨hj, rfl⟩ := List.getElem?_eq_some_iff.1 hy
      rw [Addr.add_lit]
      exact hc j hj) (by intro u hu; obtain ⟨y, _, rfl⟩ := List.mem_map.1 hu; exact h1 y) h63 hbytes hbase
    exact ⟨v', w', hrun, h2, h3⟩
theorem wpList_append_rd {α : Type} {f : α → Value} {ops : Array Oper} {rest : List Oper} {o : Oper} {a : Act} {Q : Exit → Act → World → Prop} (hgd : o.guard = none) (s x : Operand) (t : TypeId)
    (ho : o.op = .call { callee := .builtin .append, args := #[s, x], argTypes := #[t, t] })
    (base : Nat) (e : TypeId) (i : TypeInfo) (z : Value) (bytes : Nat) (ht : P.underlying t = some (.slice e)) (hi : P.info? e = some i) (hz : i.zero = some z)
    (hsize : i.size = 1) (hby : i.bytes = bytes) (hzs : z.cells.size = 1)
    (v : Value) (n : Nat) (xs : List Value) (hs : a.eval s = v) (hown : w.ownsRow base e 1 v n xs)
    (B : Nat) (A : Option Addr) (c m : Nat) (ys : List α) (hx : a.eval x = .slice A m c) (hm : ys.length = m) (hr : Rd f w B A ys) (h1 : ∀ y, (f y).oneCell' = true)
    (h63 : n + m ≤ maxLen) (hbytes : (n + m) * bytes ≤ 140737488355328) (hbase : base ≤ w.heap.size)
    (h : ∀ v' w', w'.ownsRow base e 1 v' (n + m) (xs ++ ys.map f) → w.grownBy w' v.ownBlock → wpList P ops Q rest (a.put o.dst v') w') : wpList P ops Q (o :: rest) a w := by
  refine wpList_plain hgd fun K hK => ?_
  obtain ⟨v', w', hr2, h2, h3⟩ := run_append_rd (P := P) w base t o.type e i z bytes ht hi hz hsize hby hzs v n xs hown B A c m ys hm hr h1 h63 hbytes hbase
  unfold Oper.wp execOp
  simp only [ho, resolve, invoke, builtin, Sem.run_bind, Sem.run_pure, Result.andThen_ok, List.map_toArray, List.map_cons, List.map_nil, hs, hx, hr2]
  exact hK _ _ (h v' w' h2 h3)
end

set_option maxHeartbeats 400000 in
theorem equal_any (A A' : Option Addr) (c c' n m : Nat) (xs ys : List Int) (w : World) (hn : xs.length = n) (hm : ys.length = m) (hl : n ≤ 4611686018427387904)
    (hx : Rd (Value.int .i64) w w.heap.size A xs) (hy : Rd (Value.int .i64) w w.heap.size A' ys) :
    Calls Try.prog 105 #[.slice A n c, .slice A' m c'] w (Rq w (.bool (decide (xs = ys)))) := by
  subst hn hm
  by_cases hne : xs.length = ys.length
  · go_enter Try.func105, Try.ntmps105
    have hb : ((xs.length : Int) != (ys.length : Int)) = false := by simp [hne]
    go_wp2
    go_loopw [13] (fun i wr => ∃ k : Nat, k ≤ xs.length ∧ i = .int .i64 k ∧ xs.take k = ys.take k ∧ Dr w wr) (fun i _ => xs.length - (intOf i).toNat)
    case atStart => exact ⟨0, Nat.zero_le _, rfl, rfl, Dr.refl _⟩
    case round =>
      obtain ⟨k, hk, rfl, ht, n, rfl⟩ := hrel
      rcases Nat.lt_or_ge k xs.length with hlt | hge
      · obtain ⟨b, off, rfl, hbb, hcx⟩ := hx (by omega)
        obtain ⟨b', off', rfl, hbb', hcy⟩ := hy (by omega)
        have hk2 : k < ys.length := by omega
        have hcxk := hcx k hlt
        have hcyk := hcy k hk2
        have hT := Lib.hid ht
        clear ht hcx hcy hne
        by_cases hd : xs[k] = ys[k]
        · have hdd : (xs[k] != ys[k]) = false := by simp [hd]
          have hD := Lib.hid hd
          clear hd
          go_wp2
          go_quiet (fail)
          go_wp2
          go_roundw
          case rel => exact ⟨k + 1, by omega, by go_num, by rw [List.take_succ_eq_append_getElem hlt, List.take_succ_eq_append_getElem hk2, hT.out, hD.out], (by first | with_reducible exact Dr.of _ _ | with_reducible exact Dr.of2 _ _ _ | with_reducible exact Dr.refl _ | with_reducible exact Dr.of3 _ _ _)⟩
          case measure => simp [intOf]; omega
        · have hdd : (xs[k] != ys[k]) = true := by simp [hd]
          have hD := Lib.hid hd
          clear hd
          go_wp2
          go_quiet (fail)
          go_wp2
          go_ret
          exact ⟨ret_bool (by symm; rw [decide_eq_false_iff_not]; intro h; exact hD.out (by simp [h])), (by first | with_reducible exact Dr.of _ _ | with_reducible exact Dr.of2 _ _ _ | with_reducible exact Dr.refl _ | with_reducible exact Dr.of3 _ _ _)⟩
      · have hT := Lib.hid ht
        clear ht
        go_wp2
        go_ret
        exact ⟨ret_bool (by symm; rw [decide_eq_true_eq]; have := hT.out; rwa [List.take_of_length_le hge, List.take_of_length_le (by omega)] at this), (by first | with_reducible exact Dr.of _ _ | with_reducible exact Dr.of2 _ _ _ | with_reducible exact Dr.refl _ | with_reducible exact Dr.of3 _ _ _)⟩
  · have hb : ((xs.length : Int) != (ys.length : Int)) = true := by simp; omega
    go_enter Try.func105, Try.ntmps105
    go_wp2
    go_ret
    exact ⟨ret_bool (by symm; rw [decide_eq_false_iff_not]; intro h; exact hne (by rw [h])), Dr.refl _⟩

set_option maxHeartbeats 400000 in
theorem l2Same_any (A A' : Option Addr) (c c' n m : Nat) (xs ys : List Int) (w : World) (hn : xs.length = n) (hm : ys.length = m) (hl : n ≤ 4611686018427387904)
    (hx : Rd (Value.int .i64) w w.heap.size A xs) (hy : Rd (Value.int .i64) w w.heap.size A' ys) :
    Calls Try.prog 110 #[.slice A n c, .slice A' m c'] w (Rq w (.bool (decide (xs = ys)))) := by
  subst hn hm
  by_cases hne : xs.length = ys.length
  · go_enter Try.func110, Try.ntmps110
    have hb : ((xs.length : Int) != (ys.length : Int)) = false := by simp [hne]
    go_wp2
    go_loopw [5] (fun i wr => ∃ k : Nat, k ≤ xs.length ∧ i = .int .i64 k ∧ xs.take k = ys.take k ∧ Dr w wr) (fun i _ => xs.length - (intOf i).toNat)
    case atStart => exact ⟨0, Nat.zero_le _, rfl, rfl, Dr.refl _⟩
    case round =>
      obtain ⟨k, hk, rfl, ht, n, rfl⟩ := hrel
      rcases Nat.lt_or_ge k xs.length with hlt | hge
      · obtain ⟨b, off, rfl, hbb, hcx⟩ := hx (by omega)
        obtain ⟨b', off', rfl, hbb', hcy⟩ := hy (by omega)
        have hk2 : k < ys.length := by omega
        have hcxk := hcx k hlt
        have hcyk := hcy k hk2
        have hT := Lib.hid ht
        clear ht hcx hcy hne
        by_cases hd : xs[k] = ys[k]
        · have hdd : (xs[k] != ys[k]) = false := by simp [hd]
          have hD := Lib.hid hd
          clear hd
          go_wp2
          go_quiet (fail)
          go_wp2
          go_roundw
          case rel => exact ⟨k + 1, by omega, by go_num, by rw [List.take_succ_eq_append_getElem hlt, List.take_succ_eq_append_getElem hk2, hT.out, hD.out], (by first | with_reducible exact Dr.of _ _ | with_reducible exact Dr.of2 _ _ _ | with_reducible exact Dr.refl _ | with_reducible exact Dr.of3 _ _ _)⟩
          case measure => simp [intOf]; omega
        · have hdd : (xs[k] != ys[k]) = true := by simp [hd]
          have hD := Lib.hid hd
          clear hd
          go_wp2
          go_quiet (fail)
          go_wp2
          go_ret
          exact ⟨ret_bool (by symm; rw [decide_eq_false_iff_not]; intro h; exact hD.out (by simp [h])), (by first | with_reducible exact Dr.of _ _ | with_reducible exact Dr.of2 _ _ _ | with_reducible exact Dr.refl _ | with_reducible exact Dr.of3 _ _ _)⟩
      · have hT := Lib.hid ht
        clear ht
        go_wp2
        go_ret
        exact ⟨ret_bool (by symm; rw [decide_eq_true_eq]; have := hT.out; rwa [List.take_of_length_le hge, List.take_of_length_le (by omega)] at this), (by first | with_reducible exact Dr.of _ _ | with_reducible exact Dr.of2 _ _ _ | with_reducible exact Dr.refl _ | with_reducible exact Dr.of3 _ _ _)⟩
  · have hb : ((xs.length : Int) != (ys.length : Int)) = true := by simp; omega
    go_enter Try.func110, Try.ntmps110
    go_wp2
    go_ret
    exact ⟨ret_bool (by symm; rw [decide_eq_false_iff_not]; intro h; exact hne (by rw [h])), Dr.refl _⟩

theorem equal_b (A A' : Option Addr) (c c' n m : Nat) (xs ys : List Int) (w : World) (b : Bool) (hn : xs.length = n) (hm : ys.length = m) (hl : n ≤ 4611686018427387904)
    (hx : Rd (Value.int .i64) w w.heap.size A xs) (hy : Rd (Value.int .i64) w w.heap.size A' ys) (hb : decide (xs = ys) = b) :
    Calls Try.prog 105 #[.slice A n c, .slice A' m c'] w (Rq w (.bool b)) := by
  subst hb
  exact equal_any A A' c c' n m xs ys w hn hm hl hx hy

theorem l2Same_b (A A' : Option Addr) (c c' n m : Nat) (xs ys : List Int) (w : World) (b : Bool) (hn : xs.length = n) (hm : ys.length = m) (hl : n ≤ 4611686018427387904)
    (hx : Rd (Value.int .i64) w w.heap.size A xs) (hy : Rd (Value.int .i64) w w.heap.size A' ys) (hb : decide (xs = ys) = b) :
    Calls Try.prog 110 #[.slice A n c, .slice A' m c'] w (Rq w (.bool b)) := by
  subst hb
  exact l2Same_any A A' c c' n m xs ys w hn hm hl hx hy

set_option maxHeartbeats 400000 in
theorem clone_any (A : Option Addr) (c : Nat) (xs : List Int) (w : World) (h : In w A c xs) :
    Calls Try.prog 78 #[.slice A xs.length c] w (Ret (Value.int .i64) 3 w xs) := by
  obtain ⟨i0, hi, hz0, hz1, hz2⟩ := info_parts infoI
  obtain ⟨hl, hcap, hx⟩ := h
  have hnil := fun (w : World) (a : Option Addr) (l c : Nat) => Lib.run_eql_slice_nil (P := Try.prog) w 24 3 a l c 0 0 Try.underlying24
  cases A with
  | none =>
    have hx0 : xs = [] := by
      rcases Nat.eq_zero_or_pos xs.length with h0 | h0
      · exact List.eq_nil_of_length_eq_zero h0
      · obtain ⟨b, off, he, _⟩ := hx h0
        cases he
    subst hx0
    go_enter Try.func78, Try.ntmps78
    go_wp2
    go_ret
    exact ⟨none, 0, rfl, Nat.le_refl _, Nat.zero_le _, World.ownsRow_nil _ _ _ _, Below.refl _ _⟩
  | some ad =>
    have hown0 : (w.alloc (.cells #[] 3)).ownsRow w.heap.size 3 1 (.slice (some ⟨w.heap.size, 0, none⟩) 0 0) 0 [] := World.ownsRow_lit w #[] 0 (Nat.le_refl _) (by unfold maxLen; omega) rfl
    have hb0 := (Below.refl w.heap.size w).alloc (Nat.le_refl _) (.cells #[] 3)
    have hx0 := hx.alloc (Nat.le_refl _) (.cells #[] 3)
    go_enter Try.func78, Try.ntmps78
    go_wp2_with (at_builtin; refine wpList_append_rd _ rfl _ _ 24 rfl (w.heap.size) 3 i0 (.int .i64 0) 8 Try.underlying24 hi hz0 hz1 hz2 rfl _ _ _ rfl hown0 _ _ _ _ (xs) rfl rfl hx0 (fun _ => rfl) (by unfold maxLen; omega) (by omega) (by first | omega | (simp; done) | (simp; omega)) ?_; intro v1 w1 hown1 hgrow1)
    have hb1 := hb0.grown hgrow1 (by simp) (by intro g hg; exact (hown0.lt g hg).1)
    simp only [Nat.zero_add, List.nil_append] at hown1
    obtain ⟨A1, c1, rfl, q1, q2⟩ := own_shape hown1
    go_wp2
    go_ret
    exact ⟨A1, c1, rfl, q1, q2, hown1, hb1⟩

def idxL (xs : List Int) (x : Int) : Int := if x ∈ xs then (xs.idxOf x : Int) else -1
set_option maxHeartbeats 400000 in
theorem index_any (A : Option Addr) (c n : Nat) (xs : List Int) (x : Int) (w : World) (hn : xs.length = n) (hl : n ≤ 4611686018427387904) (hx : Rd (Value.int .i64) w w.heap.size A xs) :
    Calls Try.prog 149 #[.slice A n c, .int .i64 x] w fun e w' => e = .returned (.int .i64 (idxL xs x)) ∧ w = w' := by
  subst hn
  go_enter Try.func149, Try.ntmps149
  go_wp2
  go_loop [8] (fun i => ∃ k : Nat, k ≤ xs.length ∧ i = .int .i64 k ∧ x ∉ xs.take k) (fun i => xs.length - (intOf i).toNat)
  case atStart => exact ⟨0, Nat.zero_le _, rfl, by simp⟩
  case round =>
    obtain ⟨k, hk, rfl, hno⟩ := hrel
    have HN := Lib.hid hno
    clear hno
    rcases Nat.lt_or_ge k xs.length with hlt | hge
    · obtain ⟨b, off, rfl, _, hc⟩ := hx (by omega)
      have c1 := hc k hlt
      clear hc
      by_cases he : x = xs[k]
      · have hd : (x == xs[k]) = true := by simp [he]
        have HI := Lib.hid (show idxL xs x = k by
          have hm : x ∈ xs := by rw [he]; exact List.getElem_mem hlt
          have h1 : xs = xs.take k ++ (x :: xs.drop (k + 1)) := by rw [he, ← List.drop_eq_getElem_cons hlt, List.take_append_drop]
          rw [idxL, if_pos hm]
          conv => lhs; rw [h1]
          rw [List.idxOf_append, if_neg HN.out, List.idxOf_cons_self]
          simp; omega)
        clear he
        go_wp2
        go_ret
        exact ⟨ret_int HI.out.symm, rfl⟩
      · have hd : (x == xs[k]) = false := by simp [he]
        have HE := Lib.hid he
        clear he
        go_wp2
        go_round
        case rel => exact ⟨k + 1, by omega, by go_num, by rw [List.take_succ_eq_append_getElem hlt]; intro hm; rcases List.mem_append.1 hm with h | h; exact HN.out h; exact HE.out (List.mem_singleton.1 h)⟩
        case measure => simp [intOf]; omega
    · have HI := Lib.hid (show idxL xs x = -1 by rw [idxL, if_neg]; have := HN.out; rwa [List.take_of_length_le hge] at this)
      go_wp2
      go_ret
      exact ⟨ret_int HI.out.symm, rfl⟩

theorem contains_any (A : Option Addr) (c n : Nat) (xs : List Int) (x : Int) (w : World) (hn : xs.length = n) (hl : n ≤ 4611686018427387904) (hx : Rd (Value.int .i64) w w.heap.size A xs) :
    Calls Try.prog 132 #[.slice A n c, .int .i64 x] w fun e w' => e = .returned (.bool (decide (x ∈ xs))) ∧ w = w' := by
  have HI := Lib.hid (show (idxL xs x ≥ 0) ↔ x ∈ xs by unfold idxL; split <;> simp_all)
  go_enter Try.func132, Try.ntmps132
  go_wp2_with fail
  refine (index_any _ _ _ _ _ _ hn hl hx).mono ?_
  rintro e w' ⟨rfl, rfl⟩
  go_wp2_with fail
  go_ret
  exact ⟨ret_bool (by rw [decide_eq_decide]; exact HI.out), rfl⟩


/-- The pattern of a list: each element's place among all. -/
def belowN (xs : List Int) (x : Int) : Nat := (xs.filter fun y => decide (y < x)).length
def patL (xs : List Int) : List Int := xs.map fun x => (belowN xs x : Int) + 1
theorem patL_length (xs : List Int) : (patL xs).length = xs.length := by simp [patL]
theorem belowN_le (xs : List Int) (x : Int) : belowN xs x ≤ xs.length := List.length_filter_le _ _
theorem belowN_snoc (xs : List Int) (x : Int) (k : Nat) (h : k < xs.length) : belowN (xs.take (k + 1)) x = belowN (xs.take k) x + (if xs[k] < x then 1 else 0) := by
  unfold belowN
  rw [List.take_succ_eq_append_getElem h, List.filter_append, List.length_append]
  congr 1
  by_cases hp : xs[k] < x <;> simp [hp]

theorem l1Bit_q (b : Bool) (w : World) : Calls Try.prog 91 #[.bool b] w fun e w' => e = .returned (.int .i64 (if b = true then 1 else 0)) ∧ w = w' := by
  cases b
  · go_enter Try.func91, Try.ntmps91
    go_wp2
    go_ret
    exact ⟨rfl, rfl⟩
  · go_enter Try.func91, Try.ntmps91
    go_wp2
    go_ret
    exact ⟨rfl, rfl⟩

set_option maxHeartbeats 1000000 in
theorem pattern_impl (A : Option Addr) (c n : Nat) (xs : List Int) (w : World) (hn : xs.length = n) (hl : n ≤ 1048576) (hx : Rd (Value.int .i64) w w.heap.size A xs) :
    Calls Try.prog 106 #[.slice A n c] w (Ret (Value.int .i64) 3 w (patL xs)) := by
  subst hn
  obtain ⟨i0, hi, hz0, hz1, hz2⟩ := info_parts infoI
  go_enter Try.func106, Try.ntmps106
  go_wp2
  have hown0 : (w.alloc (.cells #[] 3)).ownsRow w.heap.size 3 1 (.slice (some ⟨w.heap.size, 0, none⟩) 0 0) 0 (((xs.take 0).map fun x => (belowN xs x : Int) + 1).map (Value.int .i64)) := World.ownsRow_lit w #[] 0 (Nat.le_refl _) (by unfold maxLen; omega) rfl
  have hb0 := (Below.refl w.heap.size w).alloc (Nat.le_refl _) (.cells #[] 3)
  go_loopw [3, 12] (fun v i wr => ∃ (k : Nat) (A' : Option Addr) (c' : Nat), k ≤ xs.length ∧ i = .int .i64 k ∧ v = .slice A' k c' ∧ wr.ownsRow w.heap.size 3 1 (.slice A' k c') k (((xs.take k).map fun x => (belowN xs x : Int) + 1).map (Value.int .i64)) ∧ Below w.heap.size w wr) (fun _ i _ => xs.length - (intOf i).toNat)
  case atStart => exact ⟨0, _, _, Nat.zero_le _, rfl, rfl, hown0, hb0⟩
  case round =>
    clear hown0 hb0
    obtain ⟨k, A', c', hk, rfl, rfl, hown, hb⟩ := hrel
    obtain ⟨wo, rfl⟩ : ∃ wo : World, wo = wr := ⟨_, rfl⟩
    rcases Nat.lt_or_ge k xs.length with hlt | hge
    · obtain ⟨b, off, rfl, hbb, hc⟩ := hx.below hb (by omega)
      have HC := Lib.hid hc
      have ck := hc k hlt
      have HS := Lib.hid (show (xs.take (k + 1)).map (fun x => (belowN xs x : Int) + 1) = (xs.take k).map (fun x => (belowN xs x : Int) + 1) ++ [(belowN xs xs[k] : Int) + 1] by rw [List.take_succ_eq_append_getElem hlt, List.map_append]; rfl)
      clear hc
      go_wp2
      go_loopw [6, 18] (fun s i wr => ∃ (j F : Nat), j ≤ xs.length ∧ belowN (xs.take j) xs[k] = F ∧ F ≤ j ∧ i = .int .i64 j ∧ s = .int .i64 ((F : Int) + 1) ∧ Dr wo wr) (fun _ i _ => xs.length - (intOf i).toNat)
      case atStart => exact ⟨0, 0, Nat.zero_le _, rfl, Nat.le_refl _, rfl, rfl, Dr.refl _⟩
      case round =>
        obtain ⟨j, F, hj, hF, hFj, rfl, rfl, hd⟩ := hrel
        have HF := Lib.hid hF
        clear hF
        rcases Nat.lt_or_ge j xs.length with hlt2 | hge2
        · have c1 : wr.cell? ⟨b, off + k, none⟩ = some (.int .i64 xs[k]) := (hd.cell _).trans ck
          have c2 : wr.cell? ⟨b, off + j, none⟩ = some (.int .i64 xs[j]) := (hd.cell _).trans (HC.out j hlt2)
          have HB := Lib.hid (belowN_snoc xs xs[k] j hlt2)
          have e1 : IntKind.i64.wrap ((F : Int) + 1 + 1) = (F : Int) + 1 + 1 := IntWalk.i64_in _ (by omega)
          have e2 : IntKind.i64.wrap ((F : Int) + 1) = (F : Int) + 1 := IntWalk.i64_in _ (by omega)
          by_cases hy : xs[j] < xs[k]
          · have HS2 := Lib.hid (show belowN (xs.take (j + 1)) xs[k] = F + 1 by rw [HB.out, if_pos hy, HF.out])
            go_wp2
            go_roundw
            case rel => exact ⟨j + 1, F + 1, by omega, HS2.out, by omega, by go_num, by go_num, (by first | with_reducible assumption | with_reducible exact hd | with_reducible exact Dr.drewN hd _ | with_reducible exact Dr.drewN (Dr.drewN hd _) _ | with_reducible exact Dr.drew hd)⟩
            case measure => simp [intOf]; omega
          · have HS2 := Lib.hid (show belowN (xs.take (j + 1)) xs[k] = F by rw [HB.out, if_neg hy, HF.out]; rfl)
            go_wp2
            go_roundw
            case rel => exact ⟨j + 1, F, by omega, HS2.out, by omega, by go_num, by go_num, (by first | with_reducible assumption | with_reducible exact hd | with_reducible exact Dr.drewN hd _ | with_reducible exact Dr.drewN (Dr.drewN hd _) _ | with_reducible exact Dr.drew hd)⟩
            case measure => simp [intOf]; omega
        · obtain rfl : j = xs.length := by omega
          have HV := Lib.hid (show belowN xs xs[k] = F by have := HF.out; rwa [List.take_length] at this)
          have hown := hd.own hown
          have hb := below_dr hb hd
          have hsz : w.heap.size ≤ wr.heap.size := hb.size
          go_wp2_with (at_builtin; refine wpList_append_own _ rfl _ _ 24 rfl (w.heap.size) 3 i0 (.int .i64 0) 1 8 Try.underlying24 hi hz0 hz1 hz2 rfl (by decide) _ _ _ rfl (World.ownsRow.alloc hown _) ⟨wr.heap.size, 0, none⟩ 1 1 [.int .i64 ((F : Int) + 1)] rfl rfl (cell_one_new _ _ _) (by intro u hu; simp at hu; subst hu; rfl) (by unfold maxLen; omega) (by omega) (by simp; omega) ?_; intro v1 w1 hown1 hgrow1 _)
          have hb1 := (hb.alloc hsz (Obj.cells #[Value.int .i64 ((F : Int) + 1)] 3)).grown hgrow1 (by simp; omega) (by intro g hg; exact ((hown.lt g hg).1))
          have hS2 : w1.ownsRow w.heap.size 3 1 v1 (k + 1) (((xs.take (k + 1)).map fun x => (belowN xs x : Int) + 1).map (Value.int .i64)) := by rw [HS.out, HV.out]; simpa using hown1
          obtain ⟨A1, cc, rfl, _, _⟩ := own_shape hS2
          have hH1 := Lib.hid hS2
          have hH2 := Lib.hid hb1
          clear hS2 hown1 hgrow1 hb1 hown hb
          go_wp2
          go_roundw
          case rel => exact ⟨k + 1, A1, cc, by omega, by go_num, rfl, hH1.out, hH2.out⟩
          case measure => simp [intOf]; omega
    · obtain rfl : k = xs.length := by omega
      rw [List.take_length] at hown
      go_wp2
      go_ret
      exact ⟨A', c', by rw [patL_length]; rfl, by rw [patL_length]; exact (own_caps hown).1, (own_caps hown).2, by rw [patL_length]; exact hown, hb⟩

set_option maxHeartbeats 1000000 in
theorem pattern_spec (A : Option Addr) (c n : Nat) (xs : List Int) (w : World) (hn : xs.length = n) (hl : n ≤ 1048576) (hx : Rd (Value.int .i64) w w.heap.size A xs) :
    Calls Try.prog 111 #[.slice A n c] w (Ret (Value.int .i64) 3 w (patL xs)) := by
  subst hn
  obtain ⟨i0, hi, hz0, hz1, hz2⟩ := info_parts infoI
  go_enter Try.func111, Try.ntmps111
  go_wp2
  have hown0 : (w.alloc (.cells #[] 3)).ownsRow w.heap.size 3 1 (.slice (some ⟨w.heap.size, 0, none⟩) 0 0) 0 (((xs.take 0).map fun x => (belowN xs x : Int) + 1).map (Value.int .i64)) := World.ownsRow_lit w #[] 0 (Nat.le_refl _) (by unfold maxLen; omega) rfl
  have hb0 := (Below.refl w.heap.size w).alloc (Nat.le_refl _) (.cells #[] 3)
  go_loopw [3, 4] (fun v i wr => ∃ (k : Nat) (A' : Option Addr) (c' : Nat), k ≤ xs.length ∧ i = .int .i64 k ∧ v = .slice A' k c' ∧ wr.ownsRow w.heap.size 3 1 (.slice A' k c') k (((xs.take k).map fun x => (belowN xs x : Int) + 1).map (Value.int .i64)) ∧ Below w.heap.size w wr) (fun _ i _ => xs.length - (intOf i).toNat)
  case atStart => exact ⟨0, _, _, Nat.zero_le _, rfl, rfl, hown0, hb0⟩
  case round =>
    clear hown0 hb0
    obtain ⟨k, A', c', hk, rfl, rfl, hown, hb⟩ := hrel
    obtain ⟨wo, rfl⟩ : ∃ wo : World, wo = wr := ⟨_, rfl⟩
    rcases Nat.lt_or_ge k xs.length with hlt | hge
    · obtain ⟨b, off, rfl, hbb, hc⟩ := hx.below hb (by omega)
      have HC := Lib.hid hc
      have ck := hc k hlt
      have HS := Lib.hid (show (xs.take (k + 1)).map (fun x => (belowN xs x : Int) + 1) = (xs.take k).map (fun x => (belowN xs x : Int) + 1) ++ [(belowN xs xs[k] : Int) + 1] by rw [List.take_succ_eq_append_getElem hlt, List.map_append]; rfl)
      clear hc
      go_wp2
      go_loopw [5, 6] (fun s i wr => ∃ (j F : Nat), j ≤ xs.length ∧ belowN (xs.take j) xs[k] = F ∧ F ≤ j ∧ i = .int .i64 j ∧ s = .int .i64 ((F : Int) + 1) ∧ Dr wo wr) (fun _ i _ => xs.length - (intOf i).toNat)
      case atStart => exact ⟨0, 0, Nat.zero_le _, rfl, Nat.le_refl _, rfl, rfl, Dr.refl _⟩
      case round =>
        obtain ⟨j, F, hj, hF, hFj, rfl, rfl, hd⟩ := hrel
        have HF := Lib.hid hF
        clear hF
        rcases Nat.lt_or_ge j xs.length with hlt2 | hge2
        · have c1 : wr.cell? ⟨b, off + k, none⟩ = some (.int .i64 xs[k]) := (hd.cell _).trans ck
          have c2 : wr.cell? ⟨b, off + j, none⟩ = some (.int .i64 xs[j]) := (hd.cell _).trans (HC.out j hlt2)
          have HB := Lib.hid (belowN_snoc xs xs[k] j hlt2)
          have e1 : IntKind.i64.wrap ((F : Int) + 1 + 1) = (F : Int) + 1 + 1 := IntWalk.i64_in _ (by omega)
          have e2 : IntKind.i64.wrap ((F : Int) + 1) = (F : Int) + 1 := IntWalk.i64_in _ (by omega)
          by_cases hy : xs[j] < xs[k]
          · have HS2 := Lib.hid (show belowN (xs.take (j + 1)) xs[k] = F + 1 by rw [HB.out, if_pos hy, HF.out])
            go_wp2
            go_quiet ((go_at_call 91; exact quiet_eq (l1Bit_q _ _)))
            go_wp2
            go_roundw
            case rel => exact ⟨j + 1, F + 1, by omega, HS2.out, by omega, by go_num, by go_num, (by first | with_reducible assumption | with_reducible exact hd | with_reducible exact Dr.drewN hd _ | with_reducible exact Dr.drewN (Dr.drewN hd _) _ | with_reducible exact Dr.drew hd)⟩
            case measure => simp [intOf]; omega
          · have HS2 := Lib.hid (show belowN (xs.take (j + 1)) xs[k] = F by rw [HB.out, if_neg hy, HF.out]; rfl)
            go_wp2
            go_quiet ((go_at_call 91; exact quiet_eq (l1Bit_q _ _)))
            go_wp2
            go_roundw
            case rel => exact ⟨j + 1, F, by omega, HS2.out, by omega, by go_num, by go_num, (by first | with_reducible assumption | with_reducible exact hd | with_reducible exact Dr.drewN hd _ | with_reducible exact Dr.drewN (Dr.drewN hd _) _ | with_reducible exact Dr.drew hd)⟩
            case measure => simp [intOf]; omega
        · obtain rfl : j = xs.length := by omega
          have HV := Lib.hid (show belowN xs xs[k] = F by have := HF.out; rwa [List.take_length] at this)
          have hown := hd.own hown
          have hb := below_dr hb hd
          have hsz : w.heap.size ≤ wr.heap.size := hb.size
          go_wp2_with (at_builtin; refine wpList_append_own _ rfl _ _ 24 rfl (w.heap.size) 3 i0 (.int .i64 0) 1 8 Try.underlying24 hi hz0 hz1 hz2 rfl (by decide) _ _ _ rfl (World.ownsRow.alloc hown _) ⟨wr.heap.size, 0, none⟩ 1 1 [.int .i64 ((F : Int) + 1)] rfl rfl (cell_one_new _ _ _) (by intro u hu; simp at hu; subst hu; rfl) (by unfold maxLen; omega) (by omega) (by simp; omega) ?_; intro v1 w1 hown1 hgrow1 _)
          have hb1 := (hb.alloc hsz (Obj.cells #[Value.int .i64 ((F : Int) + 1)] 3)).grown hgrow1 (by simp; omega) (by intro g hg; exact ((hown.lt g hg).1))
          have hS2 : w1.ownsRow w.heap.size 3 1 v1 (k + 1) (((xs.take (k + 1)).map fun x => (belowN xs x : Int) + 1).map (Value.int .i64)) := by rw [HS.out, HV.out]; simpa using hown1
          obtain ⟨A1, cc, rfl, _, _⟩ := own_shape hS2
          have hH1 := Lib.hid hS2
          have hH2 := Lib.hid hb1
          clear hS2 hown1 hgrow1 hb1 hown hb
          go_wp2
          go_roundw
          case rel => exact ⟨k + 1, A1, cc, by omega, by go_num, rfl, hH1.out, hH2.out⟩
          case measure => simp [intOf]; omega
    · obtain rfl : k = xs.length := by omega
      rw [List.take_length] at hown
      go_wp2
      go_ret
      exact ⟨A', c', by rw [patL_length]; rfl, by rw [patL_length]; exact (own_caps hown).1, (own_caps hown).2, by rw [patL_length]; exact hown, hb⟩

end Go.Proofs.Ythipikllgpnlhaa

/- Plain maths: all lists of the numbers 1 to n, breadth first and depth first. -/
namespace Go.Proofs.Ythipikllgpnlhaa
set_option maxRecDepth 100000

def nums (n : Nat) : List Int := (List.range n).map fun i : Nat => (i : Int) + 1
theorem nums_succ (n : Nat) : nums (n + 1) = nums n ++ [(n : Int) + 1] := by simp [nums, List.range_succ]
theorem nums_length (n : Nat) : (nums n).length = n := by simp [nums]
/-- The numbers that may come next. -/
def nexts (n : Nat) (p : List Int) : List Int := (nums n).filter fun v => !decide (v ∈ p)
def ext1 (n : Nat) (p : List Int) : List (List Int) := (nexts n p).map fun v => p ++ [v]
/-- One number more, in every way. -/
def ext (n : Nat) (ls : List (List Int)) : List (List Int) := ls.flatMap (ext1 n)
def permsI (n : Nat) : Nat → List (List Int)
  | 0 => [[]]
  | i + 1 => ext n (permsI n i)
def permsL (n : Nat) : List (List Int) := permsI n n
/-- Depth first: every way to k numbers more. -/
def fillF (n : Nat) : Nat → List Int → List (List Int)
  | 0, p => [p]
  | k + 1, p => (nexts n p).flatMap fun v => fillF n k (p ++ [v])

theorem nums_mem {n : Nat} {v : Int} : v ∈ nums n ↔ 1 ≤ v ∧ v ≤ n := by
  unfold nums
  rw [List.mem_map]
  constructor
  · rintro ⟨i, hi, rfl⟩
    have := List.mem_range.1 hi
    omega
  · rintro ⟨h1, h2⟩
    exact ⟨(v - 1).toNat, List.mem_range.2 (by omega), by omega⟩
theorem nexts_le (n : Nat) (p : List Int) : (nexts n p).length ≤ n := by
  have := List.length_filter_le (fun v => !decide (v ∈ p)) (nums n)
  rw [nums_length] at this
  exact this
theorem nexts_mem {n : Nat} {p : List Int} {v : Int} : v ∈ nexts n p ↔ (1 ≤ v ∧ v ≤ n) ∧ v ∉ p := by
  unfold nexts
  rw [List.mem_filter, nums_mem]
  simp
theorem flatMap_le {α β : Type} (f : α → List β) (m : Nat) (l : List α) (h : ∀ a ∈ l, (f a).length ≤ m) : (l.flatMap f).length ≤ l.length * m := by
  induction l with
  | nil => simp
  | cons a t ih =>
    have h1 := h a (by simp)
    have h2 := ih (fun b hb => h b (by simp [hb]))
    rw [List.flatMap_cons, List.length_append, List.length_cons, Nat.add_mul, Nat.one_mul]
    omega
theorem ext_le (n : Nat) (ls : List (List Int)) : (ext n ls).length ≤ ls.length * n :=
  flatMap_le _ n ls fun p _ => by unfold ext1; rw [List.length_map]; exact nexts_le n p
theorem permsI_le (n i : Nat) : (permsI n i).length ≤ n ^ i := by
  induction i with
  | zero => simp [permsI]
  | succ i ih =>
    have h := ext_le n (permsI n i)
    have h2 := Nat.mul_le_mul_right n ih
    rw [Nat.pow_succ]
    exact Nat.le_trans h h2
theorem fillF_le (n k : Nat) : ∀ p, (fillF n k p).length ≤ n ^ k := by
  induction k with
  | zero => intro p; simp [fillF]
  | succ k ih =>
    intro p
    have h := flatMap_le (fun v => fillF n k (p ++ [v])) (n ^ k) (nexts n p) (fun v _ => ih _)
    have h2 := Nat.mul_le_mul_right (n ^ k) (nexts_le n p)
    rw [Nat.pow_succ, Nat.mul_comm]
    exact Nat.le_trans h h2
theorem fill_iter (n : Nat) : ∀ (k i : Nat), permsI n (i + k) = (permsI n i).flatMap (fillF n k) := by
  intro k
  induction k with
  | zero => intro i; simp [fillF]
  | succ k ih =>
    intro i
    have h := ih (i + 1)
    rw [show i + (k + 1) = i + 1 + k by omega, h]
    show (ext n (permsI n i)).flatMap (fillF n k) = _
    unfold ext
    rw [List.flatMap_assoc]
    congr 1
    funext p
    unfold ext1
    rw [List.flatMap_map]
    rfl
theorem fill_perms (n : Nat) : fillF n n [] = permsL n := by
  have h := fill_iter n n 0
  rw [Nat.zero_add] at h
  show fillF n n [] = permsI n n
  rw [h]
  simp [permsI]
theorem permsI_mem {n i : Nat} {p : List Int} (h : p ∈ permsI n i) : p.length = i ∧ (∀ v ∈ p, 1 ≤ v ∧ v ≤ n) ∧ p.Nodup := by
  induction i generalizing p with
  | zero =>
    have : p = [] := by simpa [permsI] using h
    subst this
    simp
  | succ i ih =>
    obtain ⟨q, hq, hp⟩ := List.mem_flatMap.1 h
    obtain ⟨v, hv, rfl⟩ := List.mem_map.1 hp
    obtain ⟨h1, h2, h3⟩ := ih hq
    obtain ⟨h4, h5⟩ := nexts_mem.1 hv
    refine ⟨by simp [h1], fun u hu => ?_, (nodup_snoc q v).2 ⟨h3, h5⟩⟩
    rcases List.mem_append.1 hu with hu | hu
    · exact h2 u hu
    · obtain rfl := List.mem_singleton.1 hu
      exact h4
theorem permsL_perm {n : Nat} (h8 : n ≤ 8) {p : List Int} (h : p ∈ permsL n) : permB p = true ∧ p.length = n := by
  obtain ⟨h1, h2, h3⟩ := permsI_mem h
  refine ⟨?_, h1⟩
  simp only [permB, decide_eq_true_eq]
  exact ⟨by omega, fun v hv => by rw [h1]; exact h2 v hv, h3⟩
theorem permsI_all {n : Nat} : ∀ (p : List Int), p.Nodup → (∀ v ∈ p, 1 ≤ v ∧ v ≤ n) → p ∈ permsI n p.length := by
  intro p
  induction hl : p.length generalizing p with
  | zero => intro _ _; rw [List.eq_nil_of_length_eq_zero hl]; simp [permsI]
  | succ i ih =>
    intro hn hr
    have hne : p ≠ [] := by intro e; subst e; simp at hl
    obtain ⟨q, v, rfl⟩ : ∃ q v, p = q ++ [v] := ⟨p.dropLast, p.getLast hne, (List.dropLast_concat_getLast hne).symm⟩
    obtain ⟨h1, h2⟩ := (nodup_snoc q v).1 hn
    refine List.mem_flatMap.2 ⟨q, ih q (by simpa using hl) h1 (fun u hu => hr u (by simp [hu])), List.mem_map.2 ⟨v, nexts_mem.2 ⟨hr v (by simp), h2⟩, rfl⟩⟩
theorem permB_mem {p : List Int} (h : permB p = true) : p ∈ permsL p.length := permsI_all p (permB_true h).2.2 (permB_true h).2.1

end Go.Proofs.Ythipikllgpnlhaa

/- Contracts of the reference's statistics. -/
namespace Go.Proofs.Ythipikllgpnlhaa
set_option maxRecDepth 100000
open Go Go.RowKit

theorem l1Bit_any (b : Bool) (w : World) : Calls Try.prog 91 #[.bool b] w fun e w' => e = .returned (.int .i64 (if b = true then 1 else 0)) ∧ w = w' := by
  cases b
  · go_enter Try.func91, Try.ntmps91
    go_wp2
    go_ret
    exact ⟨rfl, rfl⟩
  · go_enter Try.func91, Try.ntmps91
    go_wp2
    go_ret
    exact ⟨rfl, rfl⟩

set_option maxHeartbeats 800000 in
theorem fixed_spec (A : Option Addr) (c : Nat) (xs : List Int) (w : World) (h : In w A c xs) :
    Calls Try.prog 40 #[.slice A xs.length c] w (Rb w (.int .i64 (countG xs (fixH xs)))) := by
  by_cases hp : permB xs = true
  · have HG := Lib.hid (show countG xs (fixH xs) = ((placesL (fixH xs) xs.length).length : Int) by rw [countG, if_pos hp])
    have h8 := (permB_true hp).1
    go_enter Try.func40, Try.ntmps40
    go_wp2_with fail
    refine (isPerm_spec _ _ _ _ h).mono ?_
    rintro e w1 ⟨rfl, hd⟩
    rw [hp]
    clear hp
    have hx := (h.dr hd).rd
    go_wp2_with fail
    go_loop [3, 4] (fun n i => ∃ k : Nat, k ≤ xs.length ∧ i = .int .i64 k ∧ n = .int .i64 ((placesL (fixH xs) k).length : Int)) (fun _ i => xs.length - (intOf i).toNat)
    case atStart => exact ⟨0, Nat.zero_le _, rfl, rfl⟩
    case round =>
      obtain ⟨k, hk, rfl, rfl⟩ := hrel
      have hpl := placesL_length (fixH xs) k
      rcases Nat.lt_or_ge k xs.length with hlt | hge
      · obtain ⟨b, off, rfl, _, hc⟩ := hx (by omega)
        have ck := hc k hlt
        clear hc
        by_cases hH : xs[k] = (k : Int) + 1
        · have ht : (xs[k] == (k : Int) + 1) = true := by simp [hH]; try omega
          have HS := Lib.hid (show placesL (fixH xs) (k + 1) = placesL (fixH xs) k ++ [(k : Int) + 1] by rw [placesL_succ, if_pos (by simpa [fixH, hlt] using hH)])
          clear hH
          go_wp2_with (go_at_call 91; refine (l1Bit_any _ _).mono ?_; rintro e w' ⟨rfl, rfl⟩)
          go_round
          case rel => exact ⟨k + 1, by omega, by go_num, by rw [HS.out, List.length_append, List.length_singleton]; go_num⟩
          case measure => simp [intOf]; omega
        · have ht : (xs[k] == (k : Int) + 1) = false := by simp [hH]; try omega
          have HS := Lib.hid (show placesL (fixH xs) (k + 1) = placesL (fixH xs) k by rw [placesL_succ, if_neg (by simpa [fixH, hlt] using hH)])
          clear hH
          go_wp2_with (go_at_call 91; refine (l1Bit_any _ _).mono ?_; rintro e w' ⟨rfl, rfl⟩)
          go_round
          case rel => exact ⟨k + 1, by omega, by go_num, by rw [HS.out] <;> go_num⟩
          case measure => simp [intOf]; omega
      · obtain rfl : k = xs.length := by omega
        go_wp2
        go_ret
        exact ⟨ret_int HG.out.symm, below_dr (Below.refl _ _) hd⟩
  · have hpf : permB xs = false := by simpa using hp
    have HG := Lib.hid (show countG xs (fixH xs) = -1 by rw [countG, if_neg hp])
    go_enter Try.func40, Try.ntmps40
    go_wp2_with fail
    refine (isPerm_spec _ _ _ _ h).mono ?_
    rintro e w1 ⟨rfl, hd⟩
    rw [hpf]
    clear hp hpf
    go_wp2_with fail
    go_ret
    exact ⟨ret_int HG.out.symm, below_dr (Below.refl _ _) hd⟩

set_option maxHeartbeats 800000 in
theorem rises_spec (A : Option Addr) (c : Nat) (xs : List Int) (w : World) (h : In w A c xs) :
    Calls Try.prog 42 #[.slice A xs.length c] w (Rb w (.int .i64 (countG xs (riseH xs)))) := by
  by_cases hp : permB xs = true
  · have HG := Lib.hid (show countG xs (riseH xs) = ((placesL (riseH xs) xs.length).length : Int) by rw [countG, if_pos hp])
    have h8 := (permB_true hp).1
    go_enter Try.func42, Try.ntmps42
    go_wp2_with fail
    refine (isPerm_spec _ _ _ _ h).mono ?_
    rintro e w1 ⟨rfl, hd⟩
    rw [hp]
    clear hp
    have hx := (h.dr hd).rd
    go_wp2_with fail
    go_loop [3, 4] (fun n i => ∃ k : Nat, k ≤ xs.length ∧ i = .int .i64 k ∧ n = .int .i64 ((placesL (riseH xs) k).length : Int)) (fun _ i => xs.length - (intOf i).toNat)
    case atStart => exact ⟨0, Nat.zero_le _, rfl, rfl⟩
    case round =>
      obtain ⟨k, hk, rfl, rfl⟩ := hrel
      have hpl := placesL_length (riseH xs) k
      rcases Nat.lt_or_ge k xs.length with hlt | hge
      · obtain ⟨b, off, rfl, _, hc⟩ := hx (by omega)
        have ck := hc k hlt
        clear hc
        by_cases hH : xs[k] > (k : Int) + 1
        · have ht : decide ((k : Int) + 1 < xs[k]) = true := by simp [hH]; try omega
          have HS := Lib.hid (show placesL (riseH xs) (k + 1) = placesL (riseH xs) k ++ [(k : Int) + 1] by rw [placesL_succ, if_pos (by simpa [riseH, hlt] using hH)])
          clear hH
          go_wp2_with (go_at_call 91; refine (l1Bit_any _ _).mono ?_; rintro e w' ⟨rfl, rfl⟩)
          go_round
          case rel => exact ⟨k + 1, by omega, by go_num, by rw [HS.out, List.length_append, List.length_singleton]; go_num⟩
          case measure => simp [intOf]; omega
        · have ht : decide ((k : Int) + 1 < xs[k]) = false := by simp [hH]; try omega
          have HS := Lib.hid (show placesL (riseH xs) (k + 1) = placesL (riseH xs) k by rw [placesL_succ, if_neg (by simpa [riseH, hlt] using hH)])
          clear hH
          go_wp2_with (go_at_call 91; refine (l1Bit_any _ _).mono ?_; rintro e w' ⟨rfl, rfl⟩)
          go_round
          case rel => exact ⟨k + 1, by omega, by go_num, by rw [HS.out] <;> go_num⟩
          case measure => simp [intOf]; omega
      · obtain rfl : k = xs.length := by omega
        go_wp2
        go_ret
        exact ⟨ret_int HG.out.symm, below_dr (Below.refl _ _) hd⟩
  · have hpf : permB xs = false := by simpa using hp
    have HG := Lib.hid (show countG xs (riseH xs) = -1 by rw [countG, if_neg hp])
    go_enter Try.func42, Try.ntmps42
    go_wp2_with fail
    refine (isPerm_spec _ _ _ _ h).mono ?_
    rintro e w1 ⟨rfl, hd⟩
    rw [hpf]
    clear hp hpf
    go_wp2_with fail
    go_ret
    exact ⟨ret_int HG.out.symm, below_dr (Below.refl _ _) hd⟩

set_option maxHeartbeats 1000000 in
theorem descents_spec (A : Option Addr) (c : Nat) (xs : List Int) (w : World) (h : In w A c xs) :
    Calls Try.prog 34 #[.slice A xs.length c] w (Ret (Value.int .i64) 3 w (listG xs (descH xs))) := by
  obtain ⟨i0, hi, hz0, hz1, hz2⟩ := info_parts infoI
  by_cases hp : permB xs = true
  · have HG := Lib.hid (show listG xs (descH xs) = placesL (descH xs) xs.length by rw [listG, if_pos hp])
    have HP := Lib.hid hp
    have h8 := (permB_true hp).1
    clear hp
    go_enter Try.func34, Try.ntmps34
    go_wp2_with fail
    have hown0 : (w.alloc (.cells #[] 3)).ownsRow w.heap.size 3 1 (.slice (some ⟨w.heap.size, 0, none⟩) 0 0) (placesL (descH xs) 0).length ((placesL (descH xs) 0).map (Value.int .i64)) := World.ownsRow_lit w #[] 0 (Nat.le_refl _) (by unfold maxLen; omega) rfl
    have hb1 := (Below.refl w.heap.size w).alloc (Nat.le_refl _) (.cells #[] 3)
    go_loopw [3, 4] (fun v i wr => ∃ (k : Nat) (A' : Option Addr) (c' : Nat), k ≤ xs.length ∧ i = .int .i64 k ∧ v = .slice A' (placesL (descH xs) k).length c' ∧ wr.ownsRow w.heap.size 3 1 (.slice A' (placesL (descH xs) k).length c') (placesL (descH xs) k).length ((placesL (descH xs) k).map (Value.int .i64)) ∧ Below w.heap.size w wr) (fun _ i _ => xs.length - (intOf i).toNat)
    case atStart => exact ⟨0, _, _, Nat.zero_le _, rfl, rfl, hown0, hb1⟩
    case round =>
      clear hown0 hb1
      obtain ⟨k, A', c', hk, rfl, rfl, hown, hb⟩ := hrel
      have hpl := placesL_length (descH xs) k
      have hIn := h.next hb
      by_cases hlt : k + 1 < xs.length
      · have hd1 : decide ((k : Int) + 1 < (xs.length : Int)) = true := by simp; omega
        go_wp2_with fail
        refine (isPerm_spec _ _ _ _ hIn).mono ?_
        rintro e w1 ⟨rfl, hd⟩
        rw [HP.out]
        have hown := hd.own hown
        have hb := below_dr hb hd
        have hx := (hIn.dr hd).rd
        obtain ⟨b, off, rfl, _, hc⟩ := hx (by omega)
        have c1 := hc k (by omega)
        have c2 := hc (k + 1) hlt
        have e1 : IntKind.i64.wrap ((k : Int) + 1) = (k : Int) + 1 := IntWalk.i64_in _ (by omega)
        have e2 : ((k : Int) + 1).toNat = k + 1 := by omega
        have e3 : 0 ≤ (k : Int) + 1 := by omega
        have e4 : (k : Int) + 1 < (xs.length : Int) := by omega
        clear hc hx hIn
        by_cases hH : xs[k + 1] < xs[k]
        · have HS := Lib.hid (show placesL (descH xs) (k + 1) = placesL (descH xs) k ++ [(k : Int) + 1] by rw [placesL_succ, if_pos (by simp [descH, hlt, show k < xs.length by omega]; exact hH)])
          go_wp2_with fail
          go_quiet (fail)
          obtain ⟨wr, hwr⟩ : ∃ wr : World, wr = w1.drewN nq := ⟨_, rfl⟩
          have hd2 : Dr w1 wr := ⟨nq, hwr⟩
          rw [← hwr]
          have hown := hd2.own hown
          have hb := below_dr hb hd2
          have hsz : w.heap.size ≤ wr.heap.size := hb.size
          clear hwr hd2
          go_wp2_with (at_builtin; refine wpList_append_own _ rfl _ _ 24 rfl (w.heap.size) 3 i0 (.int .i64 0) 1 8 Try.underlying24 hi hz0 hz1 hz2 rfl (by decide) _ _ _ rfl (World.ownsRow.alloc hown _) ⟨wr.heap.size, 0, none⟩ 1 1 [.int .i64 ((k : Int) + 1)] rfl rfl (cell_one_new _ _ _) (by intro u hu; simp at hu; subst hu; rfl) (by unfold maxLen; omega) (by omega) (by simp; omega) ?_; intro v1 w1 hown1 hgrow1 _)
          have hb1 := (hb.alloc hsz (Obj.cells #[Value.int .i64 ((k : Int) + 1)] 3)).grown hgrow1 (by simp; omega) (by intro g hg; exact ((hown.lt g hg).1))
          have hS2 : w1.ownsRow w.heap.size 3 1 v1 (placesL (descH xs) (k + 1)).length ((placesL (descH xs) (k + 1)).map (Value.int .i64)) := by rw [HS.out]; simpa using hown1
          obtain ⟨A1, cc, rfl, _, _⟩ := own_shape hS2
          have hH1 := Lib.hid hS2
          have hH2 := Lib.hid hb1
          clear hS2 hown1 hgrow1 hb1 hown hb
          go_wp2_with fail
          go_roundw
          case rel => exact ⟨k + 1, A1, cc, by omega, by go_num, rfl, hH1.out, hH2.out⟩
          case measure => simp [intOf]; omega
        · have HS := Lib.hid (show placesL (descH xs) (k + 1) = placesL (descH xs) k by rw [placesL_succ, if_neg (by simp [descH, hlt, show k < xs.length by omega]; omega)])
          go_wp2_with fail
          go_quiet (fail)
          go_wp2_with fail
          go_roundw
          case rel => exact ⟨k + 1, A', c', by omega, by go_num, by rw [HS.out], by rw [HS.out]; exact (Dr.of _ nq).own hown, below_dr hb (Dr.of _ nq)⟩
          case measure => simp [intOf]; omega
      · have hd1 : decide ((k : Int) + 1 < (xs.length : Int)) = false := by simp; omega
        have HE := Lib.hid (show placesL (descH xs) xs.length = placesL (descH xs) k by
          rcases Nat.lt_or_ge k xs.length with h1 | h1
          · obtain h2 : xs.length = k + 1 := by omega
            rw [h2, placesL_succ, if_neg (by simp [descH]; omega)]
          · obtain h2 : xs.length = k := by omega
            rw [h2])
        go_wp2_with fail
        go_ret
        rw [HG.out, HE.out]
        exact ⟨A', c', rfl, (own_caps hown).1, (own_caps hown).2, hown, hb⟩
  · have hpf : permB xs = false := by simpa using hp
    have HG := Lib.hid (show listG xs (descH xs) = [] by rw [listG, if_neg hp])
    go_enter Try.func34, Try.ntmps34
    go_wp2_with fail
    have hb1 := (Below.refl w.heap.size w).alloc (Nat.le_refl _) (.cells #[] 3)
    have h1 := h.next hb1
    refine wp_loop_rounds 1 ?_
    rw [rounds_succ]
    by_cases hlt : 1 < xs.length
    · have hd1 : decide (((0 : Nat) : Int) + 1 < (xs.length : Int)) = true := by simp; omega
      go_wp2_with fail
      refine (isPerm_spec _ _ _ _ h1).mono ?_
      rintro e w1 ⟨rfl, hd⟩
      rw [hpf]
      clear hp hpf
      go_wp2_with fail
      go_ret
      rw [HG.out]
      exact ⟨_, _, rfl, Nat.le_refl _, Nat.zero_le _, hd.own (World.ownsRow_lit w #[] 0 (Nat.le_refl _) (Nat.zero_le _) rfl), below_dr hb1 hd⟩
    · have hd1 : decide (((0 : Nat) : Int) + 1 < (xs.length : Int)) = false := by rw [decide_eq_false_iff_not]; omega
      go_wp2_with fail
      go_ret
      rw [HG.out]
      exact ⟨_, _, rfl, Nat.le_refl _, Nat.zero_le _, World.ownsRow_lit w #[] 0 (Nat.le_refl _) (Nat.zero_le _) rfl, hb1⟩

def leastL (s : Int) (l : List Int) : Int := l.foldl (fun m x => if x < m then x else m) s
theorem leastL_le (s : Int) (l : List Int) : leastL s l ≤ s := by
  induction l generalizing s with
  | nil => exact Int.le_refl _
  | cons y l ih =>
    have := ih (if y < s then y else s)
    have h2 : leastL s (y :: l) = leastL (if y < s then y else s) l := rfl
    rw [h2]
    refine Int.le_trans this ?_
    split <;> omega
theorem leastL_lt (s : Int) (l : List Int) (x : Int) (hs : x < s) (hne : x ∉ l) : x < leastL s l ↔ ∀ y ∈ l, ¬ y < x := by
  induction l generalizing s with
  | nil => simp [leastL, hs]
  | cons y l ih =>
    have h2 : leastL s (y :: l) = leastL (if y < s then y else s) l := rfl
    rw [h2]
    have hy : y ≠ x := fun e => hne (by simp [e])
    have hne' : x ∉ l := fun e => hne (by simp [e])
    have hle := leastL_le (if y < s then y else s) l
    by_cases h : y < x
    · constructor
      · intro h3
        have : (if y < s then y else s) ≤ y := by split <;> omega
        omega
      · intro h3; exact absurd h (h3 y (by simp))
    · rw [ih _ (by split <;> omega) hne']
      constructor
      · intro g z hz
        rcases List.mem_cons.1 hz with rfl | hz
        · exact h
        · exact g z hz
      · intro g z hz
        exact g z (by simp [hz])
theorem leastL_snoc (s : Int) (l : List Int) (x : Int) : leastL s (l ++ [x]) = if x < leastL s l then x else leastL s l := by unfold leastL; rw [List.foldl_append]; rfl
def mostL (s : Int) (l : List Int) : Int := l.foldl (fun m x => if x > m then x else m) s
theorem mostL_le (s : Int) (l : List Int) : s ≤ mostL s l := by
  induction l generalizing s with
  | nil => exact Int.le_refl _
  | cons y l ih =>
    have := ih (if y > s then y else s)
    have h2 : mostL s (y :: l) = mostL (if y > s then y else s) l := rfl
    rw [h2]
    refine Int.le_trans ?_ this
    split <;> omega
theorem mostL_lt (s : Int) (l : List Int) (x : Int) (hs : s < x) (hne : x ∉ l) : mostL s l < x ↔ ∀ y ∈ l, ¬ y > x := by
  induction l generalizing s with
  | nil => simp [mostL, hs]
  | cons y l ih =>
    have h2 : mostL s (y :: l) = mostL (if y > s then y else s) l := rfl
    rw [h2]
    have hy : y ≠ x := fun e => hne (by simp [e])
    have hne' : x ∉ l := fun e => hne (by simp [e])
    have hle := mostL_le (if y > s then y else s) l
    by_cases h : y > x
    · constructor
      · intro h3
        have : y ≤ (if y > s then y else s) := by split <;> omega
        omega
      · intro h3; exact absurd h (h3 y (by simp))
    · rw [ih _ (by split <;> omega) hne']
      constructor
      · intro g z hz
        rcases List.mem_cons.1 hz with rfl | hz
        · exact h
        · exact g z hz
      · intro g z hz
        exact g z (by simp [hz])
theorem mostL_snoc (s : Int) (l : List Int) (x : Int) : mostL s (l ++ [x]) = if x > mostL s l then x else mostL s l := by unfold mostL; rw [List.foldl_append]; rfl
theorem mem_take_iff {xs : List Int} {k : Nat} {y : Int} (hk : k ≤ xs.length) : y ∈ xs.take k ↔ ∃ j, j < k ∧ xs[j]?.getD 0 = y := by
  constructor
  · intro h
    obtain ⟨j, hj, rfl⟩ := List.getElem_of_mem h
    simp only [List.length_take] at hj
    exact ⟨j, by omega, by simp [show j < xs.length by omega]⟩
  · rintro ⟨j, hj, rfl⟩
    rw [List.getElem?_eq_getElem (show j < xs.length by omega)]
    exact List.mem_take_iff_getElem.2 ⟨j, by omega, rfl⟩
theorem not_mem_take {xs : List Int} {k : Nat} (hk : k < xs.length) (h : xs.Nodup) : xs[k] ∉ xs.take k := by
  have h' := (List.take_sublist (k + 1) xs).nodup h
  rw [List.take_succ_eq_append_getElem hk] at h'
  exact ((nodup_snoc _ _).1 h').2

theorem lowH_iff {xs : List Int} (hr : ∀ v ∈ xs, 1 ≤ v ∧ v ≤ xs.length) (hn : xs.Nodup) {k : Nat} (hlt : k < xs.length) : lowH xs k = true ↔ xs[k] < leastL ((xs.length : Int) + 1) (xs.take k) := by
  rw [leastL_lt ((xs.length : Int) + 1) (xs.take k) xs[k] (by have := (hr _ (List.getElem_mem hlt)).2; omega) (not_mem_take hlt hn)]
  unfold lowH lowHAt
  rw [List.all_eq_true]
  constructor
  · intro h y hy
    obtain ⟨j, hj, rfl⟩ := (mem_take_iff (Nat.le_of_lt hlt)).1 hy
    have := h j (List.mem_range.2 hj)
    rw [List.getElem?_eq_getElem hlt] at this
    simpa using this
  · intro h j hj
    have := h _ ((mem_take_iff (Nat.le_of_lt hlt)).2 ⟨j, List.mem_range.1 hj, rfl⟩)
    rw [List.getElem?_eq_getElem hlt]
    simpa using this
set_option maxHeartbeats 1000000 in
theorem lows_spec (A : Option Addr) (c : Nat) (xs : List Int) (w : World) (h : In w A c xs) :
    Calls Try.prog 38 #[.slice A xs.length c] w (Ret (Value.int .i64) 3 w (listG xs (lowH xs))) := by
  obtain ⟨i0, hi, hz0, hz1, hz2⟩ := info_parts infoI
  have hlen := h.len
  by_cases hp : permB xs = true
  · have HG := Lib.hid (show listG xs (lowH xs) = placesL (lowH xs) xs.length by rw [listG, if_pos hp])
    have HP := Lib.hid hp
    obtain ⟨h8, hr, hn⟩ := permB_true hp
    have HR := Lib.hid hr
    have HN := Lib.hid hn
    clear hp hr hn
    go_enter Try.func38, Try.ntmps38
    go_wp2_with fail
    have hown0 : (w.alloc (.cells #[] 3)).ownsRow w.heap.size 3 1 (.slice (some ⟨w.heap.size, 0, none⟩) 0 0) (placesL (lowH xs) 0).length ((placesL (lowH xs) 0).map (Value.int .i64)) := World.ownsRow_lit w #[] 0 (Nat.le_refl _) (by unfold maxLen; omega) rfl
    have hb1 := (Below.refl w.heap.size w).alloc (Nat.le_refl _) (.cells #[] 3)
    go_loopw [3, 4, 5] (fun v m i wr => ∃ (k : Nat) (A' : Option Addr) (c' : Nat), k ≤ xs.length ∧ i = .int .i64 k ∧ m = .int .i64 (leastL ((xs.length : Int) + 1) (xs.take k)) ∧ v = .slice A' (placesL (lowH xs) k).length c' ∧ wr.ownsRow w.heap.size 3 1 (.slice A' (placesL (lowH xs) k).length c') (placesL (lowH xs) k).length ((placesL (lowH xs) k).map (Value.int .i64)) ∧ Below w.heap.size w wr) (fun _ _ i _ => xs.length - (intOf i).toNat)
    case atStart => exact ⟨0, _, _, Nat.zero_le _, rfl, rfl, rfl, hown0, hb1⟩
    case round =>
      clear hown0 hb1
      obtain ⟨k, A', c', hk, rfl, rfl, rfl, hown, hb⟩ := hrel
      have hpl := placesL_length (lowH xs) k
      have hIn := h.next hb
      rcases Nat.lt_or_ge k xs.length with hlt | hge
      · have hd1 : decide ((k : Int) < (xs.length : Int)) = true := by simp; omega
        go_wp2_with fail
        refine (isPerm_spec _ _ _ _ hIn).mono ?_
        rintro e wr ⟨rfl, hd⟩
        rw [HP.out]
        have hown := hd.own hown
        have hb := below_dr hb hd
        have hsz : w.heap.size ≤ wr.heap.size := hb.size
        have hx := (hIn.dr hd).rd
        obtain ⟨b, off, rfl, _, hc⟩ := hx (by omega)
        have c1 := hc k hlt
        have HI := Lib.hid (lowH_iff HR.out HN.out hlt)
        have HT := Lib.hid (show leastL ((xs.length : Int) + 1) (xs.take (k + 1)) = if xs[k] < leastL ((xs.length : Int) + 1) (xs.take k) then xs[k] else leastL ((xs.length : Int) + 1) (xs.take k) by rw [List.take_succ_eq_append_getElem hlt, leastL_snoc])
        clear hc hx hIn
        by_cases hH : xs[k] < leastL ((xs.length : Int) + 1) (xs.take k)
        · have HS := Lib.hid (show placesL (lowH xs) (k + 1) = placesL (lowH xs) k ++ [(k : Int) + 1] by rw [placesL_succ, if_pos (HI.out.2 hH)])
          have HT2 := Lib.hid (show leastL ((xs.length : Int) + 1) (xs.take (k + 1)) = xs[k] by rw [HT.out, if_pos hH])
          go_wp2_with (at_builtin; refine wpList_append_own _ rfl _ _ 24 rfl (w.heap.size) 3 i0 (.int .i64 0) 1 8 Try.underlying24 hi hz0 hz1 hz2 rfl (by decide) _ _ _ rfl (World.ownsRow.alloc hown _) ⟨wr.heap.size, 0, none⟩ 1 1 [.int .i64 ((k : Int) + 1)] rfl rfl (cell_one_new _ _ _) (by intro u hu; simp at hu; subst hu; rfl) (by unfold maxLen; omega) (by omega) (by simp; omega) ?_; intro v1 w1 hown1 hgrow1 _)
          have hb1 := (hb.alloc hsz (Obj.cells #[Value.int .i64 ((k : Int) + 1)] 3)).grown hgrow1 (by simp; omega) (by intro g hg; exact ((hown.lt g hg).1))
          have hS2 : w1.ownsRow w.heap.size 3 1 v1 (placesL (lowH xs) (k + 1)).length ((placesL (lowH xs) (k + 1)).map (Value.int .i64)) := by rw [HS.out]; simpa using hown1
          obtain ⟨A1, cc, rfl, _, _⟩ := own_shape hS2
          have hH1 := Lib.hid hS2
          have hH2 := Lib.hid hb1
          clear hS2 hown1 hgrow1 hb1 hown hb
          go_wp2_with fail
          go_roundw
          case rel => exact ⟨k + 1, A1, cc, by omega, by go_num, by rw [HT2.out], rfl, hH1.out, hH2.out⟩
          case measure => simp [intOf]; omega
        · have HS := Lib.hid (show placesL (lowH xs) (k + 1) = placesL (lowH xs) k by rw [placesL_succ, if_neg (fun h => hH (HI.out.1 h))])
          have HT2 := Lib.hid (show leastL ((xs.length : Int) + 1) (xs.take (k + 1)) = leastL ((xs.length : Int) + 1) (xs.take k) by rw [HT.out, if_neg hH])
          go_wp2_with fail
          go_roundw
          case rel => exact ⟨k + 1, A', c', by omega, by go_num, by rw [HT2.out], by rw [HS.out], by rw [HS.out]; exact hown, hb⟩
          case measure => simp [intOf]; omega
      · have hd1 : decide ((k : Int) < (xs.length : Int)) = false := by simp; omega
        obtain rfl : k = xs.length := by omega
        go_wp2_with fail
        go_ret
        rw [HG.out]
        exact ⟨A', c', rfl, (own_caps hown).1, (own_caps hown).2, hown, hb⟩
  · have hpf : permB xs = false := by simpa using hp
    have HG := Lib.hid (show listG xs (lowH xs) = [] by rw [listG, if_neg hp])
    go_enter Try.func38, Try.ntmps38
    go_wp2_with fail
    have hb1 := (Below.refl w.heap.size w).alloc (Nat.le_refl _) (.cells #[] 3)
    have h1 := h.next hb1
    refine wp_loop_rounds 1 ?_
    rw [rounds_succ]
    by_cases hlt : 0 < xs.length
    · have hd1 : decide ((0 : Int) < (xs.length : Int)) = true := by simp; omega
      go_wp2_with fail
      refine (isPerm_spec _ _ _ _ h1).mono ?_
      rintro e w1 ⟨rfl, hd⟩
      rw [hpf]
      clear hp hpf
      go_wp2_with fail
      go_ret
      rw [HG.out]
      exact ⟨_, _, rfl, Nat.le_refl _, Nat.zero_le _, hd.own (World.ownsRow_lit w #[] 0 (Nat.le_refl _) (Nat.zero_le _) rfl), below_dr hb1 hd⟩
    · have hd1 : decide ((0 : Int) < (xs.length : Int)) = false := by rw [decide_eq_false_iff_not]; omega
      go_wp2_with fail
      go_ret
      rw [HG.out]
      exact ⟨_, _, rfl, Nat.le_refl _, Nat.zero_le _, World.ownsRow_lit w #[] 0 (Nat.le_refl _) (Nat.zero_le _) rfl, hb1⟩

theorem recH_iff {xs : List Int} (hr : ∀ v ∈ xs, 1 ≤ v ∧ v ≤ xs.length) (hn : xs.Nodup) {k : Nat} (hlt : k < xs.length) : recH xs k = true ↔ mostL 0 (xs.take k) < xs[k] := by
  rw [mostL_lt 0 (xs.take k) xs[k] (by have := (hr _ (List.getElem_mem hlt)).1; omega) (not_mem_take hlt hn)]
  unfold recH recHAt
  rw [List.all_eq_true]
  constructor
  · intro h y hy
    obtain ⟨j, hj, rfl⟩ := (mem_take_iff (Nat.le_of_lt hlt)).1 hy
    have := h j (List.mem_range.2 hj)
    rw [List.getElem?_eq_getElem hlt] at this
    simpa using this
  · intro h j hj
    have := h _ ((mem_take_iff (Nat.le_of_lt hlt)).2 ⟨j, List.mem_range.1 hj, rfl⟩)
    rw [List.getElem?_eq_getElem hlt]
    simpa using this
set_option maxHeartbeats 1000000 in
theorem records_spec (A : Option Addr) (c : Nat) (xs : List Int) (w : World) (h : In w A c xs) :
    Calls Try.prog 36 #[.slice A xs.length c] w (Ret (Value.int .i64) 3 w (listG xs (recH xs))) := by
  obtain ⟨i0, hi, hz0, hz1, hz2⟩ := info_parts infoI
  have hlen := h.len
  by_cases hp : permB xs = true
  · have HG := Lib.hid (show listG xs (recH xs) = placesL (recH xs) xs.length by rw [listG, if_pos hp])
    have HP := Lib.hid hp
    obtain ⟨h8, hr, hn⟩ := permB_true hp
    have HR := Lib.hid hr
    have HN := Lib.hid hn
    clear hp hr hn
    go_enter Try.func36, Try.ntmps36
    go_wp2_with fail
    have hown0 : (w.alloc (.cells #[] 3)).ownsRow w.heap.size 3 1 (.slice (some ⟨w.heap.size, 0, none⟩) 0 0) (placesL (recH xs) 0).length ((placesL (recH xs) 0).map (Value.int .i64)) := World.ownsRow_lit w #[] 0 (Nat.le_refl _) (by unfold maxLen; omega) rfl
    have hb1 := (Below.refl w.heap.size w).alloc (Nat.le_refl _) (.cells #[] 3)
    go_loopw [3, 4, 5] (fun v m i wr => ∃ (k : Nat) (A' : Option Addr) (c' : Nat), k ≤ xs.length ∧ i = .int .i64 k ∧ m = .int .i64 (mostL 0 (xs.take k)) ∧ v = .slice A' (placesL (recH xs) k).length c' ∧ wr.ownsRow w.heap.size 3 1 (.slice A' (placesL (recH xs) k).length c') (placesL (recH xs) k).length ((placesL (recH xs) k).map (Value.int .i64)) ∧ Below w.heap.size w wr) (fun _ _ i _ => xs.length - (intOf i).toNat)
    case atStart => exact ⟨0, _, _, Nat.zero_le _, rfl, rfl, rfl, hown0, hb1⟩
    case round =>
      clear hown0 hb1
      obtain ⟨k, A', c', hk, rfl, rfl, rfl, hown, hb⟩ := hrel
      have hpl := placesL_length (recH xs) k
      have hIn := h.next hb
      rcases Nat.lt_or_ge k xs.length with hlt | hge
      · have hd1 : decide ((k : Int) < (xs.length : Int)) = true := by simp; omega
        go_wp2_with fail
        refine (isPerm_spec _ _ _ _ hIn).mono ?_
        rintro e wr ⟨rfl, hd⟩
        rw [HP.out]
        have hown := hd.own hown
        have hb := below_dr hb hd
        have hsz : w.heap.size ≤ wr.heap.size := hb.size
        have hx := (hIn.dr hd).rd
        obtain ⟨b, off, rfl, _, hc⟩ := hx (by omega)
        have c1 := hc k hlt
        have HI := Lib.hid (recH_iff HR.out HN.out hlt)
        have HT := Lib.hid (show mostL 0 (xs.take (k + 1)) = if xs[k] > mostL 0 (xs.take k) then xs[k] else mostL 0 (xs.take k) by rw [List.take_succ_eq_append_getElem hlt, mostL_snoc])
        clear hc hx hIn
        by_cases hH : mostL 0 (xs.take k) < xs[k]
        · have HS := Lib.hid (show placesL (recH xs) (k + 1) = placesL (recH xs) k ++ [(k : Int) + 1] by rw [placesL_succ, if_pos (HI.out.2 hH)])
          have HT2 := Lib.hid (show mostL 0 (xs.take (k + 1)) = xs[k] by rw [HT.out, if_pos hH])
          go_wp2_with (at_builtin; refine wpList_append_own _ rfl _ _ 24 rfl (w.heap.size) 3 i0 (.int .i64 0) 1 8 Try.underlying24 hi hz0 hz1 hz2 rfl (by decide) _ _ _ rfl (World.ownsRow.alloc hown _) ⟨wr.heap.size, 0, none⟩ 1 1 [.int .i64 ((k : Int) + 1)] rfl rfl (cell_one_new _ _ _) (by intro u hu; simp at hu; subst hu; rfl) (by unfold maxLen; omega) (by omega) (by simp; omega) ?_; intro v1 w1 hown1 hgrow1 _)
          have hb1 := (hb.alloc hsz (Obj.cells #[Value.int .i64 ((k : Int) + 1)] 3)).grown hgrow1 (by simp; omega) (by intro g hg; exact ((hown.lt g hg).1))
          have hS2 : w1.ownsRow w.heap.size 3 1 v1 (placesL (recH xs) (k + 1)).length ((placesL (recH xs) (k + 1)).map (Value.int .i64)) := by rw [HS.out]; simpa using hown1
          obtain ⟨A1, cc, rfl, _, _⟩ := own_shape hS2
          have hH1 := Lib.hid hS2
          have hH2 := Lib.hid hb1
          clear hS2 hown1 hgrow1 hb1 hown hb
          go_wp2_with fail
          go_roundw
          case rel => exact ⟨k + 1, A1, cc, by omega, by go_num, by rw [HT2.out], rfl, hH1.out, hH2.out⟩
          case measure => simp [intOf]; omega
        · have HS := Lib.hid (show placesL (recH xs) (k + 1) = placesL (recH xs) k by rw [placesL_succ, if_neg (fun h => hH (HI.out.1 h))])
          have HT2 := Lib.hid (show mostL 0 (xs.take (k + 1)) = mostL 0 (xs.take k) by rw [HT.out, if_neg hH])
          go_wp2_with fail
          go_roundw
          case rel => exact ⟨k + 1, A', c', by omega, by go_num, by rw [HT2.out], by rw [HS.out], by rw [HS.out]; exact hown, hb⟩
          case measure => simp [intOf]; omega
      · have hd1 : decide ((k : Int) < (xs.length : Int)) = false := by simp; omega
        obtain rfl : k = xs.length := by omega
        go_wp2_with fail
        go_ret
        rw [HG.out]
        exact ⟨A', c', rfl, (own_caps hown).1, (own_caps hown).2, hown, hb⟩
  · have hpf : permB xs = false := by simpa using hp
    have HG := Lib.hid (show listG xs (recH xs) = [] by rw [listG, if_neg hp])
    go_enter Try.func36, Try.ntmps36
    go_wp2_with fail
    have hb1 := (Below.refl w.heap.size w).alloc (Nat.le_refl _) (.cells #[] 3)
    have h1 := h.next hb1
    refine wp_loop_rounds 1 ?_
    rw [rounds_succ]
    by_cases hlt : 0 < xs.length
    · have hd1 : decide ((0 : Int) < (xs.length : Int)) = true := by simp; omega
      go_wp2_with fail
      refine (isPerm_spec _ _ _ _ h1).mono ?_
      rintro e w1 ⟨rfl, hd⟩
      rw [hpf]
      clear hp hpf
      go_wp2_with fail
      go_ret
      rw [HG.out]
      exact ⟨_, _, rfl, Nat.le_refl _, Nat.zero_le _, hd.own (World.ownsRow_lit w #[] 0 (Nat.le_refl _) (Nat.zero_le _) rfl), below_dr hb1 hd⟩
    · have hd1 : decide ((0 : Int) < (xs.length : Int)) = false := by rw [decide_eq_false_iff_not]; omega
      go_wp2_with fail
      go_ret
      rw [HG.out]
      exact ⟨_, _, rfl, Nat.le_refl _, Nat.zero_le _, World.ownsRow_lit w #[] 0 (Nat.le_refl _) (Nat.zero_le _) rfl, hb1⟩

set_option maxHeartbeats 400000 in
theorem major_spec (A : Option Addr) (c : Nat) (xs : List Int) (w : World) (h : In w A c xs) :
    Calls Try.prog 31 #[.slice A xs.length c] w (Rb w (.int .i64 (majorG xs))) := by
  by_cases hp : permB xs = true
  · have HG := Lib.hid (show majorG xs = sumL (listG xs (descH xs)) by rw [majorG, if_pos hp])
    have hL := listG_length xs (descH xs)
    obtain ⟨L, hLe⟩ : ∃ L, L = listG xs (descH xs) := ⟨_, rfl⟩
    go_enter Try.func31, Try.ntmps31
    go_wp2_with fail
    refine (isPerm_spec _ _ _ _ h).mono ?_
    rintro e w1 ⟨rfl, hd⟩
    have hb1 := below_dr (Below.refl w.heap.size w) hd
    rw [hp]
    clear hp
    go_wp2_with fail
    refine (descents_spec A c xs _ (h.dr hd)).mono ?_
    rw [← hLe]
    rw [← hLe] at hL
    have HL := Lib.hid hLe
    clear hLe
    rintro e w2 ⟨A1, c1, rfl, q1, q2, hown, hb⟩
    have hr := Rd.of_own hown
    have hB := hb1.trans (hb.mono hb1.size)
    clear hown
    go_wp2_with fail
    go_loop [3, 5] (fun s i => ∃ k : Nat, k ≤ L.length ∧ i = .int .i64 k ∧ s = .int .i64 (sumL (L.take k))) (fun _ i => L.length - (intOf i).toNat)
    case atStart => exact ⟨0, Nat.zero_le _, rfl, rfl⟩
    case round =>
      obtain ⟨k, hk, rfl, rfl⟩ := hrel
      rcases Nat.lt_or_ge k L.length with hlt | hge
      · obtain ⟨b, off, rfl, _, hc⟩ := hr (by omega)
        have ck := hc k hlt
        have HS := Lib.hid (sumL_succ L k hlt)
        clear hc
        go_wp2
        go_round
        case rel => exact ⟨k + 1, by omega, by go_num, by rw [HS.out]⟩
        case measure => simp [intOf]; omega
      · go_wp2
        go_ret
        exact ⟨ret_int (by rw [HG.out, ← HL.out, List.take_of_length_le hge]), hB⟩
  · have hpf : permB xs = false := by simpa using hp
    have HG := Lib.hid (show majorG xs = -1 by rw [majorG, if_neg hp])
    go_enter Try.func31, Try.ntmps31
    go_wp2_with fail
    refine (isPerm_spec _ _ _ _ h).mono ?_
    rintro e w1 ⟨rfl, hd⟩
    rw [hpf]
    clear hp hpf
    go_wp2_with fail
    go_ret
    exact ⟨ret_int HG.out.symm, below_dr (Below.refl _ _) hd⟩

end Go.Proofs.Ythipikllgpnlhaa

/- Patterns with joined places: the laws' own helpers for them, and IsNear. -/
namespace Go.Proofs.Ythipikllgpnlhaa
set_option maxRecDepth 100000
open Go Go.RowKit

/-- The joined place at j is right, in a pattern of length n. -/
def joinAt (n : Nat) (ys : List Int) (j : Nat) : Bool := decide (1 ≤ ys[j]?.getD 0 ∧ ys[j]?.getD 0 < n ∧ (j = 0 ∨ ys[j - 1]?.getD 0 < ys[j]?.getD 0))
def joinTo (n : Nat) (ys : List Int) (k : Nat) : Bool := (List.range k).all (joinAt n ys)
theorem joinTo_succ (n : Nat) (ys : List Int) (k : Nat) : joinTo n ys (k + 1) = (joinTo n ys k && joinAt n ys k) := by simp [joinTo, List.range_succ]
theorem joinTo_false {n : Nat} {ys : List Int} {k m : Nat} (h : k < m) (ht : joinAt n ys k = false) : joinTo n ys m = false := by
  unfold joinTo
  rw [List.all_eq_false]
  exact ⟨k, List.mem_range.2 h, by simp [ht]⟩
def nearB (xs ys : List Int) : Bool := permB xs && joinTo xs.length ys ys.length

theorem l1In_b (x lo hi : Int) (w : World) (b : Bool) (hb : decide (lo ≤ x ∧ x ≤ hi) = b) :
    Calls Try.prog 87 #[.int .i64 x, .int .i64 lo, .int .i64 hi] w fun e w' => e = .returned (.bool b) ∧ w = w' := by
  subst hb
  exact l1In_any x lo hi w

set_option maxHeartbeats 1000000 in
theorem near_impl (A B : Option Addr) (c k : Nat) (xs ys : List Int) (w : World) (h : InN w A c xs B k ys) :
    Calls Try.prog 77 #[.agg #[.slice A xs.length c, .slice B ys.length k]] w (Rb w (.bool (nearB xs ys))) := by
  have hlx := h.1.len
  have hly := h.2.len
  by_cases hp : permB xs = true
  · have HP := Lib.hid hp
    go_enter Try.func77, Try.ntmps77
    have hb0 : Below w.heap.size w (w.alloc (Obj.cells #[Value.slice A xs.length c, Value.slice B ys.length k] 32)) := (Below.refl _ _).alloc (Nat.le_refl _) _
    go_wp2_with fail
    (with_reducible refine (isPerm_impl A c xs _ (h.1.next hb0)).mono ?_)
    rintro e w1 ⟨rfl, hb1⟩
    rw [hp]
    clear hp
    have hb := hb0.trans (hb1.mono hb0.size)
    have f0 : w1.cell? ⟨w.heap.size, 0, none⟩ = some (Value.slice A xs.length c) := (hb1.cell (by simp)).trans (by simp)
    have f1 : w1.cell? ⟨w.heap.size, 1, none⟩ = some (Value.slice B ys.length k) := (hb1.cell (by simp)).trans (by simp)
    have hy := (h.2.next hb).rd
    clear hb0 hb1
    go_wp2_with fail
    go_loopw [12] (fun i wr => ∃ j : Nat, j ≤ ys.length ∧ i = .int .i64 j ∧ joinTo xs.length ys j = true ∧ Dr w1 wr) (fun i _ => ys.length - (intOf i).toNat)
    case atStart => exact ⟨0, Nat.zero_le _, rfl, rfl, Dr.refl _⟩
    case round =>
      obtain ⟨j, hj, rfl, hall, hd⟩ := hrel
      have HA := Lib.hid hall
      clear hall
      have g0 : wr.cell? ⟨w.heap.size, 0, none⟩ = some (Value.slice A xs.length c) := (hd.cell _).trans f0
      have g1 : wr.cell? ⟨w.heap.size, 1, none⟩ = some (Value.slice B ys.length k) := (hd.cell _).trans f1
      by_cases hlt : j < ys.length
      · obtain ⟨b, off, rfl, _, hc⟩ := hy (by omega)
        have c1 : wr.cell? ⟨b, off + j, none⟩ = some (.int .i64 ys[j]) := (hd.cell _).trans (hc j hlt)
        have HTA := Lib.hid (show joinAt xs.length ys j = decide (1 ≤ ys[j] ∧ ys[j] < (xs.length : Int) ∧ (j = 0 ∨ ys[j - 1]?.getD 0 < ys[j])) by unfold joinAt; rw [List.getElem?_eq_getElem hlt]; rfl)
        by_cases h1 : ys[j] < 1
        · have d1 : decide (ys[j] < 1) = true := decide_eq_true h1
          have HT := Lib.hid (show joinAt xs.length ys j = false by rw [HTA.out, decide_eq_false_iff_not]; omega)
          clear hc h1
          go_wp2
          go_ret
          exact ⟨ret_bool (by rw [nearB, joinTo_false hlt HT.out, Bool.and_false]), below_dr hb (by first | with_reducible assumption | with_reducible exact hd | with_reducible exact Dr.drewN hd _ | with_reducible exact Dr.drewN (Dr.drewN hd _) _ | with_reducible exact Dr.drew hd)⟩
        · have d1 : decide (ys[j] < 1) = false := decide_eq_false h1
          by_cases h2 : (xs.length : Int) ≤ ys[j]
          · have d2 : decide ((xs.length : Int) ≤ ys[j]) = true := decide_eq_true h2
            have d2' : decide (ys[j] ≥ (xs.length : Int)) = true := decide_eq_true h2
            have HT := Lib.hid (show joinAt xs.length ys j = false by rw [HTA.out, decide_eq_false_iff_not]; omega)
            clear hc h1 h2
            go_wp2
            go_ret
            exact ⟨ret_bool (by rw [nearB, joinTo_false hlt HT.out, Bool.and_false]), below_dr hb (by first | with_reducible assumption | with_reducible exact hd | with_reducible exact Dr.drewN hd _ | with_reducible exact Dr.drewN (Dr.drewN hd _) _ | with_reducible exact Dr.drew hd)⟩
          · have d2 : decide ((xs.length : Int) ≤ ys[j]) = false := decide_eq_false h2
            have d2' : decide (ys[j] ≥ (xs.length : Int)) = false := decide_eq_false h2
            rcases Nat.eq_zero_or_pos j with h0 | h0
            · subst h0
              have HT := Lib.hid (show joinTo xs.length ys (0 + 1) = true by rw [joinTo_succ, HA.out, HTA.out, Bool.true_and, decide_eq_true_eq]; omega)
              have c1' : wr.cell? ⟨b, off, none⟩ = some (.int .i64 ys[0]) := c1
              clear hc h1 h2
              go_wp2
              go_roundw
              case rel => exact ⟨1, by omega, rfl, HT.out, (by first | with_reducible assumption | with_reducible exact hd | with_reducible exact Dr.drewN hd _ | with_reducible exact Dr.drewN (Dr.drewN hd _) _ | with_reducible exact Dr.drew hd)⟩
              case measure => simp [intOf]; omega
            · have c2 : wr.cell? ⟨b, off + (j - 1), none⟩ = some (.int .i64 (ys[j - 1]'(by omega))) := (hd.cell _).trans (hc (j - 1) (by omega))
              have e1 : IntKind.i64.wrap ((j : Int) - 1) = (j : Int) - 1 := IntWalk.i64_in _ (by omega)
              have e2 : ((j : Int) - 1).toNat = j - 1 := by omega
              have e3 : 0 ≤ (j : Int) - 1 := by omega
              have e4 : (j : Int) - 1 < (ys.length : Int) := by omega
              have e5 : 1 ≤ (j : Int) := by omega
              have e6 : (j : Int) ≤ (ys.length : Int) := by omega
              have d0 : decide ((j : Int) > 0) = true := decide_eq_true (by omega)
              have d0' : decide (0 < (j : Int)) = true := decide_eq_true (by omega)
              have HJ := Lib.hid (show ys[j - 1]?.getD 0 = ys[j - 1]'(by omega) by rw [List.getElem?_eq_getElem (by omega)]; rfl)
              by_cases h3 : ys[j] ≤ (ys[j - 1]'(by omega))
              · have d3 : decide (ys[j] ≤ (ys[j - 1]'(by omega))) = true := decide_eq_true h3
                have d3' : decide ((ys[j - 1]'(by omega)) ≥ ys[j]) = true := decide_eq_true h3
                have HT := Lib.hid (show joinAt xs.length ys j = false by rw [HTA.out, HJ.out, decide_eq_false_iff_not]; omega)
                clear hc h1 h2 h3
                go_wp2
                go_ret
                exact ⟨ret_bool (by rw [nearB, joinTo_false hlt HT.out, Bool.and_false]), below_dr hb (by first | with_reducible assumption | with_reducible exact hd | with_reducible exact Dr.drewN hd _ | with_reducible exact Dr.drewN (Dr.drewN hd _) _ | with_reducible exact Dr.drew hd)⟩
              · have d3 : decide (ys[j] ≤ (ys[j - 1]'(by omega))) = false := decide_eq_false h3
                have d3' : decide ((ys[j - 1]'(by omega)) ≥ ys[j]) = false := decide_eq_false h3
                have HT := Lib.hid (show joinTo xs.length ys (j + 1) = true by rw [joinTo_succ, HA.out, HTA.out, HJ.out, Bool.true_and, decide_eq_true_eq]; omega)
                clear hc h1 h2 h3
                go_wp2
                go_roundw
                case rel => exact ⟨j + 1, by omega, by go_num, HT.out, (by first | with_reducible assumption | with_reducible exact hd | with_reducible exact Dr.drewN hd _ | with_reducible exact Dr.drewN (Dr.drewN hd _) _ | with_reducible exact Dr.drew hd)⟩
                case measure => simp [intOf]; omega
      · have HE := Lib.hid (show joinTo xs.length ys ys.length = true by rw [show ys.length = j by omega]; exact HA.out)
        go_wp2
        go_ret
        exact ⟨ret_bool (by rw [nearB, HP.out, HE.out]; rfl), below_dr hb (by first | with_reducible assumption | with_reducible exact hd | with_reducible exact Dr.drewN hd _ | with_reducible exact Dr.drewN (Dr.drewN hd _) _ | with_reducible exact Dr.drew hd)⟩
  · have hpf : permB xs = false := by simpa using hp
    have HG := Lib.hid (show nearB xs ys = false by rw [nearB, hpf, Bool.false_and])
    go_enter Try.func77, Try.ntmps77
    have hb0 : Below w.heap.size w (w.alloc (Obj.cells #[Value.slice A xs.length c, Value.slice B ys.length k] 32)) := (Below.refl _ _).alloc (Nat.le_refl _) _
    go_wp2_with fail
    (with_reducible refine (isPerm_impl A c xs _ (h.1.next hb0)).mono ?_)
    rintro e w1 ⟨rfl, hb1⟩
    rw [hpf]
    go_wp2
    go_ret
    exact ⟨ret_bool HG.out.symm, hb0.trans (hb1.mono hb0.size)⟩
set_option maxHeartbeats 1000000 in
theorem near_spec (A B : Option Addr) (c k : Nat) (xs ys : List Int) (w : World) (h : InN w A c xs B k ys) :
    Calls Try.prog 79 #[.agg #[.slice A xs.length c, .slice B ys.length k]] w (Rb w (.bool (nearB xs ys))) := by
  have hlx := h.1.len
  have hly := h.2.len
  go_enter Try.func79, Try.ntmps79
  have hb : Below w.heap.size w (w.alloc (Obj.cells #[Value.slice A xs.length c, Value.slice B ys.length k] 32)) := (Below.refl _ _).alloc (Nat.le_refl _) _
  have f0 : (w.alloc (Obj.cells #[Value.slice A xs.length c, Value.slice B ys.length k] 32)).cell? ⟨w.heap.size, 0, none⟩ = some (Value.slice A xs.length c) := by simp
  have f1 : (w.alloc (Obj.cells #[Value.slice A xs.length c, Value.slice B ys.length k] 32)).cell? ⟨w.heap.size, 1, none⟩ = some (Value.slice B ys.length k) := by simp
  go_wp2_with fail
  generalize hw1 : (w.alloc (Obj.cells #[Value.slice A xs.length c, Value.slice B ys.length k] 32)) = w1 at hb f0 f1 ⊢
  have hi := h.next hb
  have hy := hi.2.rd
  go_loopw [3] (fun i wr => ∃ j : Nat, j ≤ ys.length ∧ i = .int .i64 j ∧ joinTo xs.length ys j = true ∧ Dr w1 wr) (fun i _ => ys.length - (intOf i).toNat)
  case atStart => exact ⟨0, Nat.zero_le _, rfl, rfl, Dr.refl _⟩
  case round =>
    obtain ⟨j, hj, rfl, hall, hd⟩ := hrel
    have HA := Lib.hid hall
    clear hall
    have g0 : wr.cell? ⟨w.heap.size, 0, none⟩ = some (Value.slice A xs.length c) := (hd.cell _).trans f0
    have g1 : wr.cell? ⟨w.heap.size, 1, none⟩ = some (Value.slice B ys.length k) := (hd.cell _).trans f1
    by_cases hlt : j < ys.length
    · obtain ⟨b, off, rfl, _, hc⟩ := hy (by omega)
      have c1 : wr.cell? ⟨b, off + j, none⟩ = some (.int .i64 ys[j]) := (hd.cell _).trans (hc j hlt)
      have HTA := Lib.hid (show joinAt xs.length ys j = decide (1 ≤ ys[j] ∧ ys[j] < (xs.length : Int) ∧ (j = 0 ∨ ys[j - 1]?.getD 0 < ys[j])) by unfold joinAt; rw [List.getElem?_eq_getElem hlt]; rfl)
      have e0 : IntKind.i64.wrap ((xs.length : Int) - 1) = (xs.length : Int) - 1 := IntWalk.i64_in _ (by omega)
      by_cases h1 : 1 ≤ ys[j] ∧ ys[j] ≤ (xs.length : Int) - 1
      · have d1 : decide (1 ≤ ys[j] ∧ ys[j] ≤ (xs.length : Int) - 1) = true := decide_eq_true h1
        rcases Nat.eq_zero_or_pos j with h0 | h0
        · subst h0
          have HT := Lib.hid (show joinTo xs.length ys (0 + 1) = true by rw [joinTo_succ, HA.out, HTA.out, Bool.true_and, decide_eq_true_eq]; omega)
          have c1' : wr.cell? ⟨b, off, none⟩ = some (.int .i64 ys[0]) := c1
          clear hc h1
          go_wp2
          go_quiet ((go_at_call 87; exact quiet_eq (l1In_b _ _ _ _ true d1)))
          go_wp2
          go_roundw
          case rel => exact ⟨1, by omega, rfl, HT.out, (by first | with_reducible assumption | with_reducible exact hd | with_reducible exact Dr.drewN hd _ | with_reducible exact Dr.drewN (Dr.drewN hd _) _ | with_reducible exact Dr.drew hd)⟩
          case measure => simp [intOf]; omega
        · have c2 : wr.cell? ⟨b, off + (j - 1), none⟩ = some (.int .i64 (ys[j - 1]'(by omega))) := (hd.cell _).trans (hc (j - 1) (by omega))
          have e1 : IntKind.i64.wrap ((j : Int) - 1) = (j : Int) - 1 := IntWalk.i64_in _ (by omega)
          have e2 : ((j : Int) - 1).toNat = j - 1 := by omega
          have e3 : 0 ≤ (j : Int) - 1 := by omega
          have e4 : (j : Int) - 1 < (ys.length : Int) := by omega
          have e5 : 1 ≤ (j : Int) := by omega
          have e6 : (j : Int) ≤ (ys.length : Int) := by omega
          have d0 : decide ((j : Int) > 0) = true := decide_eq_true (by omega)
          have d0' : decide (0 < (j : Int)) = true := decide_eq_true (by omega)
          have HJ := Lib.hid (show ys[j - 1]?.getD 0 = ys[j - 1]'(by omega) by rw [List.getElem?_eq_getElem (by omega)]; rfl)
          by_cases h3 : ys[j] ≤ (ys[j - 1]'(by omega))
          · have d3 : decide (ys[j] ≤ (ys[j - 1]'(by omega))) = true := decide_eq_true h3
            have HT := Lib.hid (show joinAt xs.length ys j = false by rw [HTA.out, HJ.out, decide_eq_false_iff_not]; omega)
            clear hc h1 h3
            go_wp2
            go_quiet ((go_at_call 87; exact quiet_eq (l1In_b _ _ _ _ true d1)))
            go_wp2
            go_ret
            exact ⟨ret_bool (by rw [nearB, joinTo_false hlt HT.out, Bool.and_false]), below_dr hb (by first | with_reducible assumption | with_reducible exact hd | with_reducible exact Dr.drewN hd _ | with_reducible exact Dr.drewN (Dr.drewN hd _) _ | with_reducible exact Dr.drew hd)⟩
          · have d3 : decide (ys[j] ≤ (ys[j - 1]'(by omega))) = false := decide_eq_false h3
            have HT := Lib.hid (show joinTo xs.length ys (j + 1) = true by rw [joinTo_succ, HA.out, HTA.out, HJ.out, Bool.true_and, decide_eq_true_eq]; omega)
            clear hc h1 h3
            go_wp2
            go_quiet ((go_at_call 87; exact quiet_eq (l1In_b _ _ _ _ true d1)))
            go_wp2
            go_roundw
            case rel => exact ⟨j + 1, by omega, by go_num, HT.out, (by first | with_reducible assumption | with_reducible exact hd | with_reducible exact Dr.drewN hd _ | with_reducible exact Dr.drewN (Dr.drewN hd _) _ | with_reducible exact Dr.drew hd)⟩
            case measure => simp [intOf]; omega
      · have d1 : decide (1 ≤ ys[j] ∧ ys[j] ≤ (xs.length : Int) - 1) = false := decide_eq_false h1
        have HT := Lib.hid (show joinAt xs.length ys j = false by rw [HTA.out, decide_eq_false_iff_not]; omega)
        clear hc h1
        go_wp2
        go_quiet ((go_at_call 87; exact quiet_eq (l1In_b _ _ _ _ false d1)))
        go_wp2
        go_ret
        exact ⟨ret_bool (by rw [nearB, joinTo_false hlt HT.out, Bool.and_false]), below_dr hb (by first | with_reducible assumption | with_reducible exact hd | with_reducible exact Dr.drewN hd _ | with_reducible exact Dr.drewN (Dr.drewN hd _) _ | with_reducible exact Dr.drew hd)⟩
    · have HE := Lib.hid (show joinTo xs.length ys ys.length = true by rw [show ys.length = j by omega]; exact HA.out)
      have hbr := below_dr hb hd
      have hir := h.next hbr
      go_wp2_with fail
      (with_reducible refine (isPerm_spec A c xs _ hir.1).mono ?_)
      rintro e w2 ⟨rfl, hb2⟩
      go_wp2
      go_ret
      exact ⟨ret_bool (by rw [nearB, HE.out, Bool.and_true]), below_dr hbr hb2⟩
end Go.Proofs.Ythipikllgpnlhaa
