/- Contracts of small list functions of Go's library and of the reference: Equal, l2Same, Clone, Index, Contains, identity, the patterns. -/
import Derived.Test.YtodokdddcikhdaaDoorP2b
namespace Go.Proofs.YtodokdddcikhdaaDoor
set_option maxRecDepth 100000
open Go Go.RowKit

/-! append of a list that is read, nil or not, onto a row of the call's own (after the guide's page of words) -/
section
variable {P : Program} (w : World)
theorem run_append_of_nil (base : Nat) (t ty e : TypeId) (i : TypeInfo) (ht : P.underlying t = some (.slice e)) (hi : P.info? e = some i)
    (v : Value) (n : Nat) (xs : List Value) (hown : w.ownsRow base e 1 v n xs) (c : Nat) : (Builtin.append_ #[t, t] ty #[v, .slice none 0 c]).run P w = .ok v w := by
  rcases hown.2 with ⟨rfl, rfl⟩ | ⟨g, cap, cur, rfl, _, _, hnc, _⟩
  · simp [Builtin.append_, run_underlying ht, sizeOf, typeInfo, hi, Builtin.lenOf, Builtin.firstCells]
  · simp [Builtin.append_, run_underlying ht, sizeOf, typeInfo, hi, Builtin.lenOf, Builtin.firstCells, hnc, storeCells]
theorem run_append_rd {α : Type} {f : α → Value} (base : Nat) (t ty e : TypeId) (i : TypeInfo) (z : Value) (bytes : Nat) (ht : P.underlying t = some (.slice e)) (hi : P.info? e = some i) (hz : i.zero = some z)
    (hsize : i.size = 1) (hby : i.bytes = bytes) (hzs : z.cells.size = 1)
    (v : Value) (n : Nat) (xs : List Value) (hown : w.ownsRow base e 1 v n xs)
    (B : Nat) (A : Option Addr) (c m : Nat) (ys : List α) (hm : ys.length = m) (hr : Rd f w B A ys) (h1 : ∀ y, (f y).oneCell' = true)
    (h63 : n + m ≤ maxLen) (hbytes : (n + m) * bytes ≤ 140737488355328) (hbase : base ≤ w.heap.size) :
    ∃ v' w', (Builtin.append_ #[t, t] ty #[v, .slice A m c]).run P w = .ok v' w' ∧ w'.ownsRow base e 1 v' (n + m) (xs ++ ys.map f) ∧ w.grownBy w' v.ownBlock := by
  subst hm
  rcases Nat.eq_zero_or_pos ys.length with h0 | h0
  · have hy : ys = [] := List.eq_nil_of_length_eq_zero h0
    subst hy
    cases A with
    | none => exact ⟨v, w, run_append_of_nil w base t ty e i ht hi v n xs hown c, by simpa using hown, World.grownBy.refl w _⟩
    | some ad =>
      obtain ⟨v', w', hrun, h2, h3, _⟩ := run_append_own (P := P) w base t ty e i z 1 bytes ht hi hz hsize hby hzs (by omega) v n xs hown ad 0 c [] rfl (by intro j u h; simp at h) (by simp) (by simpa using h63) (by simpa using hbytes) hbase
      exact ⟨v', w', hrun, by simpa using h2, h3⟩
  · obtain ⟨b, off, rfl, _, hc⟩ := hr h0
    obtain ⟨v', w', hrun, h2, h3, _⟩ := run_append_own (P := P) w base t ty e i z 1 bytes ht hi hz hsize hby hzs (by omega) v n xs hown ⟨b, off, none⟩ ys.length c (ys.map f) (by simp) (fun j u hu => by
      rw [List.getElem?_map] at hu
      obtain ⟨y, hy, rfl⟩ := Option.map_eq_some_iff.1 hu
      obtain ⟨hj, rfl⟩ := List.getElem?_eq_some_iff.1 hy
      rw [Addr.add_lit]
      exact hc j hj) (by intro u hu; obtain ⟨y, _, rfl⟩ := List.mem_map.1 hu; exact h1 y) h63 hbytes hbase
    exact ⟨v', w', hrun, h2, h3⟩
theorem wpList_append_rd {α : Type} {f : α → Value} {ops : Array Oper} {rest : List Oper} {o : Oper} {a : Act} {Q : Exit → Act → World → Prop} (hgd : o.guard = none) (s x : Operand) (t : TypeId)
    (ho : o.op = .call { callee := .builtin .append, args := #[s, x], argTypes := #[t, t] })
    (base : Nat) (e : TypeId) (i : TypeInfo) (z : Value) (bytes : Nat) (ht : P.underlying t = some (.slice e)) (hi : P.info? e = some i) (hz : i.zero = some z)
    (hsize : i.size = 1) (hby : i.bytes = bytes) (hzs : z.cells.size = 1)
    (v : Value) (n : Nat) (xs : List Value) (hs : a.eval s = v) (hown : w.ownsRow base e 1 v n xs)
    (B : Nat) (A : Option Addr) (c m : Nat) (ys : List α) (hx : a.eval x = .slice A m c) (hm : ys.length = m) (hr : Rd f w B A ys) (h1 : ∀ y, (f y).oneCell' = true)
    (h63 : n + m ≤ maxLen) (hbytes : (n + m) * bytes ≤ 140737488355328) (hbase : base ≤ w.heap.size)
    (h : ∀ v' w', w'.ownsRow base e 1 v' (n + m) (xs ++ ys.map f) → w.grownBy w' v.ownBlock → wpList P ops Q rest (a.put o.dst v') w') : wpList P ops Q (o :: rest) a w := by
  refine wpList_plain hgd fun K hK => ?_
  obtain ⟨v', w', hr2, h2, h3⟩ := run_append_rd (P := P) w base t o.type e i z bytes ht hi hz hsize hby hzs v n xs hown B A c m ys hm hr h1 h63 hbytes hbase
  unfold Oper.wp execOp
  simp only [ho, resolve, invoke, builtin, Sem.run_bind, Sem.run_pure, Result.andThen_ok, List.map_toArray, List.map_cons, List.map_nil, hs, hx, hr2]
  exact hK _ _ (h v' w' h2 h3)
end






def idxL (xs : List Int) (x : Int) : Int := if x ∈ xs then (xs.idxOf x : Int) else -1
set_option maxHeartbeats 400000 in
theorem index_any (A : Option Addr) (c n : Nat) (xs : List Int) (x : Int) (w : World) (hn : xs.length = n) (hl : n ≤ 4611686018427387904) (hx : Rd (Value.int .i64) w w.heap.size A xs) :
    Calls Tryd.prog 34 #[.slice A n c, .int .i64 x] w fun e w' => e = .returned (.int .i64 (idxL xs x)) ∧ w = w' := by
  subst hn
  go_enter Tryd.func34, Tryd.ntmps34
  go_wp2
  go_loop [8] (fun i => ∃ k : Nat, k ≤ xs.length ∧ i = .int .i64 k ∧ x ∉ xs.take k) (fun i => xs.length - (intOf i).toNat)
  case atStart => exact ⟨0, Nat.zero_le _, rfl, by simp⟩
  case round =>
    obtain ⟨k, hk, rfl, hno⟩ := hrel
    have HN := Lib.hid hno
    clear hno
    rcases Nat.lt_or_ge k xs.length with hlt | hge
    · obtain ⟨b, off, rfl, _, hc⟩ := hx (by omega)
      have c1 := hc k hlt
      clear hc
      by_cases he : x = xs[k]
      · have hd : (x == xs[k]) = true := by simp [he]
        have HI := Lib.hid (show idxL xs x = k by
          have hm : x ∈ xs := by rw [he]; exact List.getElem_mem hlt
          have h1 : xs = xs.take k ++ (x :: xs.drop (k + 1)) := by rw [he, ← List.drop_eq_getElem_cons hlt, List.take_append_drop]
          rw [idxL, if_pos hm]
          conv => lhs; rw [h1]
          rw [List.idxOf_append, if_neg HN.out, List.idxOf_cons_self]
          simp; omega)
        clear he
        go_wp2
        go_ret
        exact ⟨ret_int HI.out.symm, rfl⟩
      · have hd : (x == xs[k]) = false := by simp [he]
        have HE := Lib.hid he
        clear he
        go_wp2
        go_round
        case rel => exact ⟨k + 1, by omega, by go_num, by rw [List.take_succ_eq_append_getElem hlt]; intro hm; rcases List.mem_append.1 hm with h | h; exact HN.out h; exact HE.out (List.mem_singleton.1 h)⟩
        case measure => simp [intOf]; omega
    · have HI := Lib.hid (show idxL xs x = -1 by rw [idxL, if_neg]; have := HN.out; rwa [List.take_of_length_le hge] at this)
      go_wp2
      go_ret
      exact ⟨ret_int HI.out.symm, rfl⟩

theorem contains_any (A : Option Addr) (c n : Nat) (xs : List Int) (x : Int) (w : World) (hn : xs.length = n) (hl : n ≤ 4611686018427387904) (hx : Rd (Value.int .i64) w w.heap.size A xs) :
    Calls Tryd.prog 25 #[.slice A n c, .int .i64 x] w fun e w' => e = .returned (.bool (decide (x ∈ xs))) ∧ w = w' := by
  have HI := Lib.hid (show (idxL xs x ≥ 0) ↔ x ∈ xs by unfold idxL; split <;> simp_all)
  go_enter Tryd.func25, Tryd.ntmps25
  go_wp2_with fail
  refine (index_any _ _ _ _ _ _ hn hl hx).mono ?_
  rintro e w' ⟨rfl, rfl⟩
  go_wp2_with fail
  go_ret
  exact ⟨ret_bool (by rw [decide_eq_decide]; exact HI.out), rfl⟩


/-- The pattern of a list: each element's place among all. -/
def belowN (xs : List Int) (x : Int) : Nat := (xs.filter fun y => decide (y < x)).length
def patL (xs : List Int) : List Int := xs.map fun x => (belowN xs x : Int) + 1
theorem patL_length (xs : List Int) : (patL xs).length = xs.length := by simp [patL]
theorem belowN_le (xs : List Int) (x : Int) : belowN xs x ≤ xs.length := List.length_filter_le _ _
theorem belowN_snoc (xs : List Int) (x : Int) (k : Nat) (h : k < xs.length) : belowN (xs.take (k + 1)) x = belowN (xs.take k) x + (if xs[k] < x then 1 else 0) := by
  unfold belowN
  rw [List.take_succ_eq_append_getElem h, List.filter_append, List.length_append]
  congr 1
  by_cases hp : xs[k] < x <;> simp [hp]




end Go.Proofs.YtodokdddcikhdaaDoor