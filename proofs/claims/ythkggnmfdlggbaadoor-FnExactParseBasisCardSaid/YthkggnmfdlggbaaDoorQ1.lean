/- Contracts of small list functions of Go's library and of the reference: Equal, l2Same, Clone, Index, Contains, identity, the patterns. -/
import Derived.Test.YthkggnmfdlggbaaDoorP2b
namespace Go.Proofs.YthkggnmfdlggbaaDoor
set_option maxRecDepth 100000
open Go Go.RowKit

/-! append of a list that is read, nil or not, onto a row of the call's own (after the guide's page of words) -/
section
variable {P : Program} (w : World)
theorem run_append_of_nil (base : Nat) (t ty e : TypeId) (i : TypeInfo) (ht : P.underlying t = some (.slice e)) (hi : P.info? e = some i)
    (v : Value) (n : Nat) (xs : List Value) (hown : w.ownsRow base e 1 v n xs) (c : Nat) : (Builtin.append_ #[t, t] ty #[v, .slice none 0 c]).run P w = .ok v w := by
  rcases hown.2 with ⟨rfl, rfl⟩ | ⟨g, cap, cur, rfl, _, _, hnc, _⟩
  · simp [Builtin.append_, run_underlying ht, sizeOf, typeInfo, hi, Builtin.lenOf, Builtin.firstCells]
  · simp [Builtin.append_, run_underlying ht, sizeOf, typeInfo, hi, Builtin.lenOf, Builtin.firstCells, hnc, storeCells]
theorem run_append_rd {α : Type} {f : α → Value} (base : Nat) (t ty e : TypeId) (i : TypeInfo) (z : Value) (bytes : Nat) (ht : P.underlying t = some (.slice e)) (hi : P.info? e = some i) (hz : i.zero = some z)
    (hsize : i.size = 1) (hby : i.bytes = bytes) (hzs : z.cells.size = 1)
    (v : Value) (n : Nat) (xs : List Value) (hown : w.ownsRow base e 1 v n xs)
    (B : Nat) (A : Option Addr) (c m : Nat) (ys : List α) (hm : ys.length = m) (hr : Rd f w B A ys) (h1 : ∀ y, (f y).oneCell' = true)
    (h63 : n + m ≤ maxLen) (hbytes : (n + m) * bytes ≤ 140737488355328) (hbase : base ≤ w.heap.size) :
    ∃ v' w', (Builtin.append_ #[t, t] ty #[v, .slice A m c]).run P w = .ok v' w' ∧ w'.ownsRow base e 1 v' (n + m) (xs ++ ys.map f) ∧ w.grownBy w' v.ownBlock := by
  subst hm
  rcases Nat.eq_zero_or_pos ys.length with h0 | h0
  · have hy : ys = [] := List.eq_nil_of_length_eq_zero h0
    subst hy
    cases A with
    | none => exact ⟨v, w, run_append_of_nil w base t ty e i ht hi v n xs hown c, by simpa using hown, World.grownBy.refl w _⟩
    | some ad =>
      obtain ⟨v', w', hrun, h2, h3, _⟩ := run_append_own (P := P) w base t ty e i z 1 bytes ht hi hz hsize hby hzs (by omega) v n xs hown ad 0 c [] rfl (by intro j u h; simp at h) (by simp) (by simpa using h63) (by simpa using hbytes) hbase
      exact ⟨v', w', hrun, by simpa using h2, h3⟩
  · obtain ⟨b, off, rfl, _, hc⟩ := hr h0
    obtain ⟨v', w', hrun, h2, h3, _⟩ := run_append_own (P := P) w base t ty e i z 1 bytes ht hi hz hsize hby hzs (by omega) v n xs hown ⟨b, off, none⟩ ys.length c (ys.map f) (by simp) (fun j u hu => by
      rw [List.getElem?_map] at hu
      obtain ⟨y, hy, rfl⟩ := Option.map_eq_some_iff.1 hu
      obtain ⟨hj, rfl⟩ := List.getElem?_eq_some_iff.1 hy
      rw [Addr.add_lit]
      exact hc j hj) (by intro u hu; obtain ⟨y, _, rfl⟩ := List.mem_map.1 hu; exact h1 y) h63 hbytes hbase
    exact ⟨v', w', hrun, h2, h3⟩
theorem wpList_append_rd {α : Type} {f : α → Value} {ops : Array Oper} {rest : List Oper} {o : Oper} {a : Act} {Q : Exit → Act → World → Prop} (hgd : o.guard = none) (s x : Operand) (t : TypeId)
    (ho : o.op = .call { callee := .builtin .append, args := #[s, x], argTypes := #[t, t] })
    (base : Nat) (e : TypeId) (i : TypeInfo) (z : Value) (bytes : Nat) (ht : P.underlying t = some (.slice e)) (hi : P.info? e = some i) (hz : i.zero = some z)
    (hsize : i.size = 1) (hby : i.bytes = bytes) (hzs : z.cells.size = 1)
    (v : Value) (n : Nat) (xs : List Value) (hs : a.eval s = v) (hown : w.ownsRow base e 1 v n xs)
    (B : Nat) (A : Option Addr) (c m : Nat) (ys : List α) (hx : a.eval x = .slice A m c) (hm : ys.length = m) (hr : Rd f w B A ys) (h1 : ∀ y, (f y).oneCell' = true)
    (h63 : n + m ≤ maxLen) (hbytes : (n + m) * bytes ≤ 140737488355328) (hbase : base ≤ w.heap.size)
    (h : ∀ v' w', w'.ownsRow base e 1 v' (n + m) (xs ++ ys.map f) → w.grownBy w' v.ownBlock → wpList P ops Q rest (a.put o.dst v') w') : wpList P ops Q (o :: rest) a w := by
  refine wpList_plain hgd fun K hK => ?_
  obtain ⟨v', w', hr2, h2, h3⟩ := run_append_rd (P := P) w base t o.type e i z bytes ht hi hz hsize hby hzs v n xs hown B A c m ys hm hr h1 h63 hbytes hbase
  unfold Oper.wp execOp
  simp only [ho, resolve, invoke, builtin, Sem.run_bind, Sem.run_pure, Result.andThen_ok, List.map_toArray, List.map_cons, List.map_nil, hs, hx, hr2]
  exact hK _ _ (h v' w' h2 h3)
end





set_option maxHeartbeats 400000 in
theorem clone_any (A : Option Addr) (c : Nat) (xs : List Int) (w : World) (h : In w A c xs) :
    Calls Tryd.prog 35 #[.slice A xs.length c] w (Ret (Value.int .i64) 3 w xs) := by
  obtain ⟨i0, hi, hz0, hz1, hz2⟩ := info_parts infoI
  obtain ⟨hl, hcap, hx⟩ := h
  have hnil := fun (w : World) (a : Option Addr) (l c : Nat) => Lib.run_eql_slice_nil (P := Tryd.prog) w 30 3 a l c 0 0 Tryd.underlying30
  cases A with
  | none =>
    have hx0 : xs = [] := by
      rcases Nat.eq_zero_or_pos xs.length with h0 | h0
      · exact List.eq_nil_of_length_eq_zero h0
      · obtain ⟨b, off, he, _⟩ := hx h0
        cases he
    subst hx0
    go_enter Tryd.func35, Tryd.ntmps35
    go_wp2
    go_ret
    exact ⟨none, 0, rfl, Nat.le_refl _, Nat.zero_le _, World.ownsRow_nil _ _ _ _, Below.refl _ _⟩
  | some ad =>
    have hown0 : (w.alloc (.cells #[] 3)).ownsRow w.heap.size 3 1 (.slice (some ⟨w.heap.size, 0, none⟩) 0 0) 0 [] := World.ownsRow_lit w #[] 0 (Nat.le_refl _) (by unfold maxLen; omega) rfl
    have hb0 := (Below.refl w.heap.size w).alloc (Nat.le_refl _) (.cells #[] 3)
    have hx0 := hx.alloc (Nat.le_refl _) (.cells #[] 3)
    go_enter Tryd.func35, Tryd.ntmps35
    go_wp2_with (at_builtin; refine wpList_append_rd _ rfl _ _ 30 rfl (w.heap.size) 3 i0 (.int .i64 0) 8 Tryd.underlying30 hi hz0 hz1 hz2 rfl _ _ _ rfl hown0 _ _ _ _ (xs) rfl rfl hx0 (fun _ => rfl) (by unfold maxLen; omega) (by omega) (by first | omega | (simp; done) | (simp; omega)) ?_; intro v1 w1 hown1 hgrow1)
    have hb1 := hb0.grown hgrow1 (by simp) (by intro g hg; exact (hown0.lt g hg).1)
    simp only [Nat.zero_add, List.nil_append] at hown1
    obtain ⟨A1, c1, rfl, q1, q2⟩ := own_shape hown1
    go_wp2
    go_ret
    exact ⟨A1, c1, rfl, q1, q2, hown1, hb1⟩




/-- The pattern of a list: each element's place among all. -/
def belowN (xs : List Int) (x : Int) : Nat := (xs.filter fun y => decide (y < x)).length
def patL (xs : List Int) : List Int := xs.map fun x => (belowN xs x : Int) + 1
theorem patL_length (xs : List Int) : (patL xs).length = xs.length := by simp [patL]
theorem belowN_le (xs : List Int) (x : Int) : belowN xs x ≤ xs.length := List.length_filter_le _ _
theorem belowN_snoc (xs : List Int) (x : Int) (k : Nat) (h : k < xs.length) : belowN (xs.take (k + 1)) x = belowN (xs.take k) x + (if xs[k] < x then 1 else 0) := by
  unfold belowN
  rw [List.take_succ_eq_append_getElem h, List.filter_append, List.length_append]
  congr 1
  by_cases hp : xs[k] < x <;> simp [hp]




end Go.Proofs.YthkggnmfdlggbaaDoor