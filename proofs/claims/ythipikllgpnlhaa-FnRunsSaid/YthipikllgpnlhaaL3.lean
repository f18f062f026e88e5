/- Lists of rows that a call makes and lets grow. -/
import Derived.Test.YthipikllgpnlhaaL1
import Derived.Maps.AppendAt
namespace Go.Proofs.Ythipikllgpnlhaa
set_option maxRecDepth 100000
open Go Go.RowKit

/-- append onto a row of the call's own, at an operation whose guard is met. -/
theorem wpList_append_own_g {P : Program} (w : World) {ops : Array Oper} {rest : List Oper} {o : Oper} {a : Act} {Q : Exit → Act → World → Prop} (hgd : Region.wanted o (yielded ops a.tmps) = true) (s x : Operand) (t : TypeId)
    (ho : o.op = .call { callee := .builtin .append, args := #[s, x], argTypes := #[t, t] })
    (base : Nat) (e : TypeId) (i : TypeInfo) (z : Value) (size bytes : Nat) (ht : P.underlying t = some (.slice e)) (hi : P.info? e = some i) (hz : i.zero = some z)
    (hsize : i.size = size) (hby : i.bytes = bytes) (hzs : z.cells.size = size) (hsz : 0 < size)
    (v : Value) (n : Nat) (xs : List Value) (hs : a.eval s = v) (hown : w.ownsRow base e size v n xs)
    (ad : Addr) (m c : Nat) (news : List Value) (hx : a.eval x = .slice (some ad) m c) (hl : news.length = m * size) (hnews : ∀ j u, news[j]? = some u → w.cell? (ad.add j) = some u) (h1 : ∀ u ∈ news, u.oneCell' = true)
    (h63 : n + m ≤ maxLen) (hbytes : (n + m) * bytes ≤ 140737488355328) (hbase : base ≤ w.heap.size)
    (h : ∀ v' w', w'.ownsRow base e size v' (n + m) (xs ++ news) → w.grownBy w' v.ownBlock → (v' = .slice none 0 0 ↔ v = .slice none 0 0 ∧ m = 0) → wpList P ops Q rest (a.put o.dst v') w') : wpList P ops Q (o :: rest) a w := by
  show if Region.wanted o (yielded ops a.tmps) = true then _ else _
  rw [if_pos hgd]
  exact Or.inl (wp_append_own w s x t ho base e i z size bytes ht hi hz hsize hby hzs hsz v n xs hs hown ad m c news hx hl hnews h1 h63 hbytes hbase h)
theorem cell_one_at {w : World} {H : Nat} (v : Value) (t : TypeId) (h : w.heap.size = H) : ∀ (j : Nat) (u : Value), [v][j]? = some u → (w.alloc (.cells #[v] t)).cell? ((⟨H, 0, none⟩ : Addr).add j) = some u := by
  subst h
  exact cell_one_new w v t

/-- A call's result of two: a slice of the call's own, and a bool. -/
def Ret2 {α : Type} (f : α → Value) (e : TypeId) (w : World) (ys : List α) (b : Bool) (en : Ending) (w' : World) : Prop :=
  ∃ A c, en = .returned (.tuple #[.slice A ys.length c, .bool b]) ∧ ys.length ≤ c ∧ c ≤ maxLen ∧ w'.ownsRow w.heap.size e 1 (.slice A ys.length c) ys.length (ys.map f) ∧ Below w.heap.size w w'
/-- A call's result: a list of rows of its own. -/
def RetL (w : World) (L : List (List Int)) (e : Ending) (w' : World) : Prop :=
  ∃ A c rs, e = .returned (.slice A rs.length c) ∧ rs.map Row.xs = L ∧ Own w' w.heap.size w'.heap.size rs [⟨A, c, rs.map Row.v⟩] ∧ Below w.heap.size w w'

section
variable {w w' : World} {lo hi m : Nat} {rs rs' : List Row} {os os' : List Outer}
theorem Own.perm (h : Own w lo hi rs os) (hp : rs.Perm rs') : Own w lo hi rs' os :=
  ⟨fun r hr => h.rows r (hp.mem_iff.2 hr), fun r hr => h.lt r (hp.mem_iff.2 hr), hp.pairwise h.apart (fun {a b} hab => by
    rcases ha : a.v.ownBlock with _ | g
    · rcases hb : b.v.ownBlock with _ | g'
      · exact .inl rfl
      · exact .inr (by simp)
    · rcases hab with e | e
      · rw [ha] at e; cases e
      · exact .inr fun e' => e (by rw [ha, e'])), h.outs, h.olt⟩
theorem Own.sub (h : Own w lo hi rs os) (hs : rs'.Sublist rs) : Own w lo hi rs' os :=
  ⟨fun r hr => h.rows r (hs.subset hr), fun r hr => h.lt r (hs.subset hr), h.apart.sublist hs, h.outs, h.olt⟩
/-- The outer slices put aside. -/
theorem Own.bare (h : Own w lo hi rs os) : Own w lo hi rs [] := ⟨h.rows, h.lt, h.apart, fun _ ho => (List.not_mem_nil ho).elim, fun _ ho => (List.not_mem_nil ho).elim⟩
theorem Own.with_ {A : Option Addr} {c : Nat} {vs : List Value} (h : Own w lo hi rs []) (ho : w.ownsRow lo 24 1 (.slice A vs.length c) vs.length vs) (hh : w.heap.size ≤ hi) : Own w lo hi rs [⟨A, c, vs⟩] := by
  refine ⟨h.rows, h.lt, h.apart, fun o hq => ?_, fun o hq g hg => ?_⟩
  · obtain rfl := List.mem_singleton.1 hq
    exact ho
  · obtain rfl := List.mem_singleton.1 hq
    have := (ho.lt g hg).2
    omega
theorem Own.out {A : Option Addr} {c : Nat} {vs : List Value} (h : Own w lo hi rs [⟨A, c, vs⟩]) : w.ownsRow lo 24 1 (.slice A vs.length c) vs.length vs := h.outs _ (List.mem_singleton.2 rfl)
theorem Own.outN {A : Option Addr} {c n : Nat} {vs : List Value} (h : Own w lo hi rs [⟨A, c, vs⟩]) (hn : vs.length = n) : w.ownsRow lo 24 1 (.slice A n c) n vs := by subst hn; exact h.out
theorem Own.nil_list (w : World) (lo hi : Nat) : Own w lo hi [] [⟨none, 0, []⟩] :=
  ⟨fun _ hr => (List.not_mem_nil hr).elim, fun _ hr => (List.not_mem_nil hr).elim, List.Pairwise.nil, fun o ho => by obtain rfl := List.mem_singleton.1 ho; exact ⟨rfl, .inl ⟨rfl, rfl⟩⟩, fun o ho g hg => by obtain rfl := List.mem_singleton.1 ho; cases hg⟩
/-- The empty list that a call lays down. -/
theorem Own.lit (w : World) (hl : lo ≤ w.heap.size) : Own (w.alloc (.cells #[] 24)) lo (w.alloc (.cells #[] 24)).heap.size [] [⟨some ⟨w.heap.size, 0, none⟩, 0, []⟩] :=
  Own.with_ Own.nil_ (World.ownsRow_lit w #[] 0 hl (by unfold maxLen; omega) rfl) (Nat.le_refl _)
/-- A row of the call's own, made behind all others. -/
theorem Own.add {r : Row} (h : Own w lo m rs os) (hr : w.ownsRow m 3 1 r.v r.xs.length (r.xs.map (Value.int .i64))) (hm : m ≤ w.heap.size) (hl : lo ≤ m) : Own w lo w.heap.size (rs ++ [r]) os := by
  have := h.app (m := m) (hi := w.heap.size) (rs' := [r]) (os' := []) (Own.one (A := r.A) (c := r.c) (xs := r.xs) hr (Nat.le_refl _)) hl hm
  simpa using this
/-- The outer slice grows by a cell; the rows stay. -/
theorem Own.grow {A : Option Addr} {c n : Nat} {u v1 : Value} {o : Obj} {vs : List Value} (h : Own w lo hi rs [⟨A, c, vs⟩]) (hh : hi ≤ w.heap.size) (hn : vs.length = n)
    (h1 : w'.ownsRow lo 24 1 v1 (n + 1) (vs ++ [u])) (hg : (w.alloc o).grownBy w' (Value.slice A n c).ownBlock) :
    ∃ A1 c1, v1 = .slice A1 (n + 1) c1 ∧ Own w' lo w'.heap.size rs [⟨A1, c1, vs ++ [u]⟩] ∧ w.grownBy w' (Value.slice A n c).ownBlock := by
  subst hn
  obtain ⟨A1, c1, rfl, _, _⟩ := own_shape h1
  have hsz : w.heap.size ≤ w'.heap.size := by have := hg.size; simp at this; omega
  have hb : Below w.heap.size w (w.alloc o) := (Below.refl _ _).alloc (Nat.le_refl _) _
  have h0 := h.below hb
  refine ⟨A1, c1, rfl, ?_, grown_trans (World.grownBy_alloc w o _) hg⟩
  have hk : Own w' lo w'.heap.size rs [] := ⟨fun r hr => (h0.rows r hr).kept hg (by
      rcases hv : r.v.ownBlock with _ | g
      · exact .inl rfl
      · exact .inr fun e => own_ne h hr (List.mem_singleton.2 rfl) g hv e.symm), fun r hr g hg => by have := h.lt r hr g hg; omega, h.apart, fun _ ho => (List.not_mem_nil ho).elim, fun _ ho => (List.not_mem_nil ho).elim⟩
  exact hk.with_ (by simpa using h1) (Nat.le_refl _)
theorem Own.olim {A : Option Addr} {c n : Nat} {vs : List Value} (h : Own w lo hi rs [⟨A, c, vs⟩]) (hn : vs.length = n) : ∀ g, (Value.slice A n c).ownBlock = some g → lo ≤ g ∧ g < hi := fun g hg => by
  subst hn
  exact ⟨((h.outs _ (List.mem_singleton.2 rfl)).lt g hg).1, h.olt _ (List.mem_singleton.2 rfl) g hg⟩
theorem Below.grownA {B : Nat} {w0 w w' : World} {row : Option Nat} (h : Below B w0 w) (hB : B ≤ w.heap.size) (hg : w.grownBy w' row) (hr : ∀ g, row = some g → B ≤ g) : Below B w0 w' := h.grown hg hB hr
end
end Go.Proofs.Ythipikllgpnlhaa
