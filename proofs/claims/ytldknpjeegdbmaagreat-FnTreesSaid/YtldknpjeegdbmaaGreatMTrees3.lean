/- Several texts in one, each with its own head: OL, SP, Q2, Q3, PB1, C3, T1, T2, H2, H1, H3, G1, G2, G4, G5, G7. No program of ours. -/
import Derived.Lib.SplitLaws
import Derived.Deep.RegionHeld3
import Derived.StillTailTactics
import Derived.Laws.BytesString
import Derived.Deep.DeepCutAuto
import Derived.Deep.CutRange
import Derived.Test.YtldknpjeegdbmaaGreatMTrees2
/- An outer slice of a call's own whose rows are only read, or are the call's own: it grows by append. -/
namespace Go.Proofs.YtldknpjeegdbmaaGreat
set_option maxRecDepth 100000
open Go Go.RowKit

/-- A row that lies below lo, or is owned. -/
def RowOk (w : World) (lo : Nat) (r : Row) : Prop := r.xs.length ≤ r.c ∧ (Rd (Value.int .i64) w lo r.A r.xs ∨ w.ownsRow lo 3 1 r.v r.xs.length (r.xs.map (Value.int .i64)))
structure OutL (w : World) (lo : Nat) (A : Option Addr) (c : Nat) (rs : List Row) : Prop where
  out : w.ownsRow lo 24 1 (.slice A rs.length c) rs.length (rs.map Row.v)
  rows : ∀ r ∈ rs, RowOk w lo r
theorem own_typesO {w : World} {b1 e1 n1 b2 e2 n2 : Nat} {v1 v2 : Value} {x1 x2 : List Value} (h1 : w.ownsRow b1 e1 1 v1 n1 x1) (h2 : w.ownsRow b2 e2 1 v2 n2 x2) (he : e1 ≠ e2) : v1.ownBlock = none ∨ v1.ownBlock ≠ v2.ownBlock := by
  rcases h1.2 with ⟨e, _⟩ | ⟨g1, c1, cur1, e1', _, hh1, _⟩
  · exact .inl (by rw [e]; rfl)
  · refine .inr fun h => ?_
    rcases h2.2 with ⟨e, _⟩ | ⟨g2, c2, cur2, e2', _, hh2, _⟩
    · rw [e, e1'] at h; cases h
    · rw [e1', e2'] at h
      injection h with h
      simp only at h
      subst h
      rw [hh1] at hh2
      injection hh2 with hh2
      injection hh2 with _ ht _
      exact he ht
section
variable {w w' : World} {lo : Nat} {A : Option Addr} {c : Nat} {rs : List Row} {r : Row}
theorem RowOk.in_ (h : RowOk w lo r) (hl : r.xs.length ≤ 1048576) (hlo : lo ≤ w.heap.size) : In w r.A r.c r.xs := ⟨hl, h.1, by
  rcases h.2 with h2 | h2
  · exact h2.more hlo
  · exact Rd.of_own (c := r.c) h2⟩
theorem RowOk.of_in {A : Option Addr} {c : Nat} {xs : List Int} (h : In w A c xs) (hlo : w.heap.size ≤ lo) : RowOk w lo ⟨A, c, xs⟩ := ⟨h.cap, .inl (h.rd.more hlo)⟩
theorem RowOk.below (h : RowOk w lo r) (hb : Below w.heap.size w w') (hlo : lo ≤ w.heap.size) : RowOk w' lo r := ⟨h.1, by
  rcases h.2 with h2 | h2
  · exact .inl (h2.below (hb.mono hlo))
  · exact .inr (own_below h2 hb)⟩
theorem RowOk.dr (h : RowOk w lo r) (hd : Dr w w') : RowOk w' lo r := ⟨h.1, h.2.imp (fun h => h.dr hd) fun h => hd.own h⟩
/-- A cell of another kind is written. -/
theorem RowOk.span {a b : Nat} (h : RowOk w lo r) (hs : Span a b w w') (ha : lo ≤ a) (hlo : lo ≤ w.heap.size) (hg : ∀ g, r.v.ownBlock = some g → g < a ∨ b ≤ g) : RowOk w' lo r := ⟨h.1, by
  rcases h.2 with h2 | h2
  · exact .inl (h2.below (hs.below ha hlo))
  · exact .inr (own_span h2 hs hg)⟩
theorem OutL.below (h : OutL w lo A c rs) (hb : Below w.heap.size w w') (hlo : lo ≤ w.heap.size) : OutL w' lo A c rs := ⟨own_below h.out hb, fun r hr => (h.rows r hr).below hb hlo⟩
theorem OutL.dr (h : OutL w lo A c rs) (hd : Dr w w') : OutL w' lo A c rs := ⟨hd.own h.out, fun r hr => (h.rows r hr).dr hd⟩
/-- A block that is no row of whole numbers and not the outer slice's is written. -/
theorem OutL.box {g i : Nat} {cs : Array Value} {t : TypeId} (h : OutL w lo A c rs) (hlo : lo ≤ g) (hls : lo ≤ w.heap.size) (ho : w.heap[g]? = some (Obj.cells cs t (0, 0))) (h1 : t ≠ 3) (h2 : t ≠ 24) (v : Value) : OutL (w.setCell ⟨g, i, none⟩ v) lo A c rs := by
  have hs : Span g (g + 1) w (w.setCell ⟨g, i, none⟩ v) := Span.set (p := ⟨g, i, none⟩) (Nat.le_refl _) (Nat.lt_succ_self _) _
  have key : ∀ {b e n : Nat} {u : Value} {xs : List Value}, w.ownsRow b e 1 u n xs → t ≠ e → ∀ q, u.ownBlock = some q → q < g ∨ g + 1 ≤ q := by
    intro b e n u xs ho2 hne q hq
    rcases ho2.2 with ⟨e1, _⟩ | ⟨g1, c1, cur1, e1', _, hh1, _⟩
    · rw [e1] at hq; cases hq
    · rw [e1'] at hq
      injection hq with hq
      have hq : g1 = q := hq
      subst hq
      by_cases hgq : g1 = g
      · subst hgq
        rw [ho] at hh1
        injection hh1 with hh1
        injection hh1 with _ ht _
        exact absurd ht hne
      · omega
  refine ⟨own_span h.out hs (key h.out h2), fun r hr => ?_⟩
  have hr := h.rows r hr
  refine ⟨hr.1, ?_⟩
  rcases hr.2 with h3 | h3
  · exact .inl (h3.below (hs.below hlo hls))
  · exact .inr (own_span h3 hs (key h3 h1))
theorem OutL.inL (h : OutL w lo A c rs) (hlo : lo ≤ w.heap.size) (hs : rs.length + sizeR rs ≤ 1048576) : InL w A c rs := by
  refine ⟨hs, ⟨fun r hr => (h.rows r hr).1, fun r hr => ((h.rows r hr).in_ (by have := sizeR_mem hr; omega) hlo).rd, fun o ho => ?_, fun o ho => ?_⟩⟩
  · obtain rfl := List.mem_singleton.1 ho
    have := (own_caps (A := A) (n := rs.length) (c := c) h.out).1
    simpa using this
  · obtain rfl := List.mem_singleton.1 ho
    exact Rd.of_own (f := id) (e := 24) (c := c) (by rw [List.map_id, List.length_map]; exact h.out)
/-- append of a row's header. -/
theorem OutL.push {o : Obj} {v1 : Value} {n : Nat} (h : OutL w lo A c rs) (hn : rs.length = n) (hlo : lo ≤ w.heap.size) (hr : RowOk w lo r)
    (h1 : w'.ownsRow lo 24 1 v1 (n + 1) (rs.map Row.v ++ [r.v])) (hg : (w.alloc o).grownBy w' (Value.slice A n c).ownBlock) :
    ∃ A1 c1, v1 = .slice A1 (n + 1) c1 ∧ OutL w' lo A1 c1 (rs ++ [r]) ∧ w.grownBy w' (Value.slice A n c).ownBlock ∧ w.heap.size < w'.heap.size := by
  subst hn
  obtain ⟨A1, c1, rfl, _, _⟩ := own_shape h1
  have hgg := grown_trans (World.grownBy_alloc w o _) hg
  have hsz : w.heap.size < w'.heap.size := by have := hg.size; simp at this; omega
  have key : ∀ s, RowOk w lo s → RowOk w' lo s := fun s hs => by
    refine ⟨hs.1, ?_⟩
    rcases hs.2 with h3 | h3
    · exact .inl (h3.grown hgg hlo fun g hgq => (h.out.lt g hgq).1)
    · exact .inr (h3.kept hgg (own_typesO h3 h.out (by decide)))
  refine ⟨A1, c1, rfl, ⟨by simpa using h1, fun s hs => ?_⟩, hgg, hsz⟩
  rcases List.mem_append.1 hs with hs | hs
  · exact key s (h.rows s hs)
  · obtain rfl := List.mem_singleton.1 hs
    exact key _ hr
/-- append of rows' headers. -/
theorem OutL.pushes {v1 : Value} {n m : Nat} {qs : List Row} (h : OutL w lo A c rs) (hn : rs.length = n) (hm : qs.length = m) (hlo : lo ≤ w.heap.size) (hr : ∀ r ∈ qs, RowOk w lo r)
    (h1 : w'.ownsRow lo 24 1 v1 (n + m) (rs.map Row.v ++ qs.map Row.v)) (hgg : w.grownBy w' (Value.slice A n c).ownBlock) :
    ∃ A1 c1, v1 = .slice A1 (n + m) c1 ∧ OutL w' lo A1 c1 (rs ++ qs) := by
  subst hn hm
  obtain ⟨A1, c1, rfl, _, _⟩ := own_shape h1
  have key : ∀ s, RowOk w lo s → RowOk w' lo s := fun s hs => by
    refine ⟨hs.1, ?_⟩
    rcases hs.2 with h3 | h3
    · exact .inl (h3.grown hgg hlo fun g hgq => (h.out.lt g hgq).1)
    · exact .inr (h3.kept hgg (own_typesO h3 h.out (by decide)))
  refine ⟨A1, c1, rfl, ⟨by simpa using h1, fun s hs => ?_⟩⟩
  rcases List.mem_append.1 hs with hs | hs
  · exact key s (h.rows s hs)
  · exact key s (hr s hs)
theorem OutL.nil (w : World) (lo : Nat) : OutL w lo none 0 [] := ⟨⟨rfl, .inl ⟨rfl, rfl⟩⟩, fun _ hr => (List.not_mem_nil hr).elim⟩
theorem OutL.lt (h : OutL w lo A c rs) {n : Nat} (hn : rs.length = n) : ∀ g, (Value.slice A n c).ownBlock = some g → lo ≤ g ∧ g < w.heap.size := fun g hg => by subst hn; exact h.out.lt g hg
end
/-- The row [x, y] that was laid down by a literal. -/
theorem RowOk.two {w : World} {lo bl : Nat} {x y : Int} (h : w.heap[bl]? = some (Obj.cells #[.int .i64 x, .int .i64 y] 3 (0, 0))) (hl : lo ≤ bl) : RowOk w lo ⟨some ⟨bl, 0, none⟩, 2, [x, y]⟩ := by
  exact ⟨Nat.le_refl _, .inr ⟨rfl, .inr ⟨bl, 2, #[.int .i64 x, .int .i64 y], rfl, hl, h, Nat.le_refl _, by unfold maxLen; omega, rfl, rfl⟩⟩⟩
end Go.Proofs.YtldknpjeegdbmaaGreat

/- Splitting at a byte: plain lists; ParseBasis's plain law. -/
namespace Go.Proofs.YtldknpjeegdbmaaGreat
set_option maxRecDepth 100000
open Go Go.RowKit

def splitL (c : UInt8) : List UInt8 → List (List UInt8)
  | [] => [[]]
  | b :: l => if b = c then [] :: splitL c l else match splitL c l with
    | h :: r => (b :: h) :: r
    | [] => [[b]]
theorem splitL_ne (c : UInt8) (l : List UInt8) : splitL c l ≠ [] := by
  cases l with
  | nil => simp [splitL]
  | cons b t =>
    unfold splitL
    split
    · simp
    · split <;> simp
theorem split_lib (c : UInt8) : ∀ (l : List UInt8) (k : Nat), Lib.count l [c] = k → Lib.splitK [c] 0 k l = splitL c l
  | [], k, h => by
    rw [Lib.count_miss (by simp [Lib.index])] at h
    subst h
    rfl
  | b :: l, k, h => by
    by_cases hb : b = c
    · subst hb
      rw [Lib.count_cons_eq] at h
      have hix : Lib.index (b :: l) [b] = ((0 : Nat) : Int) := by rw [Lib.index]; simp [List.isPrefixOf]
      obtain ⟨k', rfl⟩ : ∃ k', k = k' + 1 := ⟨k - 1, by omega⟩
      rw [Lib.splitK, hix]
      have ih := split_lib b l k' (by omega)
      simp only [splitL, if_true]
      rw [if_neg (by decide)]
      show (b :: l).take 0 :: Lib.splitK [b] 0 k' ((b :: l).drop 1) = _
      rw [← ih]
      rfl
    · rw [Lib.count_cons_ne b c l hb] at h
      have ih := split_lib c l k h
      have hp : ([c] : List UInt8).isPrefixOf (b :: l) = false := by simp [List.isPrefixOf, Ne.symm hb]
      have hix : Lib.index (b :: l) [c] = if Lib.index l [c] == -1 then -1 else Lib.index l [c] + 1 := by rw [Lib.index, hp]; simp
      simp only [splitL, if_neg hb]
      rw [← ih]
      cases k with
      | zero => rfl
      | succ k' =>
        rw [Lib.splitK, Lib.splitK]
        by_cases hm : Lib.index l [c] = -1
        · rw [Lib.count_miss hm] at h; omega
        · have hge := Lib.index_ge l [c]
          obtain ⟨j, hj⟩ : ∃ j : Nat, Lib.index l [c] = j := ⟨(Lib.index l [c]).toNat, by omega⟩
          rw [hix, if_neg (fun e => hm (beq_iff_eq.1 e)), if_neg (fun e => by have := beq_iff_eq.1 e; omega), if_neg (fun e => hm (beq_iff_eq.1 e)), hj]
          have e1 : ((j : Int) + 1).toNat = j + 1 := by omega
          simp [e1]
/-- One step of the splitting from the left. -/
def spS (c : UInt8) (s : List (List UInt8) × List UInt8) (x : UInt8) : List (List UInt8) × List UInt8 := if x = c then (s.1 ++ [s.2], []) else (s.1, s.2 ++ [x])
def spF (c : UInt8) (l : List UInt8) : List (List UInt8) × List UInt8 := l.foldl (spS c) ([], [])
def prep (cur : List UInt8) : List (List UInt8) → List (List UInt8)
  | h :: r => (cur ++ h) :: r
  | [] => [cur]
theorem sp_fold (c : UInt8) : ∀ (l : List UInt8) (a : List (List UInt8)) (cur : List UInt8), (l.foldl (spS c) (a, cur)).1 ++ [(l.foldl (spS c) (a, cur)).2] = a ++ prep cur (splitL c l)
  | [], a, cur => by simp [splitL, prep]
  | b :: l, a, cur => by
    rw [List.foldl_cons]
    by_cases hb : b = c
    · have e : spS c (a, cur) b = (a ++ [cur], []) := by unfold spS; rw [if_pos hb]
      rw [e, sp_fold c l]
      simp only [splitL, if_pos hb, prep, List.append_nil, List.append_assoc, List.singleton_append]
      congr 2
      match h : splitL c l with
      | [] => exact absurd h (splitL_ne c l)
      | x :: r => rfl
    · have e : spS c (a, cur) b = (a, cur ++ [b]) := by unfold spS; rw [if_neg hb]
      rw [e, sp_fold c l]
      simp only [splitL, if_neg hb]
      match h : splitL c l with
      | [] => exact absurd h (splitL_ne c l)
      | x :: r => simp [prep]
theorem sp_all (c : UInt8) (l : List UInt8) : (spF c l).1 ++ [(spF c l).2] = splitL c l := by
  unfold spF
  rw [sp_fold]
  match h : splitL c l with
  | [] => exact absurd h (splitL_ne c l)
  | x :: r => simp [prep]
theorem spF_snoc (c : UInt8) (l : List UInt8) (x : UInt8) : spF c (l ++ [x]) = spS c (spF c l) x := by unfold spF; rw [List.foldl_append]; rfl
theorem rev_ind {P : List UInt8 → Prop} (h0 : P []) (h1 : ∀ l x, P l → P (l ++ [x])) (l : List UInt8) : P l := by
  have h : ∀ l : List UInt8, P l.reverse := fun l => by
    induction l with
    | nil => exact h0
    | cons a t ih => rw [List.reverse_cons]; exact h1 _ _ ih
  have := h l.reverse
  rwa [List.reverse_reverse] at this
/-- What lies behind the last cut is the text's end. -/
theorem spF_cur (c : UInt8) (l : List UInt8) : (spF c l).2.length ≤ l.length ∧ l.drop (l.length - (spF c l).2.length) = (spF c l).2 := by
  refine rev_ind (P := fun l => (spF c l).2.length ≤ l.length ∧ l.drop (l.length - (spF c l).2.length) = (spF c l).2) (by simp [spF]) (fun l x ih => ?_) l
  rw [spF_snoc]
  unfold spS
  split
  · simp
  · obtain ⟨h1, h2⟩ := ih
    refine ⟨by simp; omega, ?_⟩
    have e : (l ++ [x]).length - ((spF c l).2 ++ [x]).length = l.length - (spF c l).2.length := by simp
    rw [e, List.drop_append_of_le_length (by omega), h2]
theorem spF_len (c : UInt8) (l : List UInt8) : (spF c l).1.length + (spF c l).2.length + ((spF c l).1.map List.length).sum = l.length := by
  refine rev_ind (P := fun l => (spF c l).1.length + (spF c l).2.length + ((spF c l).1.map List.length).sum = l.length) (by simp [spF]) (fun l x ih => ?_) l
  rw [spF_snoc]
  unfold spS
  split
  · simp; omega
  · simp; omega
end Go.Proofs.YtldknpjeegdbmaaGreat

/- Contracts of OverlapsOf, IsLoose, CountRuns. -/
namespace Go.Proofs.YtldknpjeegdbmaaGreat
set_option maxRecDepth 100000
open Go Go.RowKit

theorem In.own {w : World} {base e c : Nat} {A : Option Addr} {xs : List Int} (h : w.ownsRow base e 1 (.slice A xs.length c) xs.length (xs.map (Value.int .i64))) (hl : xs.length ≤ 1048576) : In w A c xs :=
  ⟨hl, (own_caps h).1, Rd.of_own h⟩
theorem sizeI (w : World) : (sizeOf (Tryz.prog.elem 24)).run Tryz.prog w = .ok 1 w := by kernel_rfl

def ovH (xs : List Int) (k : Nat) : Bool := decide (patL (xs.take k) = patL (xs.drop (xs.length - k)))
def ovTo (xs : List Int) (k : Nat) : List Int := ((List.range k).filter fun i => decide (1 ≤ i) && ovH xs i).map fun i : Nat => (i : Int)
theorem ovTo_succ (xs : List Int) (k : Nat) (h : 1 ≤ k) : ovTo xs (k + 1) = if ovH xs k = true then ovTo xs k ++ [(k : Int)] else ovTo xs k := by
  unfold ovTo
  rw [List.range_succ, List.filter_append]
  have : decide (1 ≤ k) = true := by simpa using h
  by_cases hk : ovH xs k = true <;> simp [hk, h]
theorem ovTo_length (xs : List Int) (k : Nat) : (ovTo xs k).length ≤ k := by
  unfold ovTo
  rw [List.length_map]
  exact Nat.le_trans (List.length_filter_le _ _) (by simp)
def ovG (xs : List Int) : List Int := if permB xs = true then ovTo xs xs.length else []
theorem ovG_length (xs : List Int) : (ovG xs).length ≤ 8 := by
  unfold ovG
  split
  · rename_i h
    have := ovTo_length xs xs.length
    have := (permB_true h).1
    omega
  · simp






def runH (p q : List Int) (i : Nat) : Bool := decide (patL ((p.drop i).take q.length) = q)
def runsTo (p q : List Int) (k : Nat) : Nat := ((List.range k).filter (runH p q)).length
theorem runsTo_succ (p q : List Int) (k : Nat) : runsTo p q (k + 1) = runsTo p q k + (if runH p q k = true then 1 else 0) := by
  unfold runsTo
  rw [List.range_succ, List.filter_append, List.length_append]
  congr 1
  by_cases h : runH p q k = true <;> simp [h]
theorem runsTo_le (p q : List Int) (k : Nat) : runsTo p q k ≤ k := Nat.le_trans (List.length_filter_le _ _) (by simp)
def runsN (p q : List Int) : Nat := runsTo p q (p.length + 1 - q.length)
def runsG (p q : List Int) : Int := if permB p = true ∧ permB q = true ∧ q.length ≠ 0 then (runsN p q : Int) else -1



end Go.Proofs.YtldknpjeegdbmaaGreat

/- Contracts of without and ParentOf. -/
namespace Go.Proofs.YtldknpjeegdbmaaGreat
set_option maxRecDepth 100000
open Go Go.RowKit



def parentL (xs : List Int) : List Int := xs.filter fun y => decide (y < (xs.length : Int))
def parentG (xs : List Int) : List Int := if permB xs = true ∧ xs.length ≠ 0 then parentL xs else []
def parentB (xs : List Int) : Bool := permB xs && decide (xs.length ≠ 0)
theorem parentG_length (xs : List Int) : (parentG xs).length ≤ 8 := by
  unfold parentG
  split
  · rename_i h
    have := (permB_true h.1).1
    exact Nat.le_trans (List.length_filter_le _ _) this
  · simp


end Go.Proofs.YtldknpjeegdbmaaGreat

/- ParsePerm, program and reference; SplitByte. -/
namespace Go.Proofs.YtldknpjeegdbmaaGreat
set_option maxRecDepth 100000
open Go Go.RowKit

def ppL (l : List UInt8) : List Int := l.map fun b => (b.toNat : Int) - 48
theorem ppL_len (l : List UInt8) : (ppL l).length = l.length := by simp [ppL]
def ppB (l : List UInt8) : Bool := decide (l = [45]) || (decide (l ≠ []) && permB (ppL l))
def ppG (l : List UInt8) : List Int := if ppB l = true then (if l = [45] then [] else ppL l) else []
theorem ppG_len (l : List UInt8) : (ppG l).length ≤ l.length ∧ (ppG l).length ≤ 8 := by
  unfold ppG
  split
  · rename_i h
    split
    · simp
    · rename_i h2
      unfold ppB at h
      rw [decide_eq_false h2, Bool.false_or, Bool.and_eq_true] at h
      have h8 := (permB_true h.2).1
      rw [ppL_len] at *
      omega
  · simp
def ppTo (l : List UInt8) (k : Nat) : List Int := ppL (l.take k)
theorem ppTo_succ (l : List UInt8) (k : Nat) (h : k < l.length) : ppTo l (k + 1) = ppTo l k ++ [(l[k].toNat : Int) - 48] := by
  unfold ppTo ppL
  rw [List.take_succ_eq_append_getElem h, List.map_append]; rfl
set_option maxHeartbeats 1000000 in
theorem parsePerm_spec (s : ByteArray) (w : World) (hs : s.size ≤ 1048576) :
    Calls Tryz.prog 81 #[.string s] w (Ret2 (Value.int .i64) 3 w (ppG s.data.toList) (ppB s.data.toList)) := by
  obtain ⟨i0, hi, hz0, hz1, hz2⟩ := info_parts infoI
  have hl : s.data.toList.length = s.size := by show s.data.toList.length = s.data.size; simp
  have own0 : (w.alloc (.cells #[] 3)).ownsRow w.heap.size 3 1 (.slice (some ⟨w.heap.size, 0, none⟩) 0 0) 0 (([] : List Int).map (Value.int .i64)) := World.ownsRow_lit w #[] 0 (Nat.le_refl _) (by unfold maxLen; omega) rfl
  have hb0 := (Below.refl w.heap.size w).alloc (Nat.le_refl _) (.cells #[] 3)
  have hTL : s.toList = s.data.toList := ByteArray.toList_eq s
  have hnil : s.data.toList = [] ↔ s.size = 0 := by rw [← hl]; exact List.length_eq_zero_iff.symm
  by_cases hd : s.data.toList = [45]
  · have d1 : (s.toList == [45]) = true := by rw [hTL, hd]; rfl
    have HB := Lib.hid (show ppB s.data.toList = true by unfold ppB; rw [decide_eq_true hd]; rfl)
    have HG := Lib.hid (show ppG s.data.toList = [] by unfold ppG; rw [HB.out, if_pos rfl, if_pos hd])
    clear hd hTL hnil
    go_enter Tryz.func81, Tryz.ntmps81
    go_wp2_with fail
    go_ret2
    rw [HB.out, HG.out]
    exact ⟨_, 0, rfl, Nat.le_refl _, Nat.zero_le _, own0, hb0⟩
  · have d1 : (s.toList == [45]) = false := by rw [hTL]; simpa using hd
    have HD := Lib.hid hd
    have HN := Lib.hid hnil
    have HTL := Lib.hid hTL
    clear hd hTL hnil
    go_enter Tryz.func81, Tryz.ntmps81
    go_wp2_with fail
    go_loopw [4, 5] (fun v i wr => ∃ (k : Nat) (A1 : Option Addr) (c1 : Nat), k ≤ s.size ∧ i = .int .i64 k ∧ v = .slice A1 k c1 ∧ wr.ownsRow w.heap.size 3 1 (.slice A1 k c1) k ((ppTo s.data.toList k).map (Value.int .i64)) ∧ Below w.heap.size w wr) (fun _ i _ => s.size - (intOf i).toNat)
    case atStart => exact ⟨0, _, _, Nat.zero_le _, rfl, rfl, own0, hb0⟩
    case round =>
      clear own0 hb0
      obtain ⟨k, A1, c1, hk, rfl, rfl, hO, hb⟩ := hrel
      have hsz := hb.size
      rcases Nat.lt_or_ge k s.size with hlt | hge
      · obtain ⟨x, hx⟩ : ∃ x : UInt8, x = s[k] := ⟨_, rfl⟩
        have hx2 := UInt8.toNat_lt x
        have HS := Lib.hid (show ppTo s.data.toList (k + 1) = ppTo s.data.toList k ++ [(x.toNat : Int) - 48] by rw [ppTo_succ _ k (by rw [hl]; exact hlt), hx]; rfl)
        have e1 : IntKind.i64.wrap (x.toNat : Int) = (x.toNat : Int) := IntWalk.i64_in _ (by omega)
        have e2 : IntKind.i64.wrap ((x.toNat : Int) - 48) = (x.toNat : Int) - 48 := IntWalk.i64_in _ (by omega)
        have hx3 : s[k] = x := hx.symm
        clear hx
        go_wp2_with (at_builtin; refine wpList_append_own _ rfl _ _ 24 rfl (w.heap.size) 3 i0 (.int .i64 0) 1 8 Tryz.underlying24 hi hz0 hz1 hz2 rfl (by decide) _ _ _ rfl (World.ownsRow.alloc hO _) ⟨wr.heap.size, 0, none⟩ 1 1 [.int .i64 ((x.toNat : Int) - 48)] rfl rfl (cell_one_new _ _ _) (by intro u hu; simp at hu; subst hu; rfl) (by unfold maxLen; omega) (by omega) (by simp; omega) ?_; intro v1 w1 hown1 hgrow1 _)
        have hb1 := (hb.alloc hsz (Obj.cells #[Value.int .i64 ((x.toNat : Int) - 48)] 3)).grown hgrow1 (by simp; omega) (by intro g hg; exact (hO.lt g hg).1)
        obtain ⟨A2, c2, rfl, _, _⟩ := own_shape hown1
        have K := Lib.hid (And.intro hown1 hb1)
        clear hown1 hgrow1 hb1 hO hb
        go_wp2_with fail
        go_roundw
        case rel => exact ⟨k + 1, A2, c2, by omega, by go_num, rfl, by rw [HS.out]; simpa using K.out.1, K.out.2⟩
        case measure => simp [intOf]; omega
      · obtain rfl : k = s.size := by omega
        have HP := Lib.hid (show ppTo s.data.toList s.size = ppL s.data.toList by unfold ppTo; rw [← hl, List.take_length])
        rcases Nat.eq_zero_or_pos s.size with h0 | h0
        · have d2 : (s.toList == []) = true := by rw [HTL.out, HN.out.2 h0]; rfl
          have HB := Lib.hid (show ppB s.data.toList = false by unfold ppB; rw [decide_eq_false HD.out, decide_eq_false (fun h => h (HN.out.2 h0))]; rfl)
          have HG := Lib.hid (show ppG s.data.toList = [] by unfold ppG; rw [HB.out]; rfl)
          have hlit : (wr.alloc (.cells #[] 3)).ownsRow w.heap.size 3 1 (.slice (some ⟨wr.heap.size, 0, none⟩) 0 0) 0 (([] : List Int).map (Value.int .i64)) := World.ownsRow_lit wr #[] 0 hsz (by unfold maxLen; omega) rfl
          have hbl := hb.alloc hsz (.cells #[] 3)
          clear h0
          go_wp2_with fail
          go_ret2
          rw [HB.out, HG.out]
          exact ⟨_, 0, rfl, Nat.le_refl _, Nat.zero_le _, hlit, hbl⟩
        · have d2 : (s.toList == []) = false := by rw [HTL.out]; simp; intro e; have := HN.out.1 (by simpa using e); omega
          have hln : (ppL s.data.toList).length = s.size := by rw [ppL_len, hl]
          have hO2 : wr.ownsRow w.heap.size 3 1 (.slice A1 (ppL s.data.toList).length c1) (ppL s.data.toList).length ((ppL s.data.toList).map (Value.int .i64)) := by rw [hln, ← HP.out]; exact hO
          have hin := In.own hO2 (by rw [hln]; exact hs)
          have HO := Lib.hid hO2
          have HLN := Lib.hid hln
          have HI := Lib.hid (isPerm_sb A1 c1 (ppL s.data.toList) wr (permB (ppL s.data.toList)) hin rfl)
          rw [hln] at HI
          have hb2 := hb
          clear hO hO2 hin hln
          go_wp2_with fail
          (with_reducible refine HI.out.mono ?_)
          rintro e w1 ⟨rfl, hb1⟩
          have hbw := below_dr hb hb1
          by_cases hp : permB (ppL s.data.toList) = true
          · have HB := Lib.hid (show ppB s.data.toList = true by unfold ppB; rw [hp, decide_eq_true (show s.data.toList ≠ [] from fun e => by have := HN.out.1 e; omega)]; simp)
            have HG := Lib.hid (show ppG s.data.toList = ppL s.data.toList by unfold ppG; rw [HB.out, if_pos rfl, if_neg HD.out])
            have hO3 := hb1.own HO.out
            have HPP := Lib.hid hp
            rw [hp]
            clear hp h0
            go_wp2_with fail
            go_ret2
            rw [HB.out, HG.out]
            exact ⟨A1, c1, by rw [HLN.out]; rfl, (own_caps hO3).1, (own_caps hO3).2, hO3, hbw⟩
          · have hpf : permB (ppL s.data.toList) = false := by simpa using hp
            have HB := Lib.hid (show ppB s.data.toList = false by unfold ppB; rw [hpf, decide_eq_false HD.out, Bool.and_false]; rfl)
            have HG := Lib.hid (show ppG s.data.toList = [] by unfold ppG; rw [HB.out]; rfl)
            have hlit : (w1.alloc (.cells #[] 3)).ownsRow w.heap.size 3 1 (.slice (some ⟨w1.heap.size, 0, none⟩) 0 0) 0 (([] : List Int).map (Value.int .i64)) := World.ownsRow_lit w1 #[] 0 hbw.size (by unfold maxLen; omega) rfl
            have hbl := hbw.alloc hbw.size (.cells #[] 3)
            rw [hpf]
            clear hp hpf h0
            go_wp2_with fail
            go_ret2
            rw [HB.out, HG.out]
            exact ⟨_, 0, rfl, Nat.le_refl _, Nat.zero_le _, hlit, hbl⟩
end Go.Proofs.YtldknpjeegdbmaaGreat

/- Contracts of MahonRow and EulerRow, program and reference. -/
namespace Go.Proofs.YtldknpjeegdbmaaGreat
set_option maxRecDepth 100000
open Go Go.RowKit

theorem own_put {α : Type} {f : α → Value} {w : World} {base e g n cap : Nat} {xs : List α} (h : w.ownsRow base e 1 (.slice (some ⟨g, 0, none⟩) n cap) n (xs.map f)) (j : Nat) (hj : j < xs.length) (x : α) :
    w.cell? ⟨g, j, none⟩ = some (f xs[j]) ∧ w.frozen? ⟨g, j, none⟩ = false ∧ (w.setCell ⟨g, j, none⟩ (f x)).ownsRow base e 1 (.slice (some ⟨g, 0, none⟩) n cap) n ((xs.set j x).map f) := by
  have hl := own_len h
  simp only [List.length_map] at hl
  refine ⟨?_, h.frozenAt j, ?_⟩
  · rw [h.cellAt j (by omega)]; simp [hj]
  · rw [List.map_set]; exact (h.stored j (f x)).1

theorem made_zeros {w : World} {base e n : Nat} {v : Value} (h : w.ownsRow base e 1 v n (madeCells (Value.int .i64 0).cells (n * 1)).toList) : w.ownsRow base e 1 v n ((List.replicate n (0 : Int)).map (Value.int .i64)) := by
  rw [show (Value.int .i64 0).cells = #[.int .i64 0] from rfl, toList_madeCells_one, Nat.mul_one] at h
  simpa using h




end Go.Proofs.YtldknpjeegdbmaaGreat

/- Texts: FormatInt of one digit, PermText. -/
namespace Go.Proofs.YtldknpjeegdbmaaGreat
set_option maxRecDepth 100000
open Go Go.RowKit

theorem infoU8 : (Tryz.prog.info? 5).map (fun i => (i.zero, i.size, i.bytes)) = some (some (.int .u8 0), 1, 1) := by kernel_rfl
/-- A string off its bytes. -/
def bs (l : List UInt8) : ByteArray := ⟨l.toArray⟩
def dig (x : Int) : UInt8 := UInt8.ofNat (48 + x).toNat

theorem bs_append (l l' : List UInt8) : bs l ++ bs l' = bs (l ++ l') := by
  apply ByteArray.ext
  simp [bs]
theorem bs_size (l : List UInt8) : (bs l).size = l.length := by simp [bs, ByteArray.size]
theorem bs_extract (l : List UInt8) (i : Nat) (h : i < l.length) : (bs l).extract i (i + 1) = bs [l[i]] := by
  apply ByteArray.ext
  simp only [bs, ByteArray.data_extract, List.extract_toArray]
  congr 1
  rw [List.extract_eq_take_drop, List.drop_eq_getElem_cons h, Nat.add_sub_cancel_left]
  rfl
theorem fold_bs (ns : List Int) (l : List UInt8) : ns.foldl (fun (r : ByteArray) (n : Int) => r.push (UInt8.ofNat n.toNat)) (bs l) = bs (l ++ ns.map fun n => UInt8.ofNat n.toNat) := by
  induction ns generalizing l with
  | nil => simp
  | cons n t ih =>
    have : (bs l).push (UInt8.ofNat n.toNat) = bs (l ++ [UInt8.ofNat n.toNat]) := by simp [bs, ByteArray.push]
    rw [List.foldl_cons, this, ih]
    simp
/-- 'string(b)' of a slice of bytes that is read. -/
theorem conv_bytes {w : World} {B b off c n : Nat} {ns : List Int} (h : Rd (Value.int .u8) w B (some ⟨b, off, none⟩) ns) (hn : ns.length = n) :
    (convert 22 9 (.slice (some ⟨b, off, none⟩) n c)).run Tryz.prog w = .ok (.string (bs (ns.map fun n => UInt8.ofNat n.toNat))) w := by
  rw [run_convert_bytes_string w 22 9 5 _ _ _ Tryz.underlying22 Tryz.underlying5 Tryz.underlying9, run_bytesToString w ⟨b, off, none⟩ n c ns]
  · rw [show ByteArray.empty = bs [] from rfl, fold_bs]; rfl
  · have hl := run_loadCells_list (P := Tryz.prog) (w := w) ⟨b, off, none⟩ (ns.map (Value.int .u8)) (by
      intro j v hv
      rw [List.getElem?_map] at hv
      rcases hj : ns[j]? with _ | x
      · rw [hj] at hv; cases hv
      · rw [hj] at hv
        injection hv with hv
        obtain ⟨hlt, hx⟩ := List.getElem?_eq_some_iff.1 hj
        obtain ⟨b', off', he, _, hc⟩ := h (by omega)
        injection he with he
        injection he with h1 h2
        subst h1 h2
        rw [show (⟨b, off, none⟩ : Addr).add j = ⟨b, off + j, none⟩ by unfold Addr.add; by_cases h : j = 0 <;> simp [h], hc j hlt, ← hv, hx])
    rw [List.length_map, hn] at hl
    exact hl

set_option maxHeartbeats 1000000 in
theorem format_one (x : Int) (w : World) (hx : 1 ≤ x ∧ x ≤ 9) :
    Calls Tryz.prog 72 #[.int .i64 x] w (Rb w (.string (bs [dig x]))) := by
  go_enter Tryz.func72, Tryz.ntmps72
  have d0 : (x == 0) = false := by simp; omega
  have d1 : decide (x < 0) = false := decide_eq_false (by omega)
  have d2 : (x != 0) = true := by simp; omega
  have t1 : x.tmod 10 = x := Int.tmod_eq_of_lt (by omega) (by omega)
  have t2 : x.tdiv 10 = 0 := Int.tdiv_eq_zero_of_lt (by omega) (by omega)
  go_wp2
  go_loopw [0, 4] (fun i o wr => ((i = .int .i64 x ∧ o = .string ⟨#[]⟩) ∨ (i = .int .i64 0 ∧ o = .string (bs [dig x]))) ∧ Below w.heap.size w wr) (fun i _ _ => (intOf i).toNat)
  case atStart => exact ⟨.inl ⟨rfl, rfl⟩, Below.refl _ _⟩
  case round =>
    obtain ⟨⟨rfl, rfl⟩ | ⟨rfl, rfl⟩, hb⟩ := hrel
    · have hr : Rd (Value.int .u8) (wr.alloc (Obj.cells #[Value.int IntKind.u8 (48 + x)] 5)) (wr.heap.size + 1) (some ⟨wr.heap.size, 0, none⟩) [48 + x] := fun _ => ⟨wr.heap.size, 0, rfl, Nat.lt_succ_self _, fun j hj => by
        obtain rfl : j = 0 := by simpa using hj
        simp⟩
      have hcv := conv_bytes (c := 1) (n := 1) hr rfl
      have hb1 := hb.alloc hb.size (Obj.cells #[Value.int IntKind.u8 (48 + x)] 5)
      go_wp2
      go_roundw
      case rel => exact ⟨.inr ⟨rfl, by rw [show (ByteArray.mk #[]) = bs [] from rfl, bs_append]; rfl⟩, hb1⟩
      case measure => simp [intOf]; omega
    · go_wp2
      go_ret
      exact ⟨rfl, hb⟩

/-- What PermText writes of a permutation. -/
def textD (xs : List Int) : List UInt8 := if xs = [] then [45] else xs.map dig
def digL (xs : List Int) (k : Nat) : List Int := (xs.take k).map fun x => 48 + x
theorem digL_length (xs : List Int) (k : Nat) (h : k ≤ xs.length) : (digL xs k).length = k := by simp [digL]; omega
theorem digL_succ (xs : List Int) (k : Nat) (h : k < xs.length) : digL xs (k + 1) = digL xs k ++ [48 + xs[k]] := by
  unfold digL; rw [List.take_succ_eq_append_getElem h, List.map_append]; rfl
def ptext (xs : List Int) : ByteArray := if permB xs then bs (textD xs) else bs []

set_option maxHeartbeats 1000000 in
theorem permText_impl (A : Option Addr) (c : Nat) (xs : List Int) (w : World) (h : In w A c xs) :
    Calls Tryz.prog 70 #[.slice A xs.length c] w (Rb w (.string (ptext xs))) := by
  obtain ⟨i0, hi, hz0, hz1, hz2⟩ := info_parts infoU8
  have hl := h.len
  by_cases hp : permB xs = true
  · have HT := Lib.hid (show ptext xs = bs (textD xs) by unfold ptext; rw [if_pos hp])
    have h8 := (permB_true hp).1
    have hr := (permB_true hp).2.1
    go_enter Tryz.func70, Tryz.ntmps70
    go_wp2_with fail
    (with_reducible refine (isPerm_impl A c xs _ h).mono ?_)
    rintro e wp ⟨rfl, hbp⟩
    rw [hp]
    clear hp
    by_cases h0 : xs = []
    · subst h0
      go_wp2
      go_ret
      exact ⟨by rw [HT.out]; rfl, hbp⟩
    · have hne : 0 < xs.length := List.length_pos_iff.2 h0
      have d0 : ((xs.length : Int) == 0) = false := by simp; omega
      have HD := Lib.hid (show textD xs = (digL xs xs.length).map fun n => UInt8.ofNat n.toNat by unfold textD digL; rw [if_neg h0, List.take_length, List.map_map]; rfl)
      clear h0
      have hx := (h.next hbp).rd
      have HR := Lib.hid hr
      clear hr
      go_wp2
      have hown0 : (wp.alloc (.cells #[] 5)).ownsRow wp.heap.size 5 1 (.slice (some ⟨wp.heap.size, 0, none⟩) 0 0) 0 ((digL xs 0).map (Value.int .u8)) := World.ownsRow_lit wp #[] 0 (Nat.le_refl _) (by unfold maxLen; omega) rfl
      have hb0 := (Below.refl wp.heap.size wp).alloc (Nat.le_refl _) (.cells #[] 5)
      go_loopw [3, 15] (fun v i wr => ∃ (k : Nat) (A' : Option Addr) (c' : Nat), k ≤ xs.length ∧ i = .int .i64 k ∧ v = .slice A' k c' ∧ wr.ownsRow wp.heap.size 5 1 (.slice A' k c') k ((digL xs k).map (Value.int .u8)) ∧ Below wp.heap.size wp wr) (fun _ i _ => xs.length - (intOf i).toNat)
      case atStart => exact ⟨0, _, _, Nat.zero_le _, rfl, rfl, hown0, hb0⟩
      case round =>
        clear hown0 hb0
        obtain ⟨k, A', c', hk, rfl, rfl, hown, hb⟩ := hrel
        have hsz := hb.size
        rcases Nat.lt_or_ge k xs.length with hlt | hge
        · obtain ⟨b, off, rfl, _, hc⟩ := (hx.below hb) hne
          have c1 := hc k hlt
          have hbx := HR.out xs[k] (List.getElem_mem hlt)
          have HS := Lib.hid (digL_succ xs k hlt)
          clear hc
          go_wp2_with (at_builtin; refine wpList_append_own _ rfl _ _ 22 rfl (wp.heap.size) 5 i0 (.int .u8 0) 1 1 Tryz.underlying22 hi hz0 hz1 hz2 rfl (by decide) _ _ _ rfl (World.ownsRow.alloc hown _) ⟨wr.heap.size, 0, none⟩ 1 1 [.int .u8 (48 + xs[k])] rfl rfl (cell_one_new _ _ _) (by intro u hu; simp at hu; subst hu; rfl) (by unfold maxLen; omega) (by omega) (by simp; omega) ?_; intro v1 w1 hown1 hgrow1 _)
          have hb1 := (hb.alloc hsz (Obj.cells #[Value.int .u8 (48 + xs[k])] 5)).grown hgrow1 (by simp; omega) (by intro g hg; exact ((hown.lt g hg).1))
          have hS2 : w1.ownsRow wp.heap.size 5 1 v1 (k + 1) ((digL xs (k + 1)).map (Value.int .u8)) := by rw [HS.out]; simpa using hown1
          obtain ⟨A1, cc, rfl, _, _⟩ := own_shape hS2
          have hH1 := Lib.hid hS2
          have hH2 := Lib.hid hb1
          clear hS2 hown1 hgrow1 hb1 hown hb
          go_wp2
          go_roundw
          case rel => exact ⟨k + 1, A1, cc, by omega, by go_num, rfl, hH1.out, hH2.out⟩
          case measure => simp [intOf]; omega
        · obtain rfl : k = xs.length := by omega
          obtain ⟨g, cap, hv, _, hgl⟩ := hown.form hne
          have hA' : A' = some ⟨g, 0, none⟩ := by injection hv
          subst hA'
          have hrd : Rd (Value.int .u8) wr wr.heap.size (some ⟨g, 0, none⟩) (digL xs xs.length) := Rd.of_own (c := c') (by rw [digL_length xs xs.length (Nat.le_refl _)]; exact hown)
          have hcv := conv_bytes (c := c') hrd (digL_length xs xs.length (Nat.le_refl _))
          clear hv
          go_wp2
          go_ret
          exact ⟨by rw [HT.out, HD.out]; rfl, hbp.trans (hb.mono hbp.size)⟩
  · have hpf : permB xs = false := by simpa using hp
    have HT := Lib.hid (show ptext xs = bs [] by unfold ptext; rw [hpf]; rfl)
    go_enter Tryz.func70, Tryz.ntmps70
    go_wp2_with fail
    (with_reducible refine (isPerm_impl A c xs _ h).mono ?_)
    rintro e wp ⟨rfl, hbp⟩
    rw [hpf]
    go_wp2
    go_ret
    exact ⟨by rw [HT.out]; rfl, hbp⟩
end Go.Proofs.YtldknpjeegdbmaaGreat

/- NearText, program and reference. -/
namespace Go.Proofs.YtldknpjeegdbmaaGreat
set_option maxRecDepth 100000
open Go Go.RowKit

/-- The text of the first k letters, a mark ahead of each place that is not joined. -/
def joinT (l : List UInt8) (ys : List Int) : Nat → List UInt8
  | 0 => []
  | k + 1 => joinT l ys k ++ (if 0 < k ∧ (k : Int) ∉ ys then [95] else []) ++ [l[k]?.getD 0]
def ntext (xs ys : List Int) : ByteArray := if nearB xs ys then bs (joinT (textD xs) ys (textD xs).length) else bs []
theorem joinT_size (l : List UInt8) (ys : List Int) (k : Nat) : (joinT l ys k).length ≤ 2 * k := by
  induction k with
  | zero => simp [joinT]
  | succ k ih => simp only [joinT, List.length_append, List.length_cons, List.length_nil]; split <;> simp <;> omega
theorem textD_len (xs : List Int) : (textD xs).length ≤ xs.length + 1 := by unfold textD; split <;> simp
theorem nearB_perm {xs ys : List Int} (h : nearB xs ys = true) : permB xs = true := by
  unfold nearB at h; simp only [Bool.and_eq_true] at h; exact h.1


end Go.Proofs.YtldknpjeegdbmaaGreat

/- Does a pattern occur: the reference's search. -/
namespace Go.Proofs.YtldknpjeegdbmaaGreat
set_option maxRecDepth 100000
open Go Go.RowKit

def fit1 (p q m : List Int) (k : Nat) : Bool := decide (q[k]?.getD 0 < q[m.length - 1]?.getD 0) == decide ((atL p m)[k]?.getD 0 < (atL p m)[m.length - 1]?.getD 0)
def fit1To (p q m : List Int) (k : Nat) : Bool := (List.range k).all (fit1 p q m)
theorem fit1To_succ (p q m : List Int) (k : Nat) : fit1To p q m (k + 1) = (fit1To p q m k && fit1 p q m k) := by simp [fit1To, List.range_succ]
theorem fit1To_all (p q m : List Int) : fit1To p q m (m.length - 1) = fitsB p q m := rfl
theorem fit1To_false {p q m : List Int} {k n : Nat} (h : k < n) (h1 : fit1 p q m k = false) : fit1To p q m n = false := by
  unfold fit1To
  rw [List.all_eq_false]
  exact ⟨k, List.mem_range.2 h, by simp [h1]⟩

set_option maxHeartbeats 1000000 in
theorem l7Fits_any (A B D : Option Addr) (c d f N : Nat) (p q m : List Int) (w : World) (hn : m.length = N) (hN1 : 1 ≤ N) (hq : N ≤ q.length) (hq8 : q.length ≤ 1000) (hp8 : p.length ≤ 1000) (hm : ∀ x ∈ m, 1 ≤ x ∧ x ≤ p.length)
    (hpr : Rd (Value.int .i64) w w.heap.size A p) (hqr : Rd (Value.int .i64) w w.heap.size B q) (hmr : Rd (Value.int .i64) w w.heap.size D m) :
    Calls Tryz.prog 118 #[.slice A p.length c, .slice B q.length d, .slice D N f] w (Rq w (.bool (fitsB p q m))) := by
  have HG := Lib.hid (show fitsB p q m = fit1To p q m (N - 1) by rw [← fit1To_all, hn])
  have hnm : N - 1 < m.length := by omega
  have hq1 : N - 1 < q.length := by omega
  have hxl := hm m[N - 1] (List.getElem_mem hnm)
  have hn1000 : N ≤ 1000 := by omega
  have HN := Lib.hid hn
  obtain ⟨cx, hcx⟩ : ∃ cx : Nat, (cx : Int) + 1 = m[N - 1] := ⟨(m[N - 1] - 1).toNat, by omega⟩
  have hcxp : cx < p.length := by omega
  obtain ⟨bp, op, rfl, _, hcp⟩ := hpr (by omega)
  obtain ⟨bq, oq, rfl, _, hcq⟩ := hqr (by omega)
  obtain ⟨bm, om, rfl, _, hcm⟩ := hmr (by omega)
  have c1 := hcm (N - 1) hnm
  have c2 := hcp cx hcxp
  have c3 := hcq (N - 1) hq1
  rw [← hcx] at c1
  have HX := Lib.hid (show (atL p m)[m.length - 1]?.getD 0 = p[cx] by
    unfold atL
    rw [List.getElem?_map, hn, List.getElem?_eq_getElem hnm, ← hcx]
    simp only [Option.map_some, Option.getD_some, Int.add_sub_cancel, Int.toNat_natCast]
    rw [List.getElem?_eq_getElem hcxp]; rfl)
  have e1 : IntKind.i64.wrap ((cx : Int) + 1 - 1) = (cx : Int) := by rw [Int.add_sub_cancel]; exact IntWalk.i64_in _ (by omega)
  have e2 : (cx : Int) < (p.length : Int) := by omega
  have e3 : (N : Int) - 1 < (q.length : Int) := by omega
  have e30 : 1 ≤ (N : Int) := by omega
  have e31 : 0 ≤ (N : Int) - 1 := by omega
  have e32 : (N : Int) - 1 < (N : Int) := by omega
  have e33 : ((N : Int) - 1).toNat = N - 1 := by omega
  clear hn hxl hcx hpr hqr hmr
  go_enter Tryz.func118, Tryz.ntmps118
  go_wp2_with fail
  go_loopw [8] (fun i wr => ∃ k : Nat, k ≤ N - 1 ∧ i = .int .i64 k ∧ Hid (fit1To p q m k = true) ∧ Dr w wr) (fun i _ => N - 1 - (intOf i).toNat)
  case atStart => exact ⟨0, Nat.zero_le _, rfl, Lib.hid rfl, Dr.refl _⟩
  case round =>
    obtain ⟨k, hk, rfl, HF, hd⟩ := hrel
    rcases Nat.lt_or_ge k (N - 1) with hlt | hge
    · have hkm : k < m.length := by omega
      have hkl := hm m[k] (List.getElem_mem hkm)
      obtain ⟨ck, hck⟩ : ∃ ck : Nat, (ck : Int) + 1 = m[k] := ⟨(m[k] - 1).toNat, by omega⟩
      have hckp : ck < p.length := by omega
      have hkq : k < q.length := by omega
      have g1 : wr.cell? ⟨bm, om + (N - 1), none⟩ = some (.int .i64 ((cx : Int) + 1)) := (hd.cell _).trans c1
      have g2 : wr.cell? ⟨bp, op + cx, none⟩ = some (.int .i64 p[cx]) := (hd.cell _).trans c2
      have g3 : wr.cell? ⟨bq, oq + (N - 1), none⟩ = some (.int .i64 q[N - 1]) := (hd.cell _).trans c3
      have g4 : wr.cell? ⟨bm, om + k, none⟩ = some (.int .i64 m[k]) := (hd.cell _).trans (hcm k hkm)
      have g5 : wr.cell? ⟨bp, op + ck, none⟩ = some (.int .i64 p[ck]) := (hd.cell _).trans (hcp ck hckp)
      have g6 : wr.cell? ⟨bq, oq + k, none⟩ = some (.int .i64 q[k]) := (hd.cell _).trans (hcq k hkq)
      rw [← hck] at g4
      have HK := Lib.hid (show fit1 p q m k = (decide (q[k] < q[N - 1]) == decide (p[ck] < p[cx])) by
        unfold fit1
        rw [HX.out]
        have : (atL p m)[k]?.getD 0 = p[ck] := by
          unfold atL
          rw [List.getElem?_map, List.getElem?_eq_getElem hkm, ← hck]
          simp only [Option.map_some, Option.getD_some, Int.add_sub_cancel, Int.toNat_natCast]
          rw [List.getElem?_eq_getElem hckp]; rfl
        rw [this, HN.out, List.getElem?_eq_getElem hkq, List.getElem?_eq_getElem hq1]
        rfl)
      have e4 : IntKind.i64.wrap ((ck : Int) + 1 - 1) = (ck : Int) := by rw [Int.add_sub_cancel]; exact IntWalk.i64_in _ (by omega)
      have e5 : (ck : Int) < (p.length : Int) := by omega
      have e6 : (k : Int) < (q.length : Int) := by omega
      have e7 : (k : Int) < (N : Int) := by omega
      have e8 : (k : Int) < (N : Int) - 1 := by omega
      clear hkl hck
      by_cases hf : fit1 p q m k = true
      · have HH := Lib.hid (show fit1To p q m (k + 1) = true by rw [fit1To_succ, HF.out, hf]; rfl)
        have hne : (!(decide (q[k] < q[N - 1]) == decide (p[ck] < p[cx]))) = false := by
          have := HK.out
          rw [hf] at this
          revert this
          cases decide (q[k] < q[N - 1]) <;> cases decide (p[ck] < p[cx]) <;> simp
        clear hf HK
        go_wp2_with fail
        go_quiet (fail)
        go_wp2_with fail
        go_roundw
        case rel => exact ⟨k + 1, by omega, by go_num, HH, (by first | with_reducible assumption | with_reducible exact hd | with_reducible exact Dr.drewN hd _ | with_reducible exact Dr.drewN (Dr.drewN hd _) _ | with_reducible exact Dr.drew hd)⟩
        case measure => simp [intOf]; omega
      · have hff : fit1 p q m k = false := by simpa using hf
        have HH := Lib.hid (show fit1To p q m (N - 1) = false from fit1To_false hlt hff)
        have hne : (!(decide (q[k] < q[N - 1]) == decide (p[ck] < p[cx]))) = true := by
          have := HK.out
          rw [hff] at this
          revert this
          cases decide (q[k] < q[N - 1]) <;> cases decide (p[ck] < p[cx]) <;> simp
        clear hf hff HK
        go_wp2_with fail
        go_quiet (fail)
        go_wp2_with fail
        go_ret
        exact ⟨ret_bool (by rw [HG.out, HH.out]), (by first | with_reducible assumption | with_reducible exact hd | with_reducible exact Dr.drewN hd _ | with_reducible exact Dr.drewN (Dr.drewN hd _) _ | with_reducible exact Dr.drew hd)⟩
    · obtain rfl : k = N - 1 := by omega
      have e8 : ((N - 1 : Nat) : Int) = (N : Int) - 1 := by omega
      go_wp2_with fail
      go_ret
      exact ⟨ret_bool (by rw [HG.out, HF.out]), hd⟩
def findTo (p q : List Int) (k : Nat) (l : List Int) (u : Nat) : List (List Int) := ((marks (fromI l) u).filter fun x => fitsB p q (l ++ [x])).flatMap fun x => occF p q k (l ++ [x])
theorem findTo_succ (p q : List Int) (k : Nat) (l : List Int) (u : Nat) : findTo p q k l (u + 1) = if fitsB p q (l ++ [fromI l + u]) = true then findTo p q k l u ++ occF p q k (l ++ [fromI l + u]) else findTo p q k l u := by
  unfold findTo
  rw [marks_succ, List.filter_append]
  by_cases h : fitsB p q (l ++ [fromI l + u]) = true <;> simp [h]
theorem findTo_le (p q : List Int) (k : Nat) (l : List Int) (u : Nat) (h : 1 ≤ fromI l) : (findTo p q k l u).length ≤ u * p.length ^ k := by
  have hm : ∀ x ∈ (marks (fromI l) u).filter fun x => fitsB p q (l ++ [x]), (occF p q k (l ++ [x])).length ≤ p.length ^ k := fun x hx => by
    obtain ⟨i, _, rfl⟩ := List.mem_map.1 (List.mem_filter.1 hx).1
    exact occF_le p q k _ (by rw [fromI_snoc]; omega)
  have h1 := flatMap_le (fun x => occF p q k (l ++ [x])) (p.length ^ k) _ hm
  have h2 := List.length_filter_le (fun x => fitsB p q (l ++ [x])) (marks (fromI l) u)
  rw [marks_len] at h2
  exact Nat.le_trans h1 (Nat.mul_le_mul_right _ h2)
theorem Asc.le {n : Nat} {l : List Int} (h : Asc n l) : fromI l ≤ n + 1 := by
  rcases hl : l.getLast? with _ | x
  · simp [fromI, hl]; omega
  · have := h.1 x (List.mem_of_getLast? hl)
    simp only [fromI, hl]
    omega

set_option maxHeartbeats 8000000 in
theorem find_rec (p q : List Int) (hp8 : p.length ≤ 8) (hq8 : q.length ≤ 8) : ∀ (k : Nat) (F rs : List Row) (r : Row) (A B D : Option Addr) (c d f lo : Nat) (w : World), r.xs.length + k = q.length → Asc p.length r.xs → lo ≤ w.heap.size → rs.length + p.length ^ k ≤ 100000000 →
    Rd (Value.int .i64) w lo A p → Rd (Value.int .i64) w lo B q → Own w lo w.heap.size (F ++ rs ++ [r]) [⟨D, f, rs.map Row.v⟩] →
    Calls Tryz.prog 103 #[.slice A p.length c, .slice B q.length d, .slice r.A r.xs.length r.c, .slice D rs.length f] w (Filled w lo F rs (occF p q k r.xs)) := by
  obtain ⟨i0, hi, hz0, hz1, hz2⟩ := info_parts infoI
  obtain ⟨j0, hj, hy0, hy1, hy2⟩ := info_parts infoL
  intro k
  induction k with
  | zero =>
    intro F rs r A B D c d f lo w hr has hlo hcount hp hq hO
    have hcount : rs.length + 1 ≤ 100000000 := by simpa using hcount
    have d1 : ((r.xs.length : Int) == (q.length : Int)) = true := by simp; omega
    have ho := hO.outN (n := rs.length) (by simp)
    have HR := Lib.hid hr
    clear hr
    go_enter Tryz.func103, Tryz.ntmps103
    go_wp2_with (at_builtin; refine wpList_append_own _ rfl _ _ 26 rfl (lo) 24 j0 (.slice none 0 0) 1 24 Tryz.underlying26 hj hy0 hy1 hy2 rfl (by decide) _ _ _ rfl (World.ownsRow.alloc ho _) ⟨w.heap.size, 0, none⟩ 1 1 [Value.slice r.A r.xs.length r.c] rfl rfl (cell_one_at _ _ (by simp)) (by intro u hu; simp at hu; subst hu; rfl) (by unfold maxLen; omega) (by omega) (by simp; omega) ?_; intro v9 w9 hown9 hgrow9 _)
    obtain ⟨A5, c5, rfl, hO6, hg3⟩ := hO.grow (Nat.le_refl _) (by simp) hown9 hgrow9
    have hbw := (Below.refl lo w).grown hg3 hlo (fun g hg => (hO.olim (by simp) g hg).1)
    have K := Lib.hid (And.intro hO6 hbw)
    clear hO6 hbw hown9 hgrow9 hg3 hO ho
    go_wp2
    go_ret
    exact ⟨A5, c5, [r], rfl, rfl, by simpa [Row.v, List.append_assoc] using K.out.1, K.out.2⟩
  | succ k ih =>
    intro F rs r A B D c d f lo w hr has hlo hcount hp hq hO
    have d1 : ((r.xs.length : Int) == (q.length : Int)) = false := by simp; omega
    have hrl : r.xs.length < q.length := by omega
    have hfrom := has.from
    have hfromle := has.le
    obtain ⟨fr, hfr⟩ : ∃ fr : Nat, (fr : Int) = fromI r.xs := ⟨(fromI r.xs).toNat, by omega⟩
    have hfr1 : 1 ≤ fr := by omega
    have hfr2 : fr ≤ p.length + 1 := by omega
    obtain ⟨m, hm⟩ : ∃ m : Nat, m = ((p.length : Int) + 1 - fromI r.xs).toNat := ⟨_, rfl⟩
    have hmu : ∀ u : Nat, fr + u ≤ p.length ↔ u < m := fun u => by omega
    have hm8 : m ≤ p.length := by omega
    have HMU := Lib.hid hmu
    have HG := Lib.hid (show occF p q (k + 1) r.xs = findTo p q k r.xs m by rw [hm]; rfl)
    have HFR := Lib.hid hfr
    have hpow : ∀ u, u + 1 ≤ m → u * p.length ^ k + p.length ^ k ≤ p.length ^ (k + 1) := fun u hu => by
      have := Nat.mul_le_mul_right (p.length ^ k) (Nat.le_trans hu hm8)
      rw [Nat.add_mul, Nat.one_mul] at this
      rw [Nat.pow_succ, Nat.mul_comm (p.length ^ k)]
      exact this
    have HP := Lib.hid hpow
    have HR := Lib.hid hr
    have HC := Lib.hid hcount
    have hO0 : Own w lo w.heap.size (F ++ [r] ++ (rs ++ [])) [⟨D, f, (rs ++ []).map Row.v⟩] := by
      rw [List.append_nil]
      refine hO.perm ?_
      rw [List.append_assoc, List.append_assoc]
      exact List.Perm.append_left F List.perm_append_comm
    have hrd0 := own_row hO (r := r) (by simp) (Nat.le_refl _)
    clear hr hcount hpow hO hfr hm hmu
    go_enter Tryz.func103, Tryz.ntmps103
    go_upto_if 23 with (fail)
    go_cut [9] (fun s9 wx => s9 = .int .i64 (fr : Int) ∧ wx = w)
    case first =>
      rcases Nat.eq_zero_or_pos r.xs.length with h0 | h0
      · have h0f : r.xs = [] := List.eq_nil_of_length_eq_zero h0
        have HF := Lib.hid (show fr = 1 by have := HFR.out; rw [h0f, fromI_nil] at this; omega)
        have d2 : decide (0 < r.xs.length) = false := decide_eq_false (by omega)
        have d3 : r.xs.length ≤ 0 := by omega
        clear h0 h0f
        go_wp2_with fail
        go_meet
        exact ⟨by rw [HF.out]; rfl, rfl⟩
      · obtain ⟨b, off, hA, _, hc⟩ := hrd0.2 (by omega)
        have c1 := hc (r.xs.length - 1) (by omega)
        have HF := Lib.hid (show (fr : Int) = r.xs[r.xs.length - 1] + 1 by
          rw [HFR.out]
          have : r.xs.getLast? = some r.xs[r.xs.length - 1] := by rw [List.getLast?_eq_getElem?, List.getElem?_eq_getElem (by omega)]
          simp only [fromI, this])
        have d2 : decide (0 < r.xs.length) = true := decide_eq_true (by omega)
        have hb1 := has.1 r.xs[r.xs.length - 1] (List.getElem_mem (by omega))
        have e0 : 1 ≤ (r.xs.length : Int) := by omega
        have e2 : 0 ≤ (r.xs.length : Int) - 1 := by omega
        have e3 : (r.xs.length : Int) - 1 < r.xs.length := by omega
        have e1 : ((r.xs.length : Int) - 1).toNat = r.xs.length - 1 := by omega
        clear hc
        rw [hA]
        go_wp2_with fail
        rw [← hA]
        go_meet
        exact ⟨by rw [HF.out], rfl⟩
    case rest =>
      obtain ⟨rfl, rfl⟩ := hcut
      clear hrd0
      go_wp2_with fail
      go_loopw [3, 10] (fun o i wr => ∃ (u : Nat) (A1 : Option Addr) (c1 : Nat) (rs1 : List Row), u ≤ m ∧ i = .int .i64 ((fr : Int) + u) ∧ o = .slice A1 (rs.length + rs1.length) c1 ∧ Hid (rs1.map Row.xs = findTo p q k r.xs u) ∧
        Own wr lo wr.heap.size (F ++ [r] ++ (rs ++ rs1)) [⟨A1, c1, (rs ++ rs1).map Row.v⟩] ∧ Below lo wc wr ∧ lo ≤ wr.heap.size) (fun _ i _ => m - ((intOf i).toNat - fr))
      case atStart => exact ⟨0, D, f, [], Nat.zero_le _, by simp, rfl, Lib.hid rfl, hO0, Below.refl _ _, hlo⟩
      case round =>
        clear hO0
        obtain ⟨u, A1, c1, rs1, hu, rfl, rfl, HX, hO, hb, hlo1⟩ := hrel
        have hrd := own_row hO (r := r) (by simp) (Nat.le_refl _)
        rcases Nat.lt_or_ge u m with hlt | hge
        · have hle : fr + u ≤ p.length := (HMU.out u).2 hlt
          have own0 : (wr.alloc (.cells #[] 3)).ownsRow wr.heap.size 3 1 (.slice (some ⟨wr.heap.size, 0, none⟩) 0 0) 0 [] := World.ownsRow_lit wr #[] 0 (Nat.le_refl _) (by unfold maxLen; omega) rfl
          have hx0 := hrd.2.alloc (Nat.le_refl _) (.cells #[] 3)
          have hbA := (Below.refl wr.heap.size wr).alloc (Nat.le_refl _) (.cells #[] 3)
          go_wp2_with (first | ((at_builtin; refine wpList_append_rd _ rfl _ _ 24 rfl (wr.heap.size) 3 i0 (.int .i64 0) 8 Tryz.underlying24 hi hz0 hz1 hz2 rfl _ _ _ rfl own0 _ _ _ _ (r.xs) rfl rfl hx0 (fun _ => rfl) (by unfold maxLen; omega) (by omega) (by first | omega | (simp; done) | (simp; omega)) ?_; intro v1 w1 hown1 hgrow1); simp only [Nat.zero_add, List.nil_append] at hown1; obtain ⟨A3, c3, rfl, _, _⟩ := own_shape hown1; have hbB := hbA.grown hgrow1 (by simp) (fun g hg => (own0.lt g hg).1); have hszB := hbB.size) | (at_builtin; refine wpList_append_own _ rfl _ _ 24 rfl (wr.heap.size) 3 i0 (.int .i64 0) 1 8 Tryz.underlying24 hi hz0 hz1 hz2 rfl (by decide) _ _ _ rfl (World.ownsRow.alloc hown1 _) ⟨w1.heap.size, 0, none⟩ 1 1 [.int .i64 ((fr : Int) + u)] rfl rfl (cell_one_new _ _ _) (by intro u hu; simp at hu; subst hu; rfl) (by unfold maxLen; omega) (by omega) (by simp; omega) ?_; intro v2 w2 hown2 hgrow2 _))
          have hbC := (hbB.alloc hszB (Obj.cells #[Value.int .i64 ((fr : Int) + u)] 3)).grown hgrow2 (by simp; omega) (fun g hg => (hown1.lt g hg).1)
          have hrow : w2.ownsRow wr.heap.size 3 1 v2 (r.xs.length + 1) ((r.xs ++ [(fr : Int) + u]).map (Value.int .i64)) := by simpa using hown2
          obtain ⟨A4, c4, rfl, _, _⟩ := own_shape hrow
          have hszC := hbC.size
          have hO1 := hO.below hbC
          have hO2 := hO1.add (r := ⟨A4, c4, r.xs ++ [(fr : Int) + u]⟩) (by simpa [Row.v] using hrow) hszC hlo1
          have hb2 := hb.trans (hbC.mono hlo1)
          have hlo2 : lo ≤ w2.heap.size := by omega
          have hrow2 := own_row hO2 (r := ⟨A4, c4, r.xs ++ [(fr : Int) + u]⟩) (by simp) (Nat.le_refl _)
          have hp2 := hp.below hb2
          have hq2 := hq.below hb2
          have has2 : Asc p.length (r.xs ++ [(fr : Int) + u]) := has.snoc (ways_mem.2 ⟨by rw [← HFR.out]; omega, by omega⟩)
          have hmem : ∀ x ∈ r.xs ++ [(fr : Int) + u], 1 ≤ x ∧ x ≤ p.length := fun x hx => by have := has2.1 x hx; omega
          have hlen1 : (r.xs ++ [(fr : Int) + u]).length = r.xs.length + 1 := by simp
          have HT := Lib.hid (findTo_succ p q k r.xs u)
          have hcnt : rs.length + rs1.length + p.length ^ k ≤ 100000000 := by
            have h1 := congrArg List.length HX.out
            have h2 := findTo_le p q k r.xs u hfrom
            have h3 := HP.out u hlt
            have h4 := HC.out
            rw [List.length_map] at h1
            omega
          have HL1 := Lib.hid hlen1
          have hOk := hO1.wider (Nat.le_refl _) hszC
          clear hown1 hown2 hgrow1 hgrow2 hbA hbB hrow hx0 own0 hO hO1 hlen1
          go_wp2_with fail
          by_cases hft : fitsB p q (r.xs ++ [(fr : Int) + u]) = true
          · have HE := Lib.hid (show findTo p q k r.xs (u + 1) = findTo p q k r.xs u ++ occF p q k (r.xs ++ [(fr : Int) + u]) by rw [HT.out, ← HFR.out, if_pos hft])
            have HH := Lib.hid hft
            clear hft
            (with_reducible refine (l7Fits_any A B A4 c d c4 (r.xs.length + 1) p q (r.xs ++ [(fr : Int) + u]) w2 HL1.out (by omega) (by omega) (by omega) (by omega) hmem (hp2.more hlo2) (hq2.more hlo2) hrow2.2).mono ?_)
            rintro e w3 ⟨rfl, hd3⟩
            rw [HH.out]
            have hO3 := hO2.dr hd3
            have hsz3 : w3.heap.size = w2.heap.size := by rw [hd3.heap]
            rw [← hsz3] at hO3
            have hb3 := below_dr hb2 hd3
            have hlo3 : lo ≤ w3.heap.size := by omega
            have IH := ih (F ++ [r]) (rs ++ rs1) ⟨A4, c4, r.xs ++ [(fr : Int) + u]⟩ A B A1 c d c1 lo w3 (by have := HR.out; have := HL1.out; show (r.xs ++ [(fr : Int) + u]).length + k = _; omega) has2 hlo3 (by rw [List.length_append]; exact hcnt) (hp2.dr hd3) (hq2.dr hd3) hO3
            rw [show (Row.mk A4 c4 (r.xs ++ [(fr : Int) + u])).xs.length = r.xs.length + 1 by simp, List.length_append] at IH
            have IHH := Lib.hid IH
            clear IH hO2 hO3 hOk hsz3 hrow2
            go_wp2_with fail
            (with_reducible refine IHH.out.mono ?_)
            rintro e w4 ⟨A5, c5, rs2, rfl, hxs, hO4, hb4⟩
            have K := Lib.hid (And.intro hxs (And.intro hO4 (hb3.trans hb4)))
            have hlo4 : lo ≤ w4.heap.size := by have := hb4.size; omega
            clear hxs hO4 hb4 IHH hb2 hb3
            go_wp2_with fail
            go_roundw
            case rel => exact ⟨u + 1, A5, c5, rs1 ++ rs2, by omega, by go_num, by rw [List.length_append]; go_num, Lib.hid (by rw [HE.out, List.map_append, HX.out, K.out.1]), by rw [← List.append_assoc rs]; exact K.out.2.1, K.out.2.2, hlo4⟩
            case measure => simp [intOf]; omega
          · have hff : fitsB p q (r.xs ++ [(fr : Int) + u]) = false := by simpa using hft
            have HE := Lib.hid (show findTo p q k r.xs (u + 1) = findTo p q k r.xs u by rw [HT.out, ← HFR.out, if_neg hft])
            have HH := Lib.hid hff
            clear hft hff
            (with_reducible refine (l7Fits_any A B A4 c d c4 (r.xs.length + 1) p q (r.xs ++ [(fr : Int) + u]) w2 HL1.out (by omega) (by omega) (by omega) (by omega) hmem (hp2.more hlo2) (hq2.more hlo2) hrow2.2).mono ?_)
            rintro e w3 ⟨rfl, hd3⟩
            rw [HH.out]
            have hO3 := hOk.dr hd3
            have hsz3 : w3.heap.size = w2.heap.size := by rw [hd3.heap]
            rw [← hsz3] at hO3
            have hb3 := below_dr hb2 hd3
            have hlo3 : lo ≤ w3.heap.size := by omega
            clear hO2 hOk hsz3 hrow2 hb2
            go_wp2_with fail
            go_roundw
            case rel => exact ⟨u + 1, A1, c1, rs1, by omega, by go_num, rfl, Lib.hid (by rw [HE.out]; exact HX.out), hO3, hb3, hlo3⟩
            case measure => simp [intOf]; omega
        · obtain rfl : u = m := by omega
          have hgt : p.length < fr + u := by have := (HMU.out u); omega
          have hO2 : Own wr lo wr.heap.size (F ++ (rs ++ rs1)) [⟨A1, c1, (rs ++ rs1).map Row.v⟩] := hO.sub (by
            rw [List.append_assoc F]
            exact List.Sublist.append_left (List.sublist_append_right _ _) F)
          go_wp2_with fail
          go_ret
          exact ⟨A1, c1, rs1, rfl, by rw [HG.out]; exact HX.out, hO2, hb⟩
end Go.Proofs.YtldknpjeegdbmaaGreat

/- Does a pattern occur: the program's search. -/
namespace Go.Proofs.YtldknpjeegdbmaaGreat
set_option maxRecDepth 100000
open Go Go.RowKit

/-- The last of the chosen places fits with all before it (places counted from 0). -/
theorem fits_up {p q l : List Int} {i : Int} : fitsB p q (up (l ++ [i])) = (List.range l.length).all fun k => decide (q[k]?.getD 0 < q[l.length]?.getD 0) == decide (nth p (l[k]?.getD 0) < nth p i) := by
  unfold fitsB up
  simp only [List.map_append, List.map_cons, List.map_nil, List.length_append, List.length_map, List.length_cons, List.length_nil, Nat.zero_add, Nat.add_sub_cancel]
  rw [Bool.eq_iff_iff, List.all_eq_true, List.all_eq_true]
  have hat : ∀ k, k < l.length → (atL p (l.map (· + 1) ++ [i + 1]))[k]?.getD 0 = nth p (l[k]?.getD 0) := fun k hk => by
    unfold atL nth
    rw [List.getElem?_map, List.getElem?_append_left (by simpa using hk), List.getElem?_map, List.getElem?_eq_getElem hk]
    simp only [Option.map_some, Option.getD_some, Int.add_sub_cancel]
  have hlast : (atL p (l.map (· + 1) ++ [i + 1]))[l.length]?.getD 0 = nth p i := by
    unfold atL nth
    rw [List.getElem?_map, List.getElem?_append_right (by simp)]
    simp only [List.length_map, Nat.sub_self, List.getElem?_cons_zero, Option.map_some, Option.getD_some, Int.add_sub_cancel]
  constructor
  · intro h k hk
    have h1 := h k hk
    rw [hat k (List.mem_range.1 hk), hlast] at h1
    exact h1
  · intro h k hk
    rw [hat k (List.mem_range.1 hk), hlast]
    exact h k hk
/-- The fits among the first k of the chosen. -/
def fitTo (p q l : List Int) (i : Int) (k : Nat) : Bool := (List.range k).all fun k => decide (q[k]?.getD 0 < q[l.length]?.getD 0) == decide (nth p (l[k]?.getD 0) < nth p i)
theorem fitTo_succ (p q l : List Int) (i : Int) (k : Nat) : fitTo p q l i (k + 1) = (fitTo p q l i k && (decide (q[k]?.getD 0 < q[l.length]?.getD 0) == decide (nth p (l[k]?.getD 0) < nth p i))) := by
  simp [fitTo, List.range_succ]
theorem fitTo_all (p q l : List Int) (i : Int) : fitTo p q l i l.length = fitsB p q (up (l ++ [i])) := fits_up.symm
/-- What the search has found behind the first u places. -/
def hasTo (p q : List Int) (k : Nat) (l : List Int) (u : Nat) : Bool := (marks (from0 l) u).any fun i => fitsB p q (up (l ++ [i])) && hasF p q k (l ++ [i])
theorem hasTo_succ (p q : List Int) (k : Nat) (l : List Int) (u : Nat) : hasTo p q k l (u + 1) = (hasTo p q k l u || (fitsB p q (up (l ++ [from0 l + u])) && hasF p q k (l ++ [from0 l + u]))) := by
  unfold hasTo
  rw [marks_succ, List.any_append]
  simp
theorem hasTo_mono {p q : List Int} {k : Nat} {l : List Int} {u m : Nat} (h : u < m) (h1 : (fitsB p q (up (l ++ [from0 l + u])) && hasF p q k (l ++ [from0 l + u])) = true) : hasTo p q k l m = true := by
  unfold hasTo
  refine List.any_eq_true.2 ⟨from0 l + u, List.mem_map.2 ⟨u, List.mem_range.2 h, rfl⟩, h1⟩
/-- Chosen places, ascending and within p. -/
def Chos (n : Nat) (l : List Int) : Prop := (∀ x ∈ l, 0 ≤ x ∧ x < n) ∧ 0 ≤ from0 l ∧ from0 l ≤ n
theorem Chos.nil (n : Nat) : Chos n [] := ⟨by simp, by simp [from0], by simp [from0]⟩
theorem Chos.snoc {n : Nat} {l : List Int} (h : Chos n l) {x : Int} (h1 : 0 ≤ x) (h2 : x < n) : Chos n (l ++ [x]) := by
  refine ⟨fun y hy => ?_, by simp [from0]; omega, by simp [from0]; omega⟩
  rcases List.mem_append.1 hy with hy | hy
  · exact h.1 y hy
  · obtain rfl := List.mem_singleton.1 hy
    exact ⟨h1, h2⟩


/-- The program's order: by length, then letter by letter. -/
def cmpP (p q : List Int) : Int := if p.length = q.length then cmpL p q else cmpI p.length q.length
/-- The first number that is not zero. -/
def orL : List Int → Int
  | [] => 0
  | x :: t => if x = 0 then orL t else x
theorem orL_zero (xs : List Int) (k : Nat) (h : ∀ x ∈ xs.take k, x = 0) (hk : k ≤ xs.length) : orL xs = orL (xs.drop k) := by
  induction k generalizing xs with
  | zero => rfl
  | succ k ih =>
    cases xs with
    | nil => simp at hk
    | cons a t =>
      have ha := h a (by simp)
      have := ih t (fun x hx => h x (by simp [hx])) (by simpa using hk)
      simp only [orL, List.drop_succ_cons, if_pos ha]
      exact this
set_option maxHeartbeats 800000 in
theorem or_any (A : Option Addr) (c n : Nat) (xs : List Int) (w : World) (hn : xs.length = n) (hl : n ≤ 4611686018427387904) (hx : Rd (Value.int .i64) w w.heap.size A xs) :
    Calls Tryz.prog 99 #[.slice A n c] w fun e w' => e = .returned (.int .i64 (orL xs)) ∧ w = w' := by
  subst hn
  go_enter Tryz.func99, Tryz.ntmps99
  go_wp2
  go_loop [8] (fun i => ∃ k : Nat, k ≤ xs.length ∧ i = .int .i64 k ∧ ∀ x ∈ xs.take k, x = 0) (fun i => xs.length - (intOf i).toNat)
  case atStart => exact ⟨0, Nat.zero_le _, rfl, by simp⟩
  case round =>
    obtain ⟨k, hk, rfl, hz⟩ := hrel
    have HZ := Lib.hid hz
    clear hz
    rcases Nat.lt_or_ge k xs.length with hlt | hge
    · obtain ⟨b, off, rfl, _, hc⟩ := hx (by omega)
      have c1 := hc k hlt
      clear hc
      by_cases he : xs[k] = 0
      · have hd : (xs[k] != 0) = false := by simp [he]
        have HE := Lib.hid he
        clear he
        go_wp2
        go_round
        case rel => exact ⟨k + 1, by omega, by go_num, by
          intro x hx
          rw [List.take_succ_eq_append_getElem hlt] at hx
          rcases List.mem_append.1 hx with h | h
          · exact HZ.out x h
          · rw [List.mem_singleton.1 h]; exact HE.out⟩
        case measure => simp [intOf]; omega
      · have hd : (xs[k] != 0) = true := by simp [he]
        have HO := Lib.hid (show orL xs = xs[k] by rw [orL_zero xs k HZ.out hk, List.drop_eq_getElem_cons hlt, orL, if_neg he])
        clear he
        go_wp2
        go_ret
        exact ⟨ret_int HO.out.symm, rfl⟩
    · have HO := Lib.hid (show orL xs = 0 by rw [orL_zero xs k HZ.out hk, List.drop_eq_nil_of_le hge]; rfl)
      go_wp2
      go_ret
      exact ⟨ret_int HO.out.symm, rfl⟩
theorem cmpP_or (p q : List Int) : orL [cmpI p.length q.length, cmpL p q] = cmpP p q := by
  unfold cmpP
  by_cases h : p.length = q.length
  · have : cmpI (p.length : Int) q.length = 0 := (cmpI_zero _ _).2 (by rw [h])
    rw [if_pos h, this]
    simp only [orL, if_pos]
    split
    · rename_i h0; exact h0.symm
    · rfl
  · have : cmpI (p.length : Int) q.length ≠ 0 := fun h0 => h (by have := (cmpI_zero _ _).1 h0; omega)
    rw [if_neg h]
    simp only [orL, if_neg this]
set_option maxHeartbeats 800000 in
theorem comparePerms_any (A A' : Option Addr) (c c' n m : Nat) (p q : List Int) (w : World) (hn : p.length = n) (hm : q.length = m) (hl : n ≤ 1048576) (hl' : m ≤ 1048576)
    (hx : Rd (Value.int .i64) w w.heap.size A p) (hy : Rd (Value.int .i64) w w.heap.size A' q) :
    Calls Tryz.prog 75 #[.slice A n c, .slice A' m c'] w (Rb w (.int .i64 (cmpP p q))) := by
  subst hn hm
  have HO := Lib.hid (cmpP_or p q)
  have hnew : Rd (Value.int .i64) (w.alloc (Obj.cells #[.int .i64 (cmpI p.length q.length), .int .i64 (cmpL p q)] 3)) (w.alloc (Obj.cells #[.int .i64 (cmpI p.length q.length), .int .i64 (cmpL p q)] 3)).heap.size (some ⟨w.heap.size, 0, none⟩) [cmpI p.length q.length, cmpL p q] :=
    Rd.of_own (c := 2) (World.ownsRow_lit (base := w.heap.size) w #[.int .i64 (cmpI p.length q.length), .int .i64 (cmpL p q)] 2 (Nat.le_refl _) (by unfold maxLen; omega) rfl)
  have hb0 := (Below.refl w.heap.size w).alloc (Nat.le_refl _) (Obj.cells #[.int .i64 (cmpI p.length q.length), .int .i64 (cmpL p q)] 3)
  go_enter Tryz.func75, Tryz.ntmps75
  go_wp2_with fail
  (with_reducible refine (compare_any (p.length : Int) (q.length : Int) w).mono ?_)
  rintro e w' ⟨rfl, rfl⟩
  go_wp2_with fail
  (with_reducible refine (compareS_any A A' c c' p.length q.length p q w rfl rfl (by omega) (by omega) hx hy).mono ?_)
  rintro e w' ⟨rfl, rfl⟩
  go_wp2_with fail
  (with_reducible refine (or_any (some ⟨w.heap.size, 0, none⟩) 2 2 [cmpI p.length q.length, cmpL p q] _ rfl (by omega) hnew).mono ?_)
  rintro e w' ⟨rfl, rfl⟩
  go_wp2_with fail
  go_ret
  exact ⟨ret_int HO.out, hb0⟩
end Go.Proofs.YtldknpjeegdbmaaGreat

/- Occurrences and bases: the roots of the searches, IsBasis in program and reference. -/
namespace Go.Proofs.YtldknpjeegdbmaaGreat
set_option maxRecDepth 100000
open Go Go.RowKit

/-- The two empty literals that the search begins with. -/
theorem find_root (A B : Option Addr) (c d : Nat) (p q : List Int) (w : World) (hp : In w A c p) (hq : In w B d q) (hp8 : p.length ≤ 8) (hq8 : q.length ≤ 8) :
    Calls Tryz.prog 103 #[.slice A p.length c, .slice B q.length d, .slice (some ⟨w.heap.size, 0, none⟩) 0 0, .slice (some ⟨w.heap.size + 1, 0, none⟩) 0 0] ((w.alloc (.cells #[] 3)).alloc (.cells #[] 24)) (RetL w (occL p q)) := by
  have own0 : (w.alloc (.cells #[] 3)).ownsRow w.heap.size 3 1 (Row.v ⟨some ⟨w.heap.size, 0, none⟩, 0, []⟩) 0 (([] : List Int).map (Value.int .i64)) := World.ownsRow_lit w #[] 0 (Nat.le_refl _) (by unfold maxLen; omega) rfl
  have hA : Own (w.alloc (.cells #[] 3)) w.heap.size (w.heap.size + 1) [⟨some ⟨w.heap.size, 0, none⟩, 0, []⟩] [] := by
    have := Own.add (os := []) (r := ⟨some ⟨w.heap.size, 0, none⟩, 0, []⟩) (Own.nil_ (w := w.alloc (.cells #[] 3)) (lo := w.heap.size) (hi := w.heap.size)) own0 (by simp) (Nat.le_refl _)
    simpa using this
  have hB : Own ((w.alloc (.cells #[] 3)).alloc (.cells #[] 24)) w.heap.size (w.heap.size + 1 + 1) [⟨some ⟨w.heap.size, 0, none⟩, 0, []⟩] [⟨some ⟨w.heap.size + 1, 0, none⟩, 0, []⟩] := by
    have h1 := hA.below ((Below.refl _ _).alloc (Nat.le_refl _) (.cells #[] 24))
    exact (h1.wider (Nat.le_refl _) (Nat.le_succ _)).with_ (A := some ⟨w.heap.size + 1, 0, none⟩) (c := 0) (vs := []) (by
      have := World.ownsRow_lit (base := w.heap.size) (e := 24) (size := 1) (w.alloc (.cells #[] 3)) #[] 0 (by simp) (by unfold maxLen; omega) rfl
      simpa using this) (by simp)
  have hb0 : Below w.heap.size w ((w.alloc (.cells #[] 3)).alloc (.cells #[] 24)) := ((Below.refl _ _).alloc (Nat.le_refl _) _).alloc (by simp) _
  have hpow : p.length ^ q.length ≤ 16777216 := by
    have h1 : p.length ^ q.length ≤ 8 ^ q.length := Nat.pow_le_pow_left hp8 _
    have h2 : 8 ^ q.length ≤ 8 ^ 8 := Nat.pow_le_pow_right (by omega) hq8
    omega
  have FSc := find_rec p q hp8 hq8 q.length [] [] ⟨some ⟨w.heap.size, 0, none⟩, 0, []⟩ A B (some ⟨w.heap.size + 1, 0, none⟩) c d 0 w.heap.size ((w.alloc (.cells #[] 3)).alloc (.cells #[] 24)) (by simp) (Asc.nil _) (by simp; omega) (by simp; omega) (hp.rd.below hb0) (hq.rd.below hb0) (by simpa using hB)
  exact FSc.mono fun e w' ⟨A', c', rs', he, hx, hO, hb⟩ => ⟨A', c', rs', by simpa using he, hx, by simpa using hO, hb0.trans hb⟩

/-- What a basis asks at the place k. -/
def basAt (L : List (List Int)) (k : Nat) : Bool :=
  permB (L[k]?.getD []) && decide ((L[k]?.getD []).length ≠ 0) && (decide (k = 0) || decide (cmpP (L[k - 1]?.getD []) (L[k]?.getD []) < 0)) && (List.range k).all fun i => !hasB (L[k]?.getD []) (L[i]?.getD [])
def basTo (L : List (List Int)) (k : Nat) : Bool := (List.range k).all (basAt L)
theorem basTo_succ (L : List (List Int)) (k : Nat) : basTo L (k + 1) = (basTo L k && basAt L k) := by simp [basTo, List.range_succ]
theorem basTo_false {L : List (List Int)} {k m : Nat} (h : k < m) (ht : basAt L k = false) : basTo L m = false := by
  unfold basTo
  rw [List.all_eq_false]
  exact ⟨k, List.mem_range.2 h, by simp [ht]⟩
theorem basTo_perm {L : List (List Int)} {k j : Nat} (h : basTo L k = true) (hj : j < k) (hl : j < L.length) : permB L[j] = true := by
  unfold basTo at h
  have := List.all_eq_true.1 h j (List.mem_range.2 hj)
  unfold basAt at this
  rw [List.getElem?_eq_getElem hl] at this
  simp only [Option.getD_some, Bool.and_eq_true] at this
  exact this.1.1.1
def basisB (L : List (List Int)) : Bool := decide (L.length ≤ 8) && basTo L L.length
def nohasTo (L : List (List Int)) (p : List Int) (i : Nat) : Bool := (List.range i).all fun i => !hasB p (L[i]?.getD [])
theorem nohasTo_succ (L : List (List Int)) (p : List Int) (i : Nat) : nohasTo L p (i + 1) = (nohasTo L p i && !hasB p (L[i]?.getD [])) := by simp [nohasTo, List.range_succ]
theorem nohasTo_false {L : List (List Int)} {p : List Int} {k m : Nat} (h : k < m) (ht : hasB p (L[k]?.getD []) = true) : nohasTo L p m = false := by
  unfold nohasTo
  rw [List.all_eq_false]
  exact ⟨k, List.mem_range.2 h, by simp [ht]⟩
theorem before_cmp (p q : List Int) : before p q = decide (cmpP p q < 0) := by
  unfold before cmpP
  by_cases h : p.length = q.length
  · rw [if_pos h, if_pos h]
  · rw [if_neg h, if_neg h]
    unfold cmpI
    rw [decide_eq_decide]
    constructor
    · intro hlt; rw [if_pos (by omega)]; omega
    · intro hlt
      split at hlt
      · omega
      · split at hlt <;> omega
theorem basAt_row {rs : List Row} {k : Nat} (hk : k < rs.length) : basAt (rs.map Row.xs) k = (permB rs[k].xs && decide (rs[k].xs.length ≠ 0) && (decide (k = 0) || decide (cmpP ((rs.map Row.xs)[k - 1]?.getD []) rs[k].xs < 0)) && nohasTo (rs.map Row.xs) rs[k].xs k) := by
  have hX : (rs.map Row.xs)[k]?.getD [] = rs[k].xs := by simp [hk]
  unfold basAt nohasTo
  rw [hX]
theorem getX {rs : List Row} {k : Nat} (hk : k < rs.length) : (rs.map Row.xs)[k]?.getD [] = rs[k].xs := by simp [hk]

end Go.Proofs.YtldknpjeegdbmaaGreat

/- slices.IndexFunc, slices.ContainsFunc: the function value by its contract. -/
namespace Go.Proofs.YtldknpjeegdbmaaGreat
set_option maxRecDepth 100000
open Go Go.RowKit

/-- A call's result: a number that is not below zero just where something holds. -/
def IdxPost (w : World) (b : Bool) (e : Ending) (w' : World) : Prop := ∃ i : Int, e = .returned (.int .i64 i) ∧ decide (i ≥ 0) = b ∧ Below w.heap.size w w'
theorem any_take_false {α : Type} {H : α → Bool} {l : List α} {k : Nat} (h : (l.take k).any H = false) (hk : k < l.length) (h1 : H l[k] = false) : (l.take (k + 1)).any H = false := by
  rw [List.take_succ_eq_append_getElem hk, List.any_append, h]
  simp [h1]
theorem any_at {α : Type} {H : α → Bool} {l : List α} {k : Nat} (hk : k < l.length) (h1 : H l[k] = true) : l.any H = true := List.any_eq_true.2 ⟨l[k], List.getElem_mem hk, h1⟩



set_option maxHeartbeats 800000 in
theorem indexFuncL1 (A : Option Addr) (c : Nat) (rs : List Row) (F : Nat) (g : Nat) (H : List Int → Bool) (w : World) (hl : rs.length ≤ 4611686018427387904) (hx : Read w w.heap.size rs [⟨A, c, rs.map Row.v⟩])
    (hF : ∀ args w', (callFunc F args).run Tryz.prog w' = .ok (.enter F args) w')
    (hcl : ∀ (w' : World) (k : Nat) (hk : k < rs.length), Below w.heap.size w w' → Calls Tryz.prog F #[.slice rs[k].A rs[k].xs.length rs[k].c, .pointer (some ⟨g, 0, none⟩)] w' (Rb w' (.bool (H rs[k].xs)))) :
    Calls Tryz.prog 78 #[.slice A rs.length c, .func (.func F) #[] #[.pointer (some ⟨g, 0, none⟩)]] w (IdxPost w (rs.any (fun r : Row => H r.xs))) := by
  go_enter Tryz.func78, Tryz.ntmps78
  go_wp2_with fail
  go_loopw [8] (fun i wr => ∃ k : Nat, k ≤ rs.length ∧ i = .int .i64 k ∧ Hid ((rs.take k).any (fun r : Row => H r.xs) = false) ∧ Below w.heap.size w wr) (fun i _ => rs.length - (intOf i).toNat)
  case atStart => exact ⟨0, Nat.zero_le _, rfl, Lib.hid rfl, Below.refl _ _⟩
  case round =>
    obtain ⟨k, hk, rfl, HN, hb⟩ := hrel
    have hsz := hb.size
    rcases Nat.lt_or_ge k rs.length with hlt | hge
    · have hcall := hcl wr k hlt hb
      obtain ⟨b, off, rfl, _, hc⟩ := (hx.below hb).at (by omega)
      have c1 := hc k hlt
      clear hc
      go_wp2_with fail
      (with_reducible refine hcall.mono ?_)
      rintro e w1 ⟨rfl, hb1⟩
      have hbz := hb.trans (hb1.mono hsz)
      by_cases hh : H rs[k].xs = true
      · have HT := Lib.hid (show rs.any (fun r : Row => H r.xs) = true from any_at hlt hh)
        rw [hh]
        clear hh hcall
        go_wp2_with fail
        go_ret
        exact ⟨k, rfl, by rw [HT.out]; exact decide_eq_true (by omega), hbz⟩
      · have hhf : H rs[k].xs = false := by simpa using hh
        have HT := Lib.hid (show (rs.take (k + 1)).any (fun r : Row => H r.xs) = false from any_take_false HN.out hlt hhf)
        rw [hhf]
        clear hh hhf hcall
        go_wp2_with fail
        go_roundw
        case rel => exact ⟨k + 1, by omega, by go_num, HT, hbz⟩
        case measure => simp [intOf]; omega
    · have HT := Lib.hid (show rs.any (fun r : Row => H r.xs) = false by have := HN.out; rwa [List.take_of_length_le hge] at this)
      go_wp2_with fail
      go_ret
      exact ⟨-1, rfl, by rw [HT.out]; rfl, hb⟩
theorem containsFuncL1 (A : Option Addr) (c : Nat) (rs : List Row) (F : Nat) (g : Nat) (H : List Int → Bool) (w : World) (hl : rs.length ≤ 4611686018427387904) (hx : Read w w.heap.size rs [⟨A, c, rs.map Row.v⟩])
    (hF : ∀ args w', (callFunc F args).run Tryz.prog w' = .ok (.enter F args) w')
    (hcl : ∀ (w' : World) (k : Nat) (hk : k < rs.length), Below w.heap.size w w' → Calls Tryz.prog F #[.slice rs[k].A rs[k].xs.length rs[k].c, .pointer (some ⟨g, 0, none⟩)] w' (Rb w' (.bool (H rs[k].xs)))) (b : Bool) (hb : rs.any (fun r : Row => H r.xs) = b) :
    Calls Tryz.prog 46 #[.slice A rs.length c, .func (.func F) #[] #[.pointer (some ⟨g, 0, none⟩)]] w (Rb w (.bool b)) := by
  subst hb
  have HI := Lib.hid (indexFuncL1 A c rs F g H w hl hx hF hcl)
  go_enter Tryz.func46, Tryz.ntmps46
  go_wp2_with fail
  (with_reducible refine HI.out.mono ?_)
  rintro e w1 ⟨i, rfl, hd, hb1⟩
  have HD := Lib.hid hd
  clear hd
  go_wp2_with fail
  go_ret
  exact ⟨ret_bool (by rw [← HD.out]), hb1⟩

set_option maxHeartbeats 800000 in
theorem indexFuncL0 (A : Option Addr) (c : Nat) (rs : List Row) (F : Nat) (H : List Int → Bool) (w : World) (hl : rs.length ≤ 4611686018427387904) (hx : Read w w.heap.size rs [⟨A, c, rs.map Row.v⟩])
    (hF : ∀ args w', (callFunc F args).run Tryz.prog w' = .ok (.enter F args) w')
    (hcl : ∀ (w' : World) (k : Nat) (hk : k < rs.length), Below w.heap.size w w' → Calls Tryz.prog F #[.slice rs[k].A rs[k].xs.length rs[k].c] w' (Rb w' (.bool (H rs[k].xs)))) :
    Calls Tryz.prog 78 #[.slice A rs.length c, .func (.func F) #[] #[]] w (IdxPost w (rs.any (fun r : Row => H r.xs))) := by
  go_enter Tryz.func78, Tryz.ntmps78
  go_wp2_with fail
  go_loopw [8] (fun i wr => ∃ k : Nat, k ≤ rs.length ∧ i = .int .i64 k ∧ Hid ((rs.take k).any (fun r : Row => H r.xs) = false) ∧ Below w.heap.size w wr) (fun i _ => rs.length - (intOf i).toNat)
  case atStart => exact ⟨0, Nat.zero_le _, rfl, Lib.hid rfl, Below.refl _ _⟩
  case round =>
    obtain ⟨k, hk, rfl, HN, hb⟩ := hrel
    have hsz := hb.size
    rcases Nat.lt_or_ge k rs.length with hlt | hge
    · have hcall := hcl wr k hlt hb
      obtain ⟨b, off, rfl, _, hc⟩ := (hx.below hb).at (by omega)
      have c1 := hc k hlt
      clear hc
      go_wp2_with fail
      (with_reducible refine hcall.mono ?_)
      rintro e w1 ⟨rfl, hb1⟩
      have hbz := hb.trans (hb1.mono hsz)
      by_cases hh : H rs[k].xs = true
      · have HT := Lib.hid (show rs.any (fun r : Row => H r.xs) = true from any_at hlt hh)
        rw [hh]
        clear hh hcall
        go_wp2_with fail
        go_ret
        exact ⟨k, rfl, by rw [HT.out]; exact decide_eq_true (by omega), hbz⟩
      · have hhf : H rs[k].xs = false := by simpa using hh
        have HT := Lib.hid (show (rs.take (k + 1)).any (fun r : Row => H r.xs) = false from any_take_false HN.out hlt hhf)
        rw [hhf]
        clear hh hhf hcall
        go_wp2_with fail
        go_roundw
        case rel => exact ⟨k + 1, by omega, by go_num, HT, hbz⟩
        case measure => simp [intOf]; omega
    · have HT := Lib.hid (show rs.any (fun r : Row => H r.xs) = false by have := HN.out; rwa [List.take_of_length_le hge] at this)
      go_wp2_with fail
      go_ret
      exact ⟨-1, rfl, by rw [HT.out]; rfl, hb⟩
theorem containsFuncL0 (A : Option Addr) (c : Nat) (rs : List Row) (F : Nat) (H : List Int → Bool) (w : World) (hl : rs.length ≤ 4611686018427387904) (hx : Read w w.heap.size rs [⟨A, c, rs.map Row.v⟩])
    (hF : ∀ args w', (callFunc F args).run Tryz.prog w' = .ok (.enter F args) w')
    (hcl : ∀ (w' : World) (k : Nat) (hk : k < rs.length), Below w.heap.size w w' → Calls Tryz.prog F #[.slice rs[k].A rs[k].xs.length rs[k].c] w' (Rb w' (.bool (H rs[k].xs)))) (b : Bool) (hb : rs.any (fun r : Row => H r.xs) = b) :
    Calls Tryz.prog 46 #[.slice A rs.length c, .func (.func F) #[] #[]] w (Rb w (.bool b)) := by
  subst hb
  have HI := Lib.hid (indexFuncL0 A c rs F H w hl hx hF hcl)
  go_enter Tryz.func46, Tryz.ntmps46
  go_wp2_with fail
  (with_reducible refine HI.out.mono ?_)
  rintro e w1 ⟨i, rfl, hd, hb1⟩
  have HD := Lib.hid hd
  clear hd
  go_wp2_with fail
  go_ret
  exact ⟨ret_bool (by rw [← HD.out]), hb1⟩

set_option maxHeartbeats 800000 in
theorem indexFuncL2 (A : Option Addr) (c : Nat) (rs : List Row) (F : Nat) (g g2 : Nat) (H : List Int → Bool) (w : World) (hl : rs.length ≤ 4611686018427387904) (hx : Read w w.heap.size rs [⟨A, c, rs.map Row.v⟩])
    (hF : ∀ args w', (callFunc F args).run Tryz.prog w' = .ok (.enter F args) w')
    (hcl : ∀ (w' : World) (k : Nat) (hk : k < rs.length), Below w.heap.size w w' → Calls Tryz.prog F #[.slice rs[k].A rs[k].xs.length rs[k].c, .pointer (some ⟨g, 0, none⟩), .pointer (some ⟨g2, 0, none⟩)] w' (Rb w' (.bool (H rs[k].xs)))) :
    Calls Tryz.prog 78 #[.slice A rs.length c, .func (.func F) #[] #[.pointer (some ⟨g, 0, none⟩), .pointer (some ⟨g2, 0, none⟩)]] w (IdxPost w (rs.any (fun r : Row => H r.xs))) := by
  go_enter Tryz.func78, Tryz.ntmps78
  go_wp2_with fail
  go_loopw [8] (fun i wr => ∃ k : Nat, k ≤ rs.length ∧ i = .int .i64 k ∧ Hid ((rs.take k).any (fun r : Row => H r.xs) = false) ∧ Below w.heap.size w wr) (fun i _ => rs.length - (intOf i).toNat)
  case atStart => exact ⟨0, Nat.zero_le _, rfl, Lib.hid rfl, Below.refl _ _⟩
  case round =>
    obtain ⟨k, hk, rfl, HN, hb⟩ := hrel
    have hsz := hb.size
    rcases Nat.lt_or_ge k rs.length with hlt | hge
    · have hcall := hcl wr k hlt hb
      obtain ⟨b, off, rfl, _, hc⟩ := (hx.below hb).at (by omega)
      have c1 := hc k hlt
      clear hc
      go_wp2_with fail
      (with_reducible refine hcall.mono ?_)
      rintro e w1 ⟨rfl, hb1⟩
      have hbz := hb.trans (hb1.mono hsz)
      by_cases hh : H rs[k].xs = true
      · have HT := Lib.hid (show rs.any (fun r : Row => H r.xs) = true from any_at hlt hh)
        rw [hh]
        clear hh hcall
        go_wp2_with fail
        go_ret
        exact ⟨k, rfl, by rw [HT.out]; exact decide_eq_true (by omega), hbz⟩
      · have hhf : H rs[k].xs = false := by simpa using hh
        have HT := Lib.hid (show (rs.take (k + 1)).any (fun r : Row => H r.xs) = false from any_take_false HN.out hlt hhf)
        rw [hhf]
        clear hh hhf hcall
        go_wp2_with fail
        go_roundw
        case rel => exact ⟨k + 1, by omega, by go_num, HT, hbz⟩
        case measure => simp [intOf]; omega
    · have HT := Lib.hid (show rs.any (fun r : Row => H r.xs) = false by have := HN.out; rwa [List.take_of_length_le hge] at this)
      go_wp2_with fail
      go_ret
      exact ⟨-1, rfl, by rw [HT.out]; rfl, hb⟩
theorem containsFuncL2 (A : Option Addr) (c : Nat) (rs : List Row) (F : Nat) (g g2 : Nat) (H : List Int → Bool) (w : World) (hl : rs.length ≤ 4611686018427387904) (hx : Read w w.heap.size rs [⟨A, c, rs.map Row.v⟩])
    (hF : ∀ args w', (callFunc F args).run Tryz.prog w' = .ok (.enter F args) w')
    (hcl : ∀ (w' : World) (k : Nat) (hk : k < rs.length), Below w.heap.size w w' → Calls Tryz.prog F #[.slice rs[k].A rs[k].xs.length rs[k].c, .pointer (some ⟨g, 0, none⟩), .pointer (some ⟨g2, 0, none⟩)] w' (Rb w' (.bool (H rs[k].xs)))) (b : Bool) (hb : rs.any (fun r : Row => H r.xs) = b) :
    Calls Tryz.prog 46 #[.slice A rs.length c, .func (.func F) #[] #[.pointer (some ⟨g, 0, none⟩), .pointer (some ⟨g2, 0, none⟩)]] w (Rb w (.bool b)) := by
  subst hb
  have HI := Lib.hid (indexFuncL2 A c rs F g g2 H w hl hx hF hcl)
  go_enter Tryz.func46, Tryz.ntmps46
  go_wp2_with fail
  (with_reducible refine HI.out.mono ?_)
  rintro e w1 ⟨i, rfl, hd, hb1⟩
  have HD := Lib.hid hd
  clear hd
  go_wp2_with fail
  go_ret
  exact ⟨ret_bool (by rw [← HD.out]), hb1⟩

end Go.Proofs.YtldknpjeegdbmaaGreat

/- Avoiding a list; InClass, IsWithin. -/
namespace Go.Proofs.YtldknpjeegdbmaaGreat
set_option maxRecDepth 100000
open Go Go.RowKit

def avoidB (X : List (List Int)) (p : List Int) : Bool := !X.any fun q => hasB p q
theorem basis_perm {X : List (List Int)} (h : basisB X = true) : ∀ q ∈ X, permB q = true := fun q hq => by
  unfold basisB at h
  rw [Bool.and_eq_true] at h
  obtain ⟨i, hi, rfl⟩ := List.mem_iff_getElem.1 hq
  exact basTo_perm h.2 hi hi
theorem basis_len {X : List (List Int)} (h : basisB X = true) : X.length ≤ 8 := by
  unfold basisB at h
  rw [Bool.and_eq_true, decide_eq_true_eq] at h
  exact h.1
theorem rows_8 {rs : List Row} (h : ∀ q ∈ rs.map Row.xs, permB q = true) : ∀ r ∈ rs, r.xs.length ≤ 8 := fun r hr => (permB_true (h r.xs (List.mem_map.2 ⟨r, hr, rfl⟩))).1
theorem any_rows (rs : List Row) (H : List Int → Bool) : (rs.any fun r : Row => H r.xs) = (rs.map Row.xs).any H := by rw [List.any_map]; rfl

def inClassB (X : List (List Int)) (p : List Int) : Bool := basisB X && permB p && avoidB X p
end Go.Proofs.YtldknpjeegdbmaaGreat

/- The program's occurrences: all ascending places, those that have the pattern. -/
namespace Go.Proofs.YtldknpjeegdbmaaGreat
set_option maxRecDepth 100000
open Go Go.RowKit

theorem pow_eight {n i : Nat} (hn : n ≤ 8) (hi : i ≤ 8) : n ^ i ≤ 16777216 := by
  have h1 : n ^ i ≤ 8 ^ i := Nat.pow_le_pow_left hn i
  have h2 : 8 ^ i ≤ 8 ^ 8 := Nat.pow_le_pow_right (by omega) hi
  omega
def ascTo (l : List Int) (u : Nat) : List (List Int) := (marks (fromI l) u).map fun x => l ++ [x]
theorem ascTo_succ (l : List Int) (u : Nat) : ascTo l (u + 1) = ascTo l u ++ [l ++ [fromI l + u]] := by unfold ascTo; rw [marks_succ, List.map_append]; rfl
theorem ascTo_length (l : List Int) (u : Nat) : (ascTo l u).length = u := by unfold ascTo; rw [List.length_map, marks_len]
theorem ascX_take_le (n : Nat) (ls : List (List Int)) (j : Nat) (h : ∀ l ∈ ls, 1 ≤ fromI l) : (ascX n (ls.take j)).length ≤ ls.length * n := by
  have h1 := flatMap_le (asc1 n) n (ls.take j) (fun p hp => by
    unfold asc1
    rw [List.length_map]
    exact ways_le (h p ((List.take_sublist j ls).subset hp)))
  have h2 : (ls.take j).length ≤ ls.length := by simp; omega
  have h3 := Nat.mul_le_mul_right n h2
  exact Nat.le_trans h1 h3

end Go.Proofs.YtldknpjeegdbmaaGreat

/- Occurrences in the program, and in the reference. -/
namespace Go.Proofs.YtldknpjeegdbmaaGreat
set_option maxRecDepth 100000
open Go Go.RowKit

/-- The first k rows that are kept. -/
def keptR (H : List Int → Bool) (rs : List Row) (k : Nat) : List Row := (rs.take k).filter fun r => H r.xs
theorem keptR_succ (H : List Int → Bool) (rs : List Row) (k : Nat) (h : k < rs.length) : keptR H rs (k + 1) = if H rs[k].xs = true then keptR H rs k ++ [rs[k]] else keptR H rs k := by
  unfold keptR
  rw [List.take_succ_eq_append_getElem h, List.filter_append]
  by_cases hh : H rs[k].xs = true <;> simp [hh]
theorem keptR_le (H : List Int → Bool) (rs : List Row) (k : Nat) : (keptR H rs k).length ≤ rs.length := by
  unfold keptR
  have h1 := List.length_filter_le (fun r : Row => H r.xs) (rs.take k)
  have h2 : (rs.take k).length ≤ rs.length := by simp; omega
  omega
theorem keptR_sub (H : List Int → Bool) (rs : List Row) : (keptR H rs rs.length).Sublist rs := by unfold keptR; rw [List.take_length]; exact List.filter_sublist
theorem keptR_all (H : List Int → Bool) (rs : List Row) : (keptR H rs rs.length).map Row.xs = (rs.map Row.xs).filter H := by unfold keptR; rw [List.take_length, List.filter_map]; rfl


set_option maxHeartbeats 1000000 in
theorem occurrencesOf_spec (A B : Option Addr) (c d : Nat) (p q : List Int) (w : World) (hp : In w A c p) (hq : In w B d q) (hP : permB p = true) (hQ : permB q = true) :
    Calls Tryz.prog 79 #[.slice A p.length c, .slice B q.length d] w (RetL w (occL p q)) := by
  have hp8 := (permB_true hP).1
  have hq8 := (permB_true hQ).1
  have H1 := Lib.hid hP
  have H2 := Lib.hid hQ
  clear hP hQ
  go_enter Tryz.func79, Tryz.ntmps79
  go_wp2_with fail
  (with_reducible refine (isPerm_sb A c p w true hp H1.out).mono ?_)
  rintro e w1 ⟨rfl, hd1⟩
  go_wp2_with fail
  (with_reducible refine (isPerm_sb B d q w1 true (hq.dr hd1) H2.out).mono ?_)
  rintro e w2 ⟨rfl, hd2⟩
  have hd := hd1.trans hd2
  have hb := below_dr (Below.refl w.heap.size w) hd
  have hs : w2.heap.size = w.heap.size := by rw [hd.heap]
  have FR := find_root A B c d p q w2 (hp.dr hd) (hq.dr hd) hp8 hq8
  have FRH := Lib.hid FR
  have HS := Lib.hid hs
  clear FR hs
  go_wp2_with fail
  (with_reducible refine FRH.out.mono ?_)
  rintro e w3 ⟨A3, c3, rs, rfl, hX, hO, hb3⟩
  have HX := Lib.hid hX
  clear hX FRH
  go_wp2_with fail
  go_ret
  have hle : w.heap.size ≤ w2.heap.size := by have := HS.out; omega
  exact ⟨A3, c3, rs, rfl, HX.out, hO.wider hle (Nat.le_refl _), hb.trans (hb3.mono hle)⟩
end Go.Proofs.YtldknpjeegdbmaaGreat

/- The permutations of a class: ClassOf, program and reference. -/
namespace Go.Proofs.YtldknpjeegdbmaaGreat
set_option maxRecDepth 100000
open Go Go.RowKit

def clsL (X : List (List Int)) (n : Nat) : List (List Int) := (permsL n).filter (avoidB X)
def clG (X : List (List Int)) (n : Int) : List (List Int) := if basisB X = true ∧ sixB n = true then clsL X n.toNat else []
theorem clsL_le {X : List (List Int)} {n : Nat} (hn : n ≤ 6) : (clsL X n).length ≤ 46656 := by
  unfold clsL
  have := List.length_filter_le (avoidB X) (permsL n)
  have := permsL_le hn
  omega
theorem sizeX_le {L : List (List Int)} {m : Nat} (h : ∀ l ∈ L, l.length ≤ m) : sizeX L ≤ L.length * m := by
  induction L with
  | nil => simp [sizeX]
  | cons a t ih =>
    have h1 := h a (by simp)
    have h2 := ih (fun l hl => h l (by simp [hl]))
    simp only [sizeX, List.map_cons, List.sum_cons, List.length_cons, Nat.add_mul, Nat.one_mul] at h2 ⊢
    omega
theorem clG_le (X : List (List Int)) (n : Int) : (clG X n).length + sizeX (clG X n) ≤ 1048576 := by
  unfold clG
  by_cases h : basisB X = true ∧ sixB n = true
  · rw [if_pos h]
    have h6 : 0 ≤ n ∧ n ≤ 6 := by simpa [sixB] using h.2
    have h1 := clsL_le (X := X) (n := n.toNat) (by omega)
    have h2 := sizeX_le (L := clsL X n.toNat) (m := 6) (fun l hl => by
      have := (permsI_mem (List.mem_filter.1 hl).1).1
      omega)
    omega
  · rw [if_neg h]; simp [sizeX]

end Go.Proofs.YtldknpjeegdbmaaGreat
