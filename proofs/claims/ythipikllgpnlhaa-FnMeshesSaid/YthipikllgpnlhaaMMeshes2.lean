/- Several texts in one, each with its own head: Z1, L1, L3, P1, P2, P2b. No program of ours. -/
import Derived.Maps.AppendAt
import Derived.BigQuiet
import Derived.Test.YthipikllgpnlhaaMMeshes1
/- The order of lists: a strict total order; ordered lists without repeats; plain maths. -/
namespace Go.Proofs.Ythipikllgpnlhaa
set_option maxRecDepth 100000
open Go Go.RowKit

theorem cmpL_refl (x : List Int) : cmpL x x = 0 := by
  induction x with
  | nil => rfl
  | cons a t ih => simp only [cmpL, Int.lt_irrefl, if_false]; exact ih
theorem cmpL_eq {x y : List Int} (h : cmpL x y = 0) : x = y := by
  induction x generalizing y with
  | nil => cases y with
    | nil => rfl
    | cons b s => simp [cmpL] at h
  | cons a t ih => cases y with
    | nil => simp [cmpL] at h
    | cons b s =>
      simp only [cmpL] at h
      split at h
      · omega
      · split at h
        · omega
        · rw [ih h, show a = b by omega]
theorem cmpL_neg (x y : List Int) : cmpL y x = - cmpL x y := by
  induction x generalizing y with
  | nil => cases y <;> simp [cmpL]
  | cons a t ih => cases y with
    | nil => simp [cmpL]
    | cons b s =>
      simp only [cmpL]
      by_cases h1 : a < b
      · rw [if_neg (show ¬ b < a by omega), if_pos h1, if_pos h1]; rfl
      · by_cases h2 : b < a
        · rw [if_pos h2, if_neg h1, if_pos h2]
        · rw [if_neg h1, if_neg h2, if_neg h2, if_neg h1]; exact ih s
theorem cmpL_lt_trans {x y z : List Int} (h1 : cmpL x y < 0) (h2 : cmpL y z < 0) : cmpL x z < 0 := by
  induction x generalizing y z with
  | nil => cases z with
    | nil => cases y <;> simp [cmpL] at h1 h2
    | cons c u => simp [cmpL]
  | cons a t ih => cases y with
    | nil => simp [cmpL] at h1
    | cons b s => cases z with
      | nil => simp [cmpL] at h2
      | cons c u =>
        simp only [cmpL] at h1 h2 ⊢
        by_cases hab : a < b
        · by_cases hbc : b < c
          · rw [if_pos (show a < c by omega)]; decide
          · by_cases hcb : c < b
            · rw [if_neg hbc, if_pos hcb] at h2; exact absurd h2 (by decide)
            · rw [if_pos (show a < c by omega)]; decide
        · by_cases hba : b < a
          · rw [if_neg hab, if_pos hba] at h1; exact absurd h1 (by decide)
          · obtain rfl : a = b := by omega
            rw [if_neg hab, if_neg hba] at h1
            by_cases hbc : a < c
            · rw [if_pos hbc]; decide
            · by_cases hcb : c < a
              · rw [if_neg hbc, if_pos hcb] at h2; exact absurd h2 (by decide)
              · rw [if_neg hbc, if_neg hcb] at h2 ⊢
                exact ih h1 h2

theorem before_irrefl (x : List Int) : before x x = false := by unfold before; rw [if_pos rfl, cmpL_refl]; rfl
theorem before_trans {x y z : List Int} (h1 : before x y = true) (h2 : before y z = true) : before x z = true := by
  unfold before at *
  by_cases e1 : x.length = y.length
  · rw [if_pos e1] at h1
    by_cases e2 : y.length = z.length
    · rw [if_pos e2] at h2
      rw [if_pos (e1.trans e2)]
      exact decide_eq_true (cmpL_lt_trans (of_decide_eq_true h1) (of_decide_eq_true h2))
    · rw [if_neg e2] at h2
      have := of_decide_eq_true h2
      rw [if_neg (by omega)]
      exact decide_eq_true (by omega)
  · rw [if_neg e1] at h1
    have h1 := of_decide_eq_true h1
    by_cases e2 : y.length = z.length
    · rw [if_neg (by omega)]
      exact decide_eq_true (by omega)
    · rw [if_neg e2] at h2
      have := of_decide_eq_true h2
      rw [if_neg (by omega)]
      exact decide_eq_true (by omega)
theorem before_total {x y : List Int} (h1 : before x y = false) (h2 : before y x = false) : x = y := by
  unfold before at *
  by_cases e1 : x.length = y.length
  · rw [if_pos e1] at h1
    rw [if_pos e1.symm, cmpL_neg x y] at h2
    have h1 := of_decide_eq_false h1
    have h2 := of_decide_eq_false h2
    exact cmpL_eq (by omega)
  · rw [if_neg e1] at h1
    rw [if_neg (fun h => e1 h.symm)] at h2
    have h1 := of_decide_eq_false h1
    have h2 := of_decide_eq_false h2
    omega
theorem before_asymm {x y : List Int} (h : before x y = true) : before y x = false := by
  cases h2 : before y x with
  | false => rfl
  | true => have := before_trans h h2; rw [before_irrefl] at this; cases this
/-- An ordered list without repeats. -/
def Srt (X : List (List Int)) : Prop := X.Pairwise fun x y => before x y = true
theorem srt_ext {X Y : List (List Int)} (hX : Srt X) (hY : Srt Y) (h : ∀ x, x ∈ X ↔ x ∈ Y) : X = Y := by
  induction X generalizing Y with
  | nil => cases Y with
    | nil => rfl
    | cons b t => exact absurd ((h b).2 (by simp)) (by simp)
  | cons a s ih => cases Y with
    | nil => exact absurd ((h a).1 (by simp)) (by simp)
    | cons b t =>
      unfold Srt at hX hY
      rw [List.pairwise_cons] at hX hY
      have hab : a = b := by
        rcases List.mem_cons.1 ((h a).1 (by simp)) with e | ha
        · exact e
        · rcases List.mem_cons.1 ((h b).2 (by simp)) with e | hb
          · exact e.symm
          · have h1 := hX.1 b hb
            have h2 := hY.1 a ha
            rw [before_asymm h1] at h2; cases h2
      subst hab
      rw [ih hX.2 hY.2 (fun x => ?_)]
      have hx := h x
      rw [List.mem_cons, List.mem_cons] at hx
      constructor
      · intro hs
        rcases hx.1 (.inr hs) with rfl | h'
        · have := hX.1 _ hs; rw [before_irrefl] at this; cases this
        · exact h'
      · intro ht
        rcases hx.2 (.inr ht) with rfl | h'
        · have := hY.1 _ ht; rw [before_irrefl] at this; cases this
        · exact h'

/-- The place at which l3Put puts a list. -/
def putAt (X : List (List Int)) (p : List Int) : Nat → Nat
  | 0 => 0
  | k + 1 => if before p (X[k]?.getD []) = true then putAt X p k else k + 1
def putL (X : List (List Int)) (p : List Int) : List (List Int) :=
  if 0 < putAt X p X.length ∧ X[putAt X p X.length - 1]?.getD [] = p then X else X.take (putAt X p X.length) ++ p :: X.drop (putAt X p X.length)
theorem putAt_le (X : List (List Int)) (p : List Int) (k : Nat) : putAt X p k ≤ k := by
  induction k with
  | zero => exact Nat.le_refl _
  | succ k ih => unfold putAt; split <;> omega
theorem putAt_above (X : List (List Int)) (p : List Int) (k j : Nat) (h1 : putAt X p k ≤ j) (h2 : j < k) : before p (X[j]?.getD []) = true := by
  induction k with
  | zero => omega
  | succ k ih =>
    unfold putAt at h1
    by_cases h : before p (X[k]?.getD []) = true
    · rw [if_pos h] at h1
      by_cases e : j = k
      · subst e; exact h
      · exact ih h1 (by omega)
    · rw [if_neg h] at h1; omega
theorem putAt_below (X : List (List Int)) (p : List Int) (k : Nat) (h : 0 < putAt X p k) : before p (X[putAt X p k - 1]?.getD []) = false := by
  induction k with
  | zero => exact absurd h (by simp [putAt])
  | succ k ih =>
    by_cases hb : before p (X[k]?.getD []) = true
    · have e : putAt X p (k + 1) = putAt X p k := by rw [putAt, if_pos hb]
      rw [e] at h ⊢; exact ih h
    · have e : putAt X p (k + 1) = k + 1 := by rw [putAt, if_neg hb]
      rw [e, Nat.add_sub_cancel]; simpa using hb
theorem getX_lt {X : List (List Int)} {j : Nat} (h : j < X.length) : X[j]?.getD [] = X[j] := by rw [List.getElem?_eq_getElem h]; rfl
theorem putL_mem (X : List (List Int)) (p q : List Int) : q ∈ putL X p ↔ q = p ∨ q ∈ X := by
  unfold putL
  have hle := putAt_le X p X.length
  split
  · rename_i h
    constructor
    · exact .inr
    · rintro (rfl | h')
      · have := h.2
        rw [getX_lt (by omega)] at this
        rw [← this]; exact List.getElem_mem _
      · exact h'
  · rw [List.mem_append, List.mem_cons]
    have : q ∈ X ↔ q ∈ X.take (putAt X p X.length) ∨ q ∈ X.drop (putAt X p X.length) := by rw [← List.mem_append, List.take_append_drop]
    rw [this]
    constructor
    · rintro (h | h | h)
      · exact .inr (.inl h)
      · exact .inl h
      · exact .inr (.inr h)
    · rintro (h | h | h)
      · exact .inr (.inl h)
      · exact .inl h
      · exact .inr (.inr h)
theorem putL_srt {X : List (List Int)} (hX : Srt X) (p : List Int) : Srt (putL X p) := by
  unfold putL
  have hle := putAt_le X p X.length
  split
  · exact hX
  · rename_i h
    have hp : ∀ i (hi : i < putAt X p X.length), before (X[i]'(by omega)) p = true := by
      intro i hi
      have h0 : 0 < putAt X p X.length := by omega
      have h1 := putAt_below X p X.length h0
      rw [getX_lt (by omega)] at h1
      have h2 : X[putAt X p X.length - 1] ≠ p := fun e => h ⟨h0, by rw [getX_lt (by omega)]; exact e⟩
      have h3 : before (X[putAt X p X.length - 1]'(by omega)) p = true := by
        cases hb : before (X[putAt X p X.length - 1]'(by omega)) p with
        | true => rfl
        | false => exact absurd (before_total hb h1) h2
      by_cases e : i = putAt X p X.length - 1
      · subst e; exact h3
      · exact before_trans (List.pairwise_iff_getElem.1 hX i (putAt X p X.length - 1) (by omega) (by omega) (by omega)) h3
    have hd : ∀ y ∈ X.drop (putAt X p X.length), before p y = true := by
      intro y hy
      obtain ⟨j, hj, rfl⟩ := List.mem_iff_getElem.1 hy
      rw [List.length_drop] at hj
      rw [List.getElem_drop]
      have := putAt_above X p X.length (putAt X p X.length + j) (by omega) (by omega)
      rwa [getX_lt (by omega)] at this
    have ht : ∀ y ∈ X.take (putAt X p X.length), before y p = true := by
      intro y hy
      obtain ⟨j, hj, rfl⟩ := List.mem_iff_getElem.1 hy
      rw [List.length_take] at hj
      rw [List.getElem_take]
      exact hp j (by omega)
    have hX' := hX
    unfold Srt at hX' ⊢
    rw [← List.take_append_drop (putAt X p X.length) X, List.pairwise_append] at hX'
    rw [List.pairwise_append]
    refine ⟨hX'.1, List.pairwise_cons.2 ⟨hd, hX'.2.1⟩, fun a ha b hb => ?_⟩
    rcases List.mem_cons.1 hb with rfl | hb
    · exact ht a ha
    · exact hX'.2.2 a ha b hb
theorem putL_old {X : List (List Int)} (hX : Srt X) {p : List Int} (hp : p ∈ X) : putL X p = X :=
  srt_ext (putL_srt hX p) hX fun x => by
    rw [putL_mem]
    constructor
    · rintro (rfl | h)
      · exact hp
      · exact h
    · exact .inr
theorem putL_new {X : List (List Int)} {p : List Int} (hp : p ∉ X) : putL X p = X.take (putAt X p X.length) ++ p :: X.drop (putAt X p X.length) := by
  unfold putL
  rw [if_neg]
  rintro ⟨h0, he⟩
  have hle := putAt_le X p X.length
  rw [getX_lt (by omega)] at he
  exact hp (by rw [← he]; exact List.getElem_mem _)
theorem putL_len (X : List (List Int)) (p : List Int) : (putL X p).length ≤ X.length + 1 := by
  unfold putL
  split
  · omega
  · simp; have := putAt_le X p X.length; omega
theorem putL_len_new {X : List (List Int)} {p : List Int} (hp : p ∉ X) : (putL X p).length = X.length + 1 := by
  rw [putL_new hp]
  have := putAt_le X p X.length
  simp; omega
/-- Lists put in order, each once. -/
def ordL (X : List (List Int)) : List (List Int) := X.foldl putL []
theorem foldl_putL (X Y : List (List Int)) (hY : Srt Y) : Srt (X.foldl putL Y) ∧ ∀ q, q ∈ X.foldl putL Y ↔ q ∈ Y ∨ q ∈ X := by
  induction X generalizing Y with
  | nil => exact ⟨hY, fun q => by simp⟩
  | cons a t ih =>
    obtain ⟨h1, h2⟩ := ih (putL Y a) (putL_srt hY a)
    refine ⟨h1, fun q => ?_⟩
    rw [List.foldl_cons, h2, putL_mem, List.mem_cons]
    constructor
    · rintro ((h | h) | h)
      · exact .inr (.inl h)
      · exact .inl h
      · exact .inr (.inr h)
    · rintro (h | h | h)
      · exact .inl (.inr h)
      · exact .inl (.inl h)
      · exact .inr h
theorem ordL_srt (X : List (List Int)) : Srt (ordL X) := (foldl_putL X [] List.Pairwise.nil).1
theorem ordL_mem (X : List (List Int)) (q : List Int) : q ∈ ordL X ↔ q ∈ X := by
  have := (foldl_putL X [] List.Pairwise.nil).2 q
  rw [List.mem_nil_iff, false_or] at this
  exact this
theorem ordL_take (X : List (List Int)) (k : Nat) (h : k < X.length) : ordL (X.take (k + 1)) = putL (ordL (X.take k)) X[k] := by
  unfold ordL; rw [List.take_succ_eq_append_getElem h, List.foldl_append]; rfl
theorem ordL_len (X : List (List Int)) : (ordL X).length ≤ X.length := by
  have : ∀ (X Y : List (List Int)), (X.foldl putL Y).length ≤ Y.length + X.length := by
    intro X
    induction X with
    | nil => intro Y; simp
    | cons a t ih => intro Y; have h1 := ih (putL Y a); have h2 := putL_len Y a; rw [List.foldl_cons, List.length_cons]; omega
  have := this X []
  simpa [ordL] using this

/-- Of equal neighbors the first one is kept. -/
def compL : List (List Int) → List (List Int)
  | [] => []
  | [x] => [x]
  | x :: y :: t => if x = y then compL (y :: t) else x :: compL (y :: t)
theorem compL_mem (X : List (List Int)) (q : List Int) : q ∈ compL X ↔ q ∈ X := by
  match X with
  | [] => simp [compL]
  | [x] => simp [compL]
  | x :: y :: t =>
    have ih := compL_mem (y :: t) q
    unfold compL
    split
    · rename_i h; subst h; rw [ih]; simp
    · rw [List.mem_cons, ih, List.mem_cons (b := x)]
theorem compL_srt (X : List (List Int)) (h : X.Pairwise fun x y => before y x = false) : Srt (compL X) := by
  match X with
  | [] => exact List.Pairwise.nil
  | [x] => exact List.pairwise_singleton _ _
  | x :: y :: t =>
    rw [List.pairwise_cons] at h
    have ih := compL_srt (y :: t) h.2
    unfold compL
    split
    · exact ih
    · rename_i hne
      refine List.pairwise_cons.2 ⟨fun z hz => ?_, ih⟩
      rw [compL_mem] at hz
      have hxy : before x y = true := by
        cases hb : before x y with
        | true => rfl
        | false => exact absurd (before_total hb (h.1 y (by simp))) hne
      rcases List.mem_cons.1 hz with rfl | hz
      · exact hxy
      · have h2 := (List.pairwise_cons.1 h.2).1 z hz
        cases hb : before y z with
        | true => exact before_trans hxy hb
        | false => rw [← before_total hb h2]; exact hxy
/-- Sorting and taking of equals one is what putting one after the other gives. -/
theorem comp_ord {S X : List (List Int)} (hs : S.Pairwise fun x y => before y x = false) (hm : ∀ q, q ∈ S ↔ q ∈ X) : compL S = ordL X :=
  srt_ext (compL_srt S hs) (ordL_srt X) fun q => by rw [compL_mem, ordL_mem, hm]
theorem ordL_self {X : List (List Int)} (h : Srt X) : ordL X = X := srt_ext (ordL_srt X) h fun q => ordL_mem X q
theorem ordL_congr {X Y : List (List Int)} (h : ∀ q, q ∈ X ↔ q ∈ Y) : ordL X = ordL Y := srt_ext (ordL_srt X) (ordL_srt Y) fun q => by rw [ordL_mem, ordL_mem, h]
end Go.Proofs.Ythipikllgpnlhaa

/- Lists of rows: the laws' own helpers toIntSS, eqIntSS, markIntSS, heldIntSS, szIntSS. -/
namespace Go.Proofs.Ythipikllgpnlhaa
set_option maxRecDepth 100000
open Go Go.RowKit

theorem infoL : (Try.prog.info? 24).map (fun i => (i.zero, i.size, i.bytes)) = some (some (.slice none 0 0), 1, 24) := by kernel_rfl

def sizeX (X : List (List Int)) : Nat := (X.map List.length).sum
theorem sizeR_eq (rs : List Row) : sizeR rs = sizeX (rs.map Row.xs) := by simp only [sizeR, sizeX, List.map_map]; rfl
theorem map_len {rs rs' : List Row} (h : rs'.map Row.xs = rs.map Row.xs) : rs'.length = rs.length := by have := congrArg List.length h; simpa using this
theorem map_size {rs rs' : List Row} (h : rs'.map Row.xs = rs.map Row.xs) : sizeR rs' = sizeR rs := by rw [sizeR_eq, sizeR_eq, h]
theorem map_len1 {rs : List Row} {X : List (List Int)} (h : rs.map Row.xs = X) : rs.length = X.length := by rw [← h, List.length_map]
theorem map_size1 {rs : List Row} {X : List (List Int)} (h : rs.map Row.xs = X) : sizeR rs = sizeX X := by rw [sizeR_eq, h]
theorem sizeR_mem {rs : List Row} {r : Row} (h : r ∈ rs) : r.xs.length ≤ sizeR rs := by
  induction rs with
  | nil => cases h
  | cons a t ih =>
    have e : sizeR (a :: t) = a.xs.length + sizeR t := by simp [sizeR]
    rcases List.mem_cons.1 h with rfl | h
    · omega
    · have := ih h; omega
theorem sizeR_take (rs : List Row) (j : Nat) (h : j < rs.length) : sizeR (rs.take (j + 1)) = sizeR (rs.take j) + rs[j].xs.length := by
  rw [List.take_succ_eq_append_getElem h, sizeR_append]; simp [sizeR]
theorem sizeR_take_le (rs : List Row) (j : Nat) : sizeR (rs.take j) ≤ sizeR rs := by
  have := sizeR_append (rs.take j) (rs.drop j)
  rw [List.take_append_drop] at this
  omega

/-- What a call is handed of a list of rows. -/
structure InL (w : World) (A : Option Addr) (c : Nat) (rs : List Row) : Prop where
  len : rs.length + sizeR rs ≤ 1048576
  read : Read w w.heap.size rs [⟨A, c, rs.map Row.v⟩]
theorem InL.next {w w' : World} {A : Option Addr} {c : Nat} {rs : List Row} (h : InL w A c rs) (hb : Below w.heap.size w w') : InL w' A c rs := ⟨h.len, (h.read.below hb).more hb.size⟩
theorem InL.dr {w w' : World} {A : Option Addr} {c : Nat} {rs : List Row} (h : InL w A c rs) (hd : Dr w w') : InL w' A c rs := ⟨h.len, (h.read.dr hd).more (by rw [hd.heap]; exact Nat.le_refl _)⟩
theorem Read.toL {w : World} {hi : Nat} {A : Option Addr} {c : Nat} {rs : List Row} (h : Read w hi rs [⟨A, c, rs.map Row.v⟩]) (hl : rs.length + sizeR rs ≤ 1048576) (hB : hi ≤ w.heap.size) : InL w A c rs := ⟨hl, h.more hB⟩
theorem InL.row {w : World} {A : Option Addr} {c : Nat} {rs : List Row} (h : InL w A c rs) {r : Row} (hr : r ∈ rs) : In w r.A r.c r.xs :=
  h.read.mem hr (by have := sizeR_mem hr; have := h.len; omega) (Nat.le_refl _)
theorem Read.at {w : World} {B : Nat} {A : Option Addr} {c : Nat} {rs : List Row} (h : Read w B rs [⟨A, c, rs.map Row.v⟩]) (h0 : 0 < rs.length) :
    ∃ b off, A = some ⟨b, off, none⟩ ∧ b < B ∧ ∀ j (hj : j < rs.length), w.cell? ⟨b, off + j, none⟩ = some (Value.slice rs[j].A rs[j].xs.length rs[j].c) := by
  obtain ⟨b, off, he, hb, hc⟩ := h.ord _ (List.mem_singleton.2 rfl) (by simpa using h0)
  refine ⟨b, off, he, hb, fun j hj => ?_⟩
  have := hc j (by simpa using hj)
  rw [this]
  simp [Row.v]
theorem Read.atN {w : World} {B : Nat} {A : Option Addr} {c : Nat} {rs : List Row} {X : List Value} (h : Read w B rs [⟨A, c, X⟩]) (h0 : 0 < X.length) :
    ∃ b off, A = some ⟨b, off, none⟩ ∧ b < B ∧ ∀ j (hj : j < X.length), w.cell? ⟨b, off + j, none⟩ = some X[j] := h.ord _ (List.mem_singleton.2 rfl) h0






end Go.Proofs.Ythipikllgpnlhaa

/- Lists of rows that a call makes and lets grow. -/
namespace Go.Proofs.Ythipikllgpnlhaa
set_option maxRecDepth 100000
open Go Go.RowKit

/-- append onto a row of the call's own, at an operation whose guard is met. -/
theorem wpList_append_own_g {P : Program} (w : World) {ops : Array Oper} {rest : List Oper} {o : Oper} {a : Act} {Q : Exit → Act → World → Prop} (hgd : Region.wanted o (yielded ops a.tmps) = true) (s x : Operand) (t : TypeId)
    (ho : o.op = .call { callee := .builtin .append, args := #[s, x], argTypes := #[t, t] })
    (base : Nat) (e : TypeId) (i : TypeInfo) (z : Value) (size bytes : Nat) (ht : P.underlying t = some (.slice e)) (hi : P.info? e = some i) (hz : i.zero = some z)
    (hsize : i.size = size) (hby : i.bytes = bytes) (hzs : z.cells.size = size) (hsz : 0 < size)
    (v : Value) (n : Nat) (xs : List Value) (hs : a.eval s = v) (hown : w.ownsRow base e size v n xs)
    (ad : Addr) (m c : Nat) (news : List Value) (hx : a.eval x = .slice (some ad) m c) (hl : news.length = m * size) (hnews : ∀ j u, news[j]? = some u → w.cell? (ad.add j) = some u) (h1 : ∀ u ∈ news, u.oneCell' = true)
    (h63 : n + m ≤ maxLen) (hbytes : (n + m) * bytes ≤ 140737488355328) (hbase : base ≤ w.heap.size)
    (h : ∀ v' w', w'.ownsRow base e size v' (n + m) (xs ++ news) → w.grownBy w' v.ownBlock → (v' = .slice none 0 0 ↔ v = .slice none 0 0 ∧ m = 0) → wpList P ops Q rest (a.put o.dst v') w') : wpList P ops Q (o :: rest) a w := by
  show if Region.wanted o (yielded ops a.tmps) = true then _ else _
  rw [if_pos hgd]
  exact Or.inl (wp_append_own w s x t ho base e i z size bytes ht hi hz hsize hby hzs hsz v n xs hs hown ad m c news hx hl hnews h1 h63 hbytes hbase h)
theorem cell_one_at {w : World} {H : Nat} (v : Value) (t : TypeId) (h : w.heap.size = H) : ∀ (j : Nat) (u : Value), [v][j]? = some u → (w.alloc (.cells #[v] t)).cell? ((⟨H, 0, none⟩ : Addr).add j) = some u := by
  subst h
  exact cell_one_new w v t

/-- A call's result of two: a slice of the call's own, and a bool. -/
def Ret2 {α : Type} (f : α → Value) (e : TypeId) (w : World) (ys : List α) (b : Bool) (en : Ending) (w' : World) : Prop :=
  ∃ A c, en = .returned (.tuple #[.slice A ys.length c, .bool b]) ∧ ys.length ≤ c ∧ c ≤ maxLen ∧ w'.ownsRow w.heap.size e 1 (.slice A ys.length c) ys.length (ys.map f) ∧ Below w.heap.size w w'
/-- A call's result: a list of rows of its own. -/
def RetL (w : World) (L : List (List Int)) (e : Ending) (w' : World) : Prop :=
  ∃ A c rs, e = .returned (.slice A rs.length c) ∧ rs.map Row.xs = L ∧ Own w' w.heap.size w'.heap.size rs [⟨A, c, rs.map Row.v⟩] ∧ Below w.heap.size w w'

section
variable {w w' : World} {lo hi m : Nat} {rs rs' : List Row} {os os' : List Outer}
theorem Own.perm (h : Own w lo hi rs os) (hp : rs.Perm rs') : Own w lo hi rs' os :=
  ⟨fun r hr => h.rows r (hp.mem_iff.2 hr), fun r hr => h.lt r (hp.mem_iff.2 hr), hp.pairwise h.apart (fun {a b} hab => by
    rcases ha : a.v.ownBlock with _ | g
    · rcases hb : b.v.ownBlock with _ | g'
      · exact .inl rfl
      · exact .inr (by simp)
    · rcases hab with e | e
      · rw [ha] at e; cases e
      · exact .inr fun e' => e (by rw [ha, e'])), h.outs, h.olt⟩
theorem Own.sub (h : Own w lo hi rs os) (hs : rs'.Sublist rs) : Own w lo hi rs' os :=
  ⟨fun r hr => h.rows r (hs.subset hr), fun r hr => h.lt r (hs.subset hr), h.apart.sublist hs, h.outs, h.olt⟩
/-- The outer slices put aside. -/
theorem Own.bare (h : Own w lo hi rs os) : Own w lo hi rs [] := ⟨h.rows, h.lt, h.apart, fun _ ho => (List.not_mem_nil ho).elim, fun _ ho => (List.not_mem_nil ho).elim⟩
theorem Own.with_ {A : Option Addr} {c : Nat} {vs : List Value} (h : Own w lo hi rs []) (ho : w.ownsRow lo 24 1 (.slice A vs.length c) vs.length vs) (hh : w.heap.size ≤ hi) : Own w lo hi rs [⟨A, c, vs⟩] := by
  refine ⟨h.rows, h.lt, h.apart, fun o hq => ?_, fun o hq g hg => ?_⟩
  · obtain rfl := List.mem_singleton.1 hq
    exact ho
  · obtain rfl := List.mem_singleton.1 hq
    have := (ho.lt g hg).2
    omega
theorem Own.out {A : Option Addr} {c : Nat} {vs : List Value} (h : Own w lo hi rs [⟨A, c, vs⟩]) : w.ownsRow lo 24 1 (.slice A vs.length c) vs.length vs := h.outs _ (List.mem_singleton.2 rfl)
theorem Own.outN {A : Option Addr} {c n : Nat} {vs : List Value} (h : Own w lo hi rs [⟨A, c, vs⟩]) (hn : vs.length = n) : w.ownsRow lo 24 1 (.slice A n c) n vs := by subst hn; exact h.out
theorem Own.nil_list (w : World) (lo hi : Nat) : Own w lo hi [] [⟨none, 0, []⟩] :=
  ⟨fun _ hr => (List.not_mem_nil hr).elim, fun _ hr => (List.not_mem_nil hr).elim, List.Pairwise.nil, fun o ho => by obtain rfl := List.mem_singleton.1 ho; exact ⟨rfl, .inl ⟨rfl, rfl⟩⟩, fun o ho g hg => by obtain rfl := List.mem_singleton.1 ho; cases hg⟩
/-- The empty list that a call lays down. -/
theorem Own.lit (w : World) (hl : lo ≤ w.heap.size) : Own (w.alloc (.cells #[] 24)) lo (w.alloc (.cells #[] 24)).heap.size [] [⟨some ⟨w.heap.size, 0, none⟩, 0, []⟩] :=
  Own.with_ Own.nil_ (World.ownsRow_lit w #[] 0 hl (by unfold maxLen; omega) rfl) (Nat.le_refl _)
/-- A row of the call's own, made behind all others. -/
theorem Own.add {r : Row} (h : Own w lo m rs os) (hr : w.ownsRow m 3 1 r.v r.xs.length (r.xs.map (Value.int .i64))) (hm : m ≤ w.heap.size) (hl : lo ≤ m) : Own w lo w.heap.size (rs ++ [r]) os := by
  have := h.app (m := m) (hi := w.heap.size) (rs' := [r]) (os' := []) (Own.one (A := r.A) (c := r.c) (xs := r.xs) hr (Nat.le_refl _)) hl hm
  simpa using this
/-- The outer slice grows by a cell; the rows stay. -/
theorem Own.grow {A : Option Addr} {c n : Nat} {u v1 : Value} {o : Obj} {vs : List Value} (h : Own w lo hi rs [⟨A, c, vs⟩]) (hh : hi ≤ w.heap.size) (hn : vs.length = n)
    (h1 : w'.ownsRow lo 24 1 v1 (n + 1) (vs ++ [u])) (hg : (w.alloc o).grownBy w' (Value.slice A n c).ownBlock) :
    ∃ A1 c1, v1 = .slice A1 (n + 1) c1 ∧ Own w' lo w'.heap.size rs [⟨A1, c1, vs ++ [u]⟩] ∧ w.grownBy w' (Value.slice A n c).ownBlock := by
  subst hn
  obtain ⟨A1, c1, rfl, _, _⟩ := own_shape h1
  have hsz : w.heap.size ≤ w'.heap.size := by have := hg.size; simp at this; omega
  have hb : Below w.heap.size w (w.alloc o) := (Below.refl _ _).alloc (Nat.le_refl _) _
  have h0 := h.below hb
  refine ⟨A1, c1, rfl, ?_, grown_trans (World.grownBy_alloc w o _) hg⟩
  have hk : Own w' lo w'.heap.size rs [] := ⟨fun r hr => (h0.rows r hr).kept hg (by
      rcases hv : r.v.ownBlock with _ | g
      · exact .inl rfl
      · exact .inr fun e => own_ne h hr (List.mem_singleton.2 rfl) g hv e.symm), fun r hr g hg => by have := h.lt r hr g hg; omega, h.apart, fun _ ho => (List.not_mem_nil ho).elim, fun _ ho => (List.not_mem_nil ho).elim⟩
  exact hk.with_ (by simpa using h1) (Nat.le_refl _)
theorem Own.olim {A : Option Addr} {c n : Nat} {vs : List Value} (h : Own w lo hi rs [⟨A, c, vs⟩]) (hn : vs.length = n) : ∀ g, (Value.slice A n c).ownBlock = some g → lo ≤ g ∧ g < hi := fun g hg => by
  subst hn
  exact ⟨((h.outs _ (List.mem_singleton.2 rfl)).lt g hg).1, h.olt _ (List.mem_singleton.2 rfl) g hg⟩
theorem Below.grownA {B : Nat} {w0 w w' : World} {row : Option Nat} (h : Below B w0 w) (hB : B ≤ w.heap.size) (hg : w.grownBy w' row) (hr : ∀ g, row = some g → B ≤ g) : Below B w0 w' := h.grown hg hB hr
end
end Go.Proofs.Ythipikllgpnlhaa

/- Plain: what a permutation is; contracts of IsPerm, program and reference. -/
namespace Go.Proofs.Ythipikllgpnlhaa
set_option maxRecDepth 100000
open Go Go.RowKit

theorem own_putB {α : Type} {f : α → Value} {w : World} {base e g n cap : Nat} {xs : List α} (h : w.ownsRow base e 1 (.slice (some ⟨g, 0, none⟩) n cap) n (xs.map f)) (j : Nat) (hj : j < xs.length) (x : α) :
    w.cell? ⟨g, j, none⟩ = some (f xs[j]) ∧ w.frozen? ⟨g, j, none⟩ = false ∧ (w.setCell ⟨g, j, none⟩ (f x)).ownsRow base e 1 (.slice (some ⟨g, 0, none⟩) n cap) n ((xs.set j x).map f) := by
  have hl := own_len h
  simp only [List.length_map] at hl
  refine ⟨?_, h.frozenAt j, ?_⟩
  · rw [h.cellAt j (by omega)]; simp [hj]
  · rw [List.map_set]; exact (h.stored j (f x)).1

def permB (xs : List Int) : Bool := decide (xs.length ≤ 8 ∧ (∀ v ∈ xs, 1 ≤ v ∧ v ≤ xs.length) ∧ xs.Nodup)

theorem permB_true {xs : List Int} (h : permB xs = true) : xs.length ≤ 8 ∧ (∀ v ∈ xs, 1 ≤ v ∧ v ≤ xs.length) ∧ xs.Nodup := by simpa [permB] using h

theorem nodup_snoc (xs : List Int) (x : Int) : (xs ++ [x]).Nodup ↔ xs.Nodup ∧ x ∉ xs := by
  rw [List.nodup_append]
  simp only [List.mem_singleton]
  constructor
  · rintro ⟨h1, _, h3⟩; exact ⟨h1, fun hx => h3 x hx x rfl rfl⟩
  · rintro ⟨h1, h2⟩; exact ⟨h1, by simp, fun a ha b hb e => h2 (by subst hb; subst e; exact ha)⟩

/-- One element more has been looked at and found right. -/
theorem perm_step {xs : List Int} {k : Nat} (hk : k < xs.length) (h1 : ∀ v ∈ xs.take k, 1 ≤ v ∧ v ≤ xs.length) (h2 : (xs.take k).Nodup) (h3 : 1 ≤ xs[k] ∧ xs[k] ≤ xs.length) (h4 : xs[k] ∉ xs.take k) :
    (∀ v ∈ xs.take (k + 1), 1 ≤ v ∧ v ≤ xs.length) ∧ (xs.take (k + 1)).Nodup := by
  rw [List.take_succ_eq_append_getElem hk]
  exact ⟨fun v hv => by
    rcases List.mem_append.1 hv with h | h
    · exact h1 v h
    · rw [List.mem_singleton.1 h]; exact h3, (nodup_snoc _ _).2 ⟨h2, h4⟩⟩
theorem perm_bad1 {xs : List Int} {k : Nat} (hk : k < xs.length) (h3 : ¬ (1 ≤ xs[k] ∧ xs[k] ≤ xs.length)) : permB xs = false := by
  unfold permB
  rw [decide_eq_false_iff_not]
  rintro ⟨_, h, _⟩
  exact h3 (h _ (List.getElem_mem hk))
theorem perm_bad2 {xs : List Int} {k : Nat} (hk : k < xs.length) (h4 : xs[k] ∈ xs.take k) : permB xs = false := by
  unfold permB
  rw [decide_eq_false_iff_not]
  rintro ⟨_, _, h⟩
  have h' := (List.take_sublist (k + 1) xs).nodup h
  rw [List.take_succ_eq_append_getElem hk] at h'
  exact ((nodup_snoc _ _).1 h').2 h4
theorem perm_all {xs : List Int} (h0 : xs.length ≤ 8) (h1 : ∀ v ∈ xs.take xs.length, 1 ≤ v ∧ v ≤ xs.length) (h2 : (xs.take xs.length).Nodup) : permB xs = true := by
  rw [List.take_length] at h1 h2
  unfold permB
  rw [decide_eq_true_eq]
  exact ⟨h0, h1, h2⟩

set_option maxHeartbeats 400000 in
theorem l2Has_any (A : Option Addr) (c n : Nat) (xs : List Int) (x : Int) (w : World) (hn : xs.length = n) (hl : n ≤ 4611686018427387904) (hx : Rd (Value.int .i64) w w.heap.size A xs) :
    Calls Try.prog 89 #[.slice A n c, .int .i64 x] w fun e w' => e = .returned (.bool (decide (x ∈ xs))) ∧ w = w' := by
  subst hn
  go_enter Try.func89, Try.ntmps89
  go_wp2
  go_loop [5] (fun i => ∃ k : Nat, k ≤ xs.length ∧ i = .int .i64 k ∧ x ∉ xs.take k) (fun i => xs.length - (intOf i).toNat)
  case atStart => exact ⟨0, Nat.zero_le _, rfl, by simp⟩
  case round =>
    obtain ⟨k, hk, rfl, hno⟩ := hrel
    have HN := Lib.hid hno
    clear hno
    rcases Nat.lt_or_ge k xs.length with hlt | hge
    · obtain ⟨b, off, rfl, _, hc⟩ := hx (by omega)
      have c1 := hc k hlt
      clear hc
      by_cases he : xs[k] = x
      · have hd : (xs[k] == x) = true := by simp [he]
        have HE := Lib.hid he
        clear he
        go_wp2
        go_ret
        exact ⟨ret_bool (by symm; rw [decide_eq_true_eq, ← HE.out]; exact List.getElem_mem hlt), rfl⟩
      · have hd : (xs[k] == x) = false := by simp [he]
        have HE := Lib.hid he
        clear he
        go_wp2
        go_round
        case rel => exact ⟨k + 1, by omega, by go_num, by rw [List.take_succ_eq_append_getElem hlt]; intro hm; rcases List.mem_append.1 hm with h | h; exact HN.out h; exact HE.out (List.mem_singleton.1 h).symm⟩
        case measure => simp [intOf]; omega
    · go_wp2
      go_ret
      exact ⟨ret_bool (by symm; rw [decide_eq_false_iff_not]; have := HN.out; rwa [List.take_of_length_le hge] at this), rfl⟩

set_option maxHeartbeats 800000 in
theorem isPerm_spec (A : Option Addr) (c : Nat) (xs : List Int) (w : World) (h : In w A c xs) :
    Calls Try.prog 19 #[.slice A xs.length c] w (Rq w (.bool (permB xs))) := by
  obtain ⟨hl, hcap, hx⟩ := h
  rcases Nat.lt_or_ge 8 xs.length with h8 | h8
  · have HP := Lib.hid (show permB xs = false by unfold permB; rw [decide_eq_false_iff_not]; omega)
    go_enter Try.func19, Try.ntmps19
    go_wp2
    refine wp_loop_rounds 1 ?_
    rw [rounds_succ]
    go_wp2
    go_ret
    exact ⟨ret_bool (by rw [HP.out]; simp; omega), Dr.refl _⟩
  · go_enter Try.func19, Try.ntmps19
    go_wp2
    go_loopw [3] (fun i wr => ∃ k : Nat, k ≤ xs.length ∧ i = .int .i64 k ∧ (∀ v ∈ xs.take k, 1 ≤ v ∧ v ≤ xs.length) ∧ (xs.take k).Nodup ∧ Dr w wr) (fun i _ => xs.length - (intOf i).toNat)
    case atStart => exact ⟨0, Nat.zero_le _, rfl, by simp, by simp, Dr.refl _⟩
    case round =>
      obtain ⟨k, hk, rfl, h1, h2, hd⟩ := hrel
      have H1 := Lib.hid h1
      have H2 := Lib.hid h2
      have hxr := hx.dr hd
      rw [← hd.heap] at hxr
      have HX := Lib.hid hxr
      clear h1 h2 hxr
      rcases Nat.lt_or_ge k xs.length with hlt | hge
      · obtain ⟨b, off, rfl, hbb, hc⟩ := HX.out (by omega)
        have c1 := hc k hlt
        clear hc
        by_cases h3 : 1 ≤ xs[k] ∧ xs[k] ≤ xs.length
        · have d3 : decide (1 ≤ xs[k] ∧ xs[k] ≤ (xs.length : Int)) = true := by simp [h3]
          have H3 := Lib.hid h3
          clear h3
          have hc0 : ¬ c = 0 := by omega
          have hkc : k ≤ c := by omega
          have hrt : Rd (Value.int .i64) wr wr.heap.size (some ⟨b, off, none⟩) (xs.take k) := HX.out.take k
          have HR := Lib.hid hrt
          have hlen : (xs.take k).length = k := by simp; omega
          have HLEN := Lib.hid hlen
          have hk4 : k ≤ 4611686018427387904 := by omega
          clear hrt hlen
          by_cases h4 : xs[k] ∈ xs.take k
          · have d4 : decide (xs[k] ∈ xs.take k) = true := by simp [h4]
            have H4 := Lib.hid h4
            clear h4
            go_wp2
            go_quiet ((first | (go_at_call 87; exact quiet_eq (l1In_any _ _ _ _)) | (go_at_call 89; exact quiet_eq (l2Has_any _ _ _ (xs.take k) _ _ HLEN.out hk4 HR.out))))
            go_wp2
            go_ret
            exact ⟨ret_bool (perm_bad2 hlt H4.out).symm, (by first | with_reducible assumption | with_reducible exact hd | with_reducible exact Dr.drewN hd _ | with_reducible exact Dr.drewN (Dr.drewN hd _) _ | with_reducible exact Dr.drew hd)⟩
          · have d4 : decide (xs[k] ∈ xs.take k) = false := by simp [h4]
            have H4 := Lib.hid h4
            clear h4
            go_wp2
            go_quiet ((first | (go_at_call 87; exact quiet_eq (l1In_any _ _ _ _)) | (go_at_call 89; exact quiet_eq (l2Has_any _ _ _ (xs.take k) _ _ HLEN.out hk4 HR.out))))
            go_wp2
            go_roundw
            case rel => exact ⟨k + 1, by omega, by go_num, (perm_step hlt H1.out H2.out H3.out H4.out).1, (perm_step hlt H1.out H2.out H3.out H4.out).2, (by first | with_reducible assumption | with_reducible exact hd | with_reducible exact Dr.drewN hd _ | with_reducible exact Dr.drewN (Dr.drewN hd _) _ | with_reducible exact Dr.drew hd)⟩
            case measure => simp [intOf]; omega
        · have d3 : decide (1 ≤ xs[k] ∧ xs[k] ≤ (xs.length : Int)) = false := by rw [decide_eq_false_iff_not]; exact h3
          have H3 := Lib.hid h3
          clear h3
          go_wp2
          go_quiet ((go_at_call 87; exact quiet_eq (l1In_any _ _ _ _)))
          go_wp2
          go_ret
          exact ⟨ret_bool (perm_bad1 hlt H3.out).symm, (by first | with_reducible assumption | with_reducible exact hd | with_reducible exact Dr.drewN hd _ | with_reducible exact Dr.drewN (Dr.drewN hd _) _ | with_reducible exact Dr.drew hd)⟩
      · obtain rfl : k = xs.length := by omega
        go_wp2
        go_ret
        exact ⟨ret_bool (by rw [perm_all h8 H1.out H2.out]; simp; omega), (by first | with_reducible assumption | with_reducible exact hd | with_reducible exact Dr.drewN hd _ | with_reducible exact Dr.drewN (Dr.drewN hd _) _ | with_reducible exact Dr.drew hd)⟩

theorem infoB : (Try.prog.info? 4).map (fun i => (i.zero, i.size, i.bytes)) = some (some (.bool false), 1, 1) := by kernel_rfl
def seenL (xs : List Int) (k : Nat) : List Bool := (List.range (xs.length + 1)).map fun v : Nat => decide ((v : Int) ∈ xs.take k)
theorem seenL_length (xs : List Int) (k : Nat) : (seenL xs k).length = xs.length + 1 := by simp [seenL]
theorem seenL_get (xs : List Int) (k v : Nat) (h : v < (seenL xs k).length) : (seenL xs k)[v] = decide ((v : Int) ∈ xs.take k) := by simp [seenL]
theorem seenL_zero (xs : List Int) : seenL xs 0 = List.replicate (xs.length + 1) false := by
  apply List.ext_getElem
  · simp [seenL]
  · intro i h1 h2; rw [seenL_get]; simp
theorem seenL_set (xs : List Int) (k v : Nat) (hk : k < xs.length) (hv : xs[k] = (v : Int)) : (seenL xs k).set v true = seenL xs (k + 1) := by
  apply List.ext_getElem
  · simp [seenL]
  · intro i h1 h2
    rw [List.getElem_set, seenL_get _ _ _ (by rw [seenL_length] at *; exact h2), seenL_get, List.take_succ_eq_append_getElem hk, hv]
    by_cases e : v = i
    · subst e; simp
    · rw [if_neg e]
      have : ¬ (i : Int) = (v : Int) := by omega
      simp [this]
theorem made_falses {w : World} {base e n : Nat} {v : Value} (h : w.ownsRow base e 1 v n (madeCells (Value.bool false).cells (n * 1)).toList) : w.ownsRow base e 1 v n ((List.replicate n false).map Value.bool) := by
  rw [show (Value.bool false).cells = #[.bool false] from rfl, toList_madeCells_one, Nat.mul_one] at h
  simpa using h
def permL (xs : List Int) : Bool := decide ((∀ v ∈ xs, 1 ≤ v ∧ v ≤ xs.length) ∧ xs.Nodup)
theorem permB_permL (xs : List Int) (h : xs.length ≤ 8) : permL xs = permB xs := by simp [permL, permB, h]
theorem permL_bad1 {xs : List Int} {k : Nat} (hk : k < xs.length) (h3 : ¬ (1 ≤ xs[k] ∧ xs[k] ≤ xs.length)) : permL xs = false := by
  unfold permL
  rw [decide_eq_false_iff_not]
  rintro ⟨h, _⟩
  exact h3 (h _ (List.getElem_mem hk))
theorem permL_bad2 {xs : List Int} {k : Nat} (hk : k < xs.length) (h4 : xs[k] ∈ xs.take k) : permL xs = false := by
  unfold permL
  rw [decide_eq_false_iff_not]
  rintro ⟨_, h⟩
  have h' := (List.take_sublist (k + 1) xs).nodup h
  rw [List.take_succ_eq_append_getElem hk] at h'
  exact ((nodup_snoc _ _).1 h').2 h4
theorem permL_all {xs : List Int} (h1 : ∀ v ∈ xs.take xs.length, 1 ≤ v ∧ v ≤ xs.length) (h2 : (xs.take xs.length).Nodup) : permL xs = true := by
  rw [List.take_length] at h1 h2
  unfold permL
  rw [decide_eq_true_eq]
  exact ⟨h1, h2⟩

set_option maxHeartbeats 800000 in
theorem isPermL_impl (A : Option Addr) (c : Nat) (xs : List Int) (w : World) (h : In w A c xs) :
    Calls Try.prog 121 #[.slice A xs.length c] w (Rb w (.bool (permL xs))) := by
  obtain ⟨i0, hi, hz0, hz1, hz2⟩ := info_parts infoB
  obtain ⟨hl, _, hx⟩ := h
  go_enter Try.func121, Try.ntmps121
  go_wp2_with (at_make; refine wpList_make_full _ rfl _ _ 79 rfl (w.heap.size) 4 i0 (.bool false) 1 Try.underlying79 hi hz0 hz1 .i64 .i64 _ _ (xs.length + 1) rfl rfl (by omega) (by omega) (by rw [hz2]; omega) (by unfold maxLen; omega) (by omega) ?_; intro w1 hown1 hgrow1)
  have hown := made_falses hown1
  rw [← seenL_zero] at hown
  have hb := below_none hgrow1
  clear hown1 hgrow1
  go_wp2
  go_loopw [12] (fun i wr => ∃ k : Nat, k ≤ xs.length ∧ i = .int .i64 k ∧ (∀ v ∈ xs.take k, 1 ≤ v ∧ v ≤ xs.length) ∧ (xs.take k).Nodup ∧ wr.ownsRow w.heap.size 4 1 (.slice (some ⟨w.heap.size, 0, none⟩) (xs.length + 1) (xs.length + 1)) (xs.length + 1) ((seenL xs k).map Value.bool) ∧ Below w.heap.size w wr) (fun i _ => xs.length - (intOf i).toNat)
  case atStart => exact ⟨0, Nat.zero_le _, rfl, by simp, by simp, hown, hb⟩
  case round =>
    clear hown hb
    obtain ⟨k, hk, rfl, h1, h2, hown, hb⟩ := hrel
    have H1 := Lib.hid h1
    have H2 := Lib.hid h2
    have HX := Lib.hid (hx.below hb)
    clear h1 h2
    rcases Nat.lt_or_ge k xs.length with hlt | hge
    · obtain ⟨b, off, rfl, hbb, hc⟩ := HX.out (by omega)
      have c1 := hc k hlt
      clear hc
      by_cases h3 : 1 ≤ xs[k] ∧ xs[k] ≤ xs.length
      · obtain ⟨v, hv⟩ := Int.eq_ofNat_of_zero_le (show 0 ≤ xs[k] by omega)
        have H3 := Lib.hid h3
        have hvl : v < (seenL xs k).length := by rw [seenL_length]; omega
        have hv1 : 1 ≤ v := by omega
        have hv2 : v ≤ xs.length := by omega
        have HS := Lib.hid (seenL_set xs k v hlt hv)
        rw [hv] at c1
        obtain ⟨p1, p2, p3⟩ := own_putB hown v hvl true
        rw [seenL_get] at p1
        have HV := Lib.hid hv
        clear h3 hv
        by_cases h4 : (v : Int) ∈ xs.take k
        · rw [decide_eq_true h4] at p1
          have H4 := Lib.hid h4
          clear h4 p3 hown hvl
          go_wp2
          go_ret
          exact ⟨ret_bool (permL_bad2 hlt (by rw [HV.out]; exact H4.out)).symm, hb⟩
        · rw [decide_eq_false h4] at p1
          have H4 := Lib.hid h4
          have P3 := Lib.hid p3
          have B2 := Lib.hid (hb.setCell (p := ⟨w.heap.size, v, none⟩) (Nat.le_refl _) (.bool true))
          clear h4 p3 hown hvl hb
          go_wp2
          go_roundw
          case rel => exact ⟨k + 1, by omega, by go_num, (perm_step hlt H1.out H2.out H3.out (by rw [HV.out]; exact H4.out)).1, (perm_step hlt H1.out H2.out H3.out (by rw [HV.out]; exact H4.out)).2, by rw [← HS.out]; exact P3.out, B2.out⟩
          case measure => simp [intOf]; omega
      · have H3 := Lib.hid h3
        by_cases h5 : xs[k] < 1
        · clear h3
          go_wp2
          go_ret
          exact ⟨ret_bool (permL_bad1 hlt H3.out).symm, hb⟩
        · have h6 : (xs.length : Int) < xs[k] := by omega
          clear h3
          go_wp2
          go_ret
          exact ⟨ret_bool (permL_bad1 hlt H3.out).symm, hb⟩
    · obtain rfl : k = xs.length := by omega
      go_wp2
      go_ret
      exact ⟨ret_bool (permL_all H1.out H2.out).symm, hb⟩

set_option maxHeartbeats 400000 in
theorem isPerm_impl (A : Option Addr) (c : Nat) (xs : List Int) (w : World) (h : In w A c xs) :
    Calls Try.prog 74 #[.slice A xs.length c] w (Rb w (.bool (permB xs))) := by
  have hl := h.len
  rcases Nat.lt_or_ge 8 xs.length with h8 | h8
  · have HP := Lib.hid (show permB xs = false by unfold permB; rw [decide_eq_false_iff_not]; omega)
    have hd8 : decide ((xs.length : Int) ≤ 8) = false := by simp; omega
    go_enter Try.func74, Try.ntmps74
    go_wp2_with fail
    go_ret
    exact ⟨ret_bool HP.out.symm, Below.refl _ _⟩
  · have HP := Lib.hid (permB_permL xs h8)
    have hd8 : decide ((xs.length : Int) ≤ 8) = true := by simp; omega
    go_enter Try.func74, Try.ntmps74
    go_wp2_with fail
    refine (isPermL_impl _ _ _ _ h).mono ?_
    rintro e w1 ⟨rfl, hb⟩
    go_wp2_with fail
    go_ret
    exact ⟨ret_bool HP.out, hb⟩
end Go.Proofs.Ythipikllgpnlhaa

/- Contracts of the statistics that list places: listed and its closures; DescentsOf, LowsOf, RecordsOf, CountFixed, CountRises, MajorOf; program. -/
namespace Go.Proofs.Ythipikllgpnlhaa
set_option maxRecDepth 100000
open Go Go.RowKit

/-- The places, counted from 1, of which H holds, of the first n. -/
def placesL (H : Nat → Bool) (n : Nat) : List Int := ((List.range n).filter H).map fun i : Nat => (i : Int) + 1
theorem placesL_succ (H : Nat → Bool) (n : Nat) : placesL H (n + 1) = if H n then placesL H n ++ [(n : Int) + 1] else placesL H n := by
  unfold placesL
  rw [List.range_succ, List.filter_append]
  by_cases h : H n <;> simp [h]
theorem placesL_length (H : Nat → Bool) (n : Nat) : (placesL H n).length ≤ n := by
  unfold placesL
  rw [List.length_map]
  exact Nat.le_trans (List.length_filter_le _ _) (by simp)
theorem placesL_congr {H K : Nat → Bool} {n : Nat} (h : ∀ i, i < n → H i = K i) : placesL H n = placesL K n := by
  unfold placesL
  congr 1
  exact List.filter_congr fun x hx => h x (List.mem_range.1 hx)

def listG (xs : List Int) (H : Nat → Bool) : List Int := if permB xs = true then placesL H xs.length else []
theorem listG_length (xs : List Int) (H : Nat → Bool) : (listG xs H).length ≤ 8 := by
  unfold listG
  split
  · rename_i h
    have := placesL_length H xs.length
    have := (permB_true h).1
    omega
  · simp

set_option maxHeartbeats 800000 in
theorem listed_impl (A : Option Addr) (c : Nat) (xs : List Int) (F g : Nat) (H : Nat → Bool) (w : World) (h : In w A c xs)
    (hF : ∀ args w', (callFunc F args).run Try.prog w' = .ok (.enter F args) w')
    (hcl : ∀ (w' : World) (i : Nat), Below w.heap.size w w' → i < xs.length → Calls Try.prog F #[.int .i64 i, .pointer (some ⟨g, 0, none⟩)] w' (Rq w' (.bool (H i)))) :
    Calls Try.prog 95 #[.slice A xs.length c, .func (.func F) #[] #[.pointer (some ⟨g, 0, none⟩)]] w (Ret (Value.int .i64) 3 w (listG xs H)) := by
  obtain ⟨i0, hi, hz0, hz1, hz2⟩ := info_parts infoI
  by_cases hp : permB xs = true
  · have HP := Lib.hid (show listG xs H = placesL H xs.length by rw [listG, if_pos hp])
    have h8 := (permB_true hp).1
    go_enter Try.func95, Try.ntmps95
    go_wp2_with fail
    refine (isPerm_impl _ _ _ _ h).mono ?_
    rintro e w1 ⟨rfl, hb1⟩
    rw [hp]
    clear hp
    have hsz1 := hb1.size
    go_wp2_with fail
    have hown0 : (w1.alloc (.cells #[] 3)).ownsRow w.heap.size 3 1 (.slice (some ⟨w1.heap.size, 0, none⟩) 0 0) (placesL H 0).length ((placesL H 0).map (Value.int .i64)) := World.ownsRow_lit w1 #[] 0 hsz1 (by unfold maxLen; omega) rfl
    have hb2 := hb1.alloc hsz1 (.cells #[] 3)
    go_loopw [5, 13] (fun v i wr => ∃ (k : Nat) (A' : Option Addr) (c' : Nat), k ≤ xs.length ∧ i = .int .i64 k ∧ v = .slice A' (placesL H k).length c' ∧ wr.ownsRow w.heap.size 3 1 (.slice A' (placesL H k).length c') (placesL H k).length ((placesL H k).map (Value.int .i64)) ∧ Below w.heap.size w wr) (fun _ i _ => xs.length - (intOf i).toNat)
    case atStart => exact ⟨0, _, _, Nat.zero_le _, rfl, rfl, hown0, hb2⟩
    case round =>
      clear hown0 hb2 hb1 hsz1
      obtain ⟨k, A', c', hk, rfl, rfl, hown, hb⟩ := hrel
      have hpl := placesL_length H k
      have hsz := hb.size
      rcases Nat.lt_or_ge k xs.length with hlt | hge
      · go_wp2_with fail
        refine (hcl _ k hb hlt).mono ?_
        rintro e w2 ⟨rfl, hd⟩
        have hown := hd.own hown
        have hb := below_dr hb hd
        have hsz : w.heap.size ≤ w2.heap.size := hb.size
        by_cases hH : H k = true
        · have HS := Lib.hid (show placesL H (k + 1) = placesL H k ++ [(k : Int) + 1] by rw [placesL_succ, if_pos hH])
          rw [hH]
          go_wp2_with (at_builtin; refine wpList_append_own _ rfl _ _ 24 rfl (w.heap.size) 3 i0 (.int .i64 0) 1 8 Try.underlying24 hi hz0 hz1 hz2 rfl (by decide) _ _ _ rfl (World.ownsRow.alloc hown _) ⟨w2.heap.size, 0, none⟩ 1 1 [.int .i64 ((k : Int) + 1)] rfl rfl (cell_one_new _ _ _) (by intro u hu; simp at hu; subst hu; rfl) (by unfold maxLen; omega) (by omega) (by simp; omega) ?_; intro v1 w1 hown1 hgrow1 _)
          have hb1 := (hb.alloc hsz (Obj.cells #[Value.int .i64 ((k : Int) + 1)] 3)).grown hgrow1 (by simp; omega) (by intro g hg; exact ((hown.lt g hg).1))
          have hS2 : w1.ownsRow w.heap.size 3 1 v1 (placesL H (k + 1)).length ((placesL H (k + 1)).map (Value.int .i64)) := by rw [HS.out]; simpa using hown1
          obtain ⟨A1, cc, rfl, _, _⟩ := own_shape hS2
          have hH1 := Lib.hid hS2
          have hH2 := Lib.hid hb1
          clear hS2 hown1 hgrow1 hb1 hown hb hH
          go_wp2_with fail
          go_roundw
          case rel => exact ⟨k + 1, A1, cc, by omega, by go_num, rfl, hH1.out, hH2.out⟩
          case measure => simp [intOf]; omega
        · have hHf : H k = false := by simpa using hH
          have HS := Lib.hid (show placesL H (k + 1) = placesL H k by rw [placesL_succ, if_neg hH])
          rw [hHf]
          clear hH hHf
          go_wp2_with fail
          go_roundw
          case rel => exact ⟨k + 1, A', c', by omega, by go_num, by rw [HS.out], by rw [HS.out]; exact hown, hb⟩
          case measure => simp [intOf]; omega
      · obtain rfl : k = xs.length := by omega
        go_wp2_with fail
        go_ret
        rw [HP.out]
        exact ⟨A', c', rfl, (own_caps hown).1, (own_caps hown).2, hown, hb⟩
  · have hpf : permB xs = false := by simpa using hp
    have HP := Lib.hid (show listG xs H = [] by rw [listG, if_neg hp])
    go_enter Try.func95, Try.ntmps95
    go_wp2_with fail
    refine (isPerm_impl _ _ _ _ h).mono ?_
    rintro e w1 ⟨rfl, hb1⟩
    rw [hpf]
    clear hp hpf
    go_wp2_with fail
    go_ret
    rw [HP.out]
    exact ⟨none, 0, rfl, Nat.le_refl _, Nat.zero_le _, World.ownsRow_nil _ _ _ _, hb1⟩

theorem alloc_cell (w : World) (v : Value) (t : TypeId) : (w.alloc (.cells #[v] t)).cell? ⟨w.heap.size, 0, none⟩ = some v := by
  rw [World.cell?_alloc_at _ _ _ _ rfl]; rfl

/-- The captured slice and what it reads as, in a later world. -/
theorem cap_in {w w0 w' : World} {A : Option Addr} {c : Nat} {xs : List Int} {t : TypeId} (h : In w A c xs) (e : w0 = w.alloc (.cells #[.slice A xs.length c] t)) (hb : Below w0.heap.size w0 w') :
    In w' A c xs ∧ w'.cell? ⟨w.heap.size, 0, none⟩ = some (.slice A xs.length c) := by
  subst e
  have h1 : In (w.alloc (.cells #[.slice A xs.length c] t)) A c xs := h.next ((Below.refl _ _).alloc (Nat.le_refl _) _)
  exact ⟨h1.next hb, by rw [hb.cell (p := ⟨w.heap.size, 0, none⟩) (by simp)]; exact alloc_cell _ _ _⟩

def descH (xs : List Int) (i : Nat) : Bool := decide (i + 1 < xs.length ∧ xs[i]?.getD 0 > xs[i + 1]?.getD 0)
set_option maxHeartbeats 400000 in
theorem desc_cl (A : Option Addr) (c g i : Nat) (xs : List Int) (w : World) (h : In w A c xs) (hg : w.cell? ⟨g, 0, none⟩ = some (.slice A xs.length c)) (hi : i < xs.length) :
    Calls Try.prog 96 #[.int .i64 i, .pointer (some ⟨g, 0, none⟩)] w (Rq w (.bool (descH xs i))) := by
  obtain ⟨hl, _, hx⟩ := h
  obtain ⟨b, off, rfl, _, hc⟩ := hx (by omega)
  by_cases h1 : i + 1 < xs.length
  · have d1 : decide ((i : Int) + 1 < (xs.length : Int)) = true := by simp; omega
    have c1 := hc i hi
    have c2 := hc (i + 1) h1
    have HH := Lib.hid (show descH xs i = decide (xs[i] > xs[i + 1]) by simp [descH, h1, hi])
    have e1 : IntKind.i64.wrap ((i : Int) + 1) = (i : Int) + 1 := IntWalk.i64_in _ (by omega)
    have e2 : ((i : Int) + 1).toNat = i + 1 := by omega
    have e3 : 0 ≤ (i : Int) + 1 := by omega
    have e4 : (i : Int) + 1 < (xs.length : Int) := by omega
    clear hc
    go_enter Try.func96, Try.ntmps96
    go_wp2
    go_quiet (fail)
    go_wp2
    go_ret
    exact ⟨ret_bool HH.out.symm, (by first | with_reducible exact Dr.of _ _ | with_reducible exact Dr.of2 _ _ _ | with_reducible exact Dr.refl _ | with_reducible exact Dr.of3 _ _ _)⟩
  · have d1 : decide ((i : Int) + 1 < (xs.length : Int)) = false := by simp; omega
    have HH := Lib.hid (show descH xs i = false by simp [descH, h1])
    have e1 : IntKind.i64.wrap ((i : Int) + 1) = (i : Int) + 1 := IntWalk.i64_in _ (by omega)
    clear hc h1
    go_enter Try.func96, Try.ntmps96
    go_wp2
    go_quiet (fail)
    go_wp2
    go_ret
    exact ⟨ret_bool HH.out.symm, (by first | with_reducible exact Dr.of _ _ | with_reducible exact Dr.of2 _ _ _ | with_reducible exact Dr.refl _ | with_reducible exact Dr.of3 _ _ _)⟩
theorem call_96 (args : Array Value) (w : World) : (callFunc 96 args).run Try.prog w = .ok (.enter 96 args) w := by kernel_rfl
theorem descents_impl (A : Option Addr) (c : Nat) (xs : List Int) (w : World) (h : In w A c xs) :
    Calls Try.prog 33 #[.slice A xs.length c] w (Ret (Value.int .i64) 3 w (listG xs (descH xs))) := by
  have hmf : ∀ (fn : Fn) (first cap : Array Value) (w : World), (Instr.makeFunc fn first cap).run Try.prog w = .ok (.func fn first cap) w := fun _ _ _ _ => rfl
  have hb0 := (Below.refl w.heap.size w).alloc (Nat.le_refl _) (.cells #[.slice A xs.length c] 24)
  have h0 := h.next hb0
  have hc0 := alloc_cell w (.slice A xs.length c) 24
  go_enter Try.func33, Try.ntmps33
  go_wp2_with fail
  refine (listed_impl A c xs 96 w.heap.size (descH xs) _ h0 (fun args w' => call_96 args w') (fun w' i hb hi => ?_)).mono ?_
  · exact desc_cl A c _ i xs w' (h0.next hb) (by rw [hb.cell (p := ⟨w.heap.size, 0, none⟩) (by simp)]; exact hc0) hi
  · rintro e w1 ⟨A1, c1, rfl, q1, q2, hown, hb⟩
    go_wp2_with fail
    go_ret
    exact ⟨A1, c1, rfl, q1, q2, own_mono hown (by simp), hb0.trans (hb.mono (by simp))⟩
end Go.Proofs.Ythipikllgpnlhaa

/- Contracts of LowsOf, RecordsOf, CountFixed, CountRises, MajorOf, inversions; program. -/
namespace Go.Proofs.Ythipikllgpnlhaa
set_option maxRecDepth 100000
open Go Go.RowKit

def lowHAt (xs : List Int) (i j : Nat) : Bool := (List.range j).all fun j => !decide (xs[j]?.getD 0 < xs[i]?.getD 0)
def lowH (xs : List Int) (i : Nat) : Bool := lowHAt xs i i
theorem lowHAt_succ (xs : List Int) (i j : Nat) : lowHAt xs i (j + 1) = (lowHAt xs i j && !decide (xs[j]?.getD 0 < xs[i]?.getD 0)) := by simp [lowHAt, List.range_succ]
theorem lowHAt_false (xs : List Int) (i j n : Nat) (hj : j < n) (h : xs[j]?.getD 0 < xs[i]?.getD 0) : lowHAt xs i n = false := by
  unfold lowHAt
  rw [List.all_eq_false]
  exact ⟨j, List.mem_range.2 hj, by simp; omega⟩
set_option maxHeartbeats 400000 in
theorem lowH_cl (A : Option Addr) (c g i : Nat) (xs : List Int) (w : World) (h : In w A c xs) (hg : w.cell? ⟨g, 0, none⟩ = some (.slice A xs.length c)) (hi : i < xs.length) :
    Calls Try.prog 98 #[.int .i64 i, .pointer (some ⟨g, 0, none⟩)] w (Rq w (.bool (lowH xs i))) := by
  obtain ⟨hl, hcap, hx⟩ := h
  obtain ⟨b, off, rfl, _, hc⟩ := hx (by omega)
  have HC := Lib.hid hc
  have ci := hc i hi
  have hic : i ≤ c := by omega
  have hc0 : ¬ c = 0 := by omega
  clear hc hx
  go_enter Try.func98, Try.ntmps98
  go_wp2
  go_loopw [10] (fun q wr => ∃ j : Nat, j ≤ i ∧ q = .int .i64 j ∧ lowHAt xs i j = true ∧ Dr w wr) (fun q _ => i - (intOf q).toNat)
  case atStart => exact ⟨0, Nat.zero_le _, rfl, rfl, Dr.refl _⟩
  case round =>
    obtain ⟨j, hj, rfl, hall, hd⟩ := hrel
    have HA := Lib.hid hall
    have ci : wr.cell? ⟨b, off + i, none⟩ = some (.int .i64 xs[i]) := (hd.cell _).trans ci
    have hg : wr.cell? ⟨g, 0, none⟩ = some (.slice (some ⟨b, off, none⟩) xs.length c) := (hd.cell _).trans hg
    clear hall
    rcases Nat.lt_or_ge j i with hlt | hge
    · have cj : wr.cell? ⟨b, off + j, none⟩ = some (.int .i64 xs[j]) := (hd.cell _).trans (HC.out j (by omega))
      by_cases h1 : xs[j] < xs[i]
      · have HH := Lib.hid (show lowH xs i = false from lowHAt_false xs i j i hlt (by rw [List.getElem?_eq_getElem hi, List.getElem?_eq_getElem (show j < xs.length by omega)]; exact h1))
        go_wp2
        go_ret
        exact ⟨ret_bool HH.out.symm, (by first | with_reducible assumption | with_reducible exact hd | with_reducible exact Dr.drewN hd _ | with_reducible exact Dr.drewN (Dr.drewN hd _) _ | with_reducible exact Dr.drew hd)⟩
      · have HH := Lib.hid (show lowHAt xs i (j + 1) = true by rw [lowHAt_succ, HA.out, List.getElem?_eq_getElem hi, List.getElem?_eq_getElem (show j < xs.length by omega)]; simp; omega)
        go_wp2
        go_roundw
        case rel => exact ⟨j + 1, by omega, by go_num, HH.out, (by first | with_reducible assumption | with_reducible exact hd | with_reducible exact Dr.drewN hd _ | with_reducible exact Dr.drewN (Dr.drewN hd _) _ | with_reducible exact Dr.drew hd)⟩
        case measure => simp [intOf]; omega
    · obtain rfl : j = i := by omega
      go_wp2
      go_ret
      exact ⟨ret_bool HA.out.symm, (by first | with_reducible assumption | with_reducible exact hd | with_reducible exact Dr.drewN hd _ | with_reducible exact Dr.drewN (Dr.drewN hd _) _ | with_reducible exact Dr.drew hd)⟩

def recHAt (xs : List Int) (i j : Nat) : Bool := (List.range j).all fun j => !decide (xs[j]?.getD 0 > xs[i]?.getD 0)
def recH (xs : List Int) (i : Nat) : Bool := recHAt xs i i
theorem recHAt_succ (xs : List Int) (i j : Nat) : recHAt xs i (j + 1) = (recHAt xs i j && !decide (xs[j]?.getD 0 > xs[i]?.getD 0)) := by simp [recHAt, List.range_succ]
theorem recHAt_false (xs : List Int) (i j n : Nat) (hj : j < n) (h : xs[j]?.getD 0 > xs[i]?.getD 0) : recHAt xs i n = false := by
  unfold recHAt
  rw [List.all_eq_false]
  exact ⟨j, List.mem_range.2 hj, by simp; omega⟩
set_option maxHeartbeats 400000 in
theorem recH_cl (A : Option Addr) (c g i : Nat) (xs : List Int) (w : World) (h : In w A c xs) (hg : w.cell? ⟨g, 0, none⟩ = some (.slice A xs.length c)) (hi : i < xs.length) :
    Calls Try.prog 97 #[.int .i64 i, .pointer (some ⟨g, 0, none⟩)] w (Rq w (.bool (recH xs i))) := by
  obtain ⟨hl, hcap, hx⟩ := h
  obtain ⟨b, off, rfl, _, hc⟩ := hx (by omega)
  have HC := Lib.hid hc
  have ci := hc i hi
  have hic : i ≤ c := by omega
  have hc0 : ¬ c = 0 := by omega
  clear hc hx
  go_enter Try.func97, Try.ntmps97
  go_wp2
  go_loopw [10] (fun q wr => ∃ j : Nat, j ≤ i ∧ q = .int .i64 j ∧ recHAt xs i j = true ∧ Dr w wr) (fun q _ => i - (intOf q).toNat)
  case atStart => exact ⟨0, Nat.zero_le _, rfl, rfl, Dr.refl _⟩
  case round =>
    obtain ⟨j, hj, rfl, hall, hd⟩ := hrel
    have HA := Lib.hid hall
    have ci : wr.cell? ⟨b, off + i, none⟩ = some (.int .i64 xs[i]) := (hd.cell _).trans ci
    have hg : wr.cell? ⟨g, 0, none⟩ = some (.slice (some ⟨b, off, none⟩) xs.length c) := (hd.cell _).trans hg
    clear hall
    rcases Nat.lt_or_ge j i with hlt | hge
    · have cj : wr.cell? ⟨b, off + j, none⟩ = some (.int .i64 xs[j]) := (hd.cell _).trans (HC.out j (by omega))
      by_cases h1 : xs[j] > xs[i]
      · have HH := Lib.hid (show recH xs i = false from recHAt_false xs i j i hlt (by rw [List.getElem?_eq_getElem hi, List.getElem?_eq_getElem (show j < xs.length by omega)]; exact h1))
        go_wp2
        go_ret
        exact ⟨ret_bool HH.out.symm, (by first | with_reducible assumption | with_reducible exact hd | with_reducible exact Dr.drewN hd _ | with_reducible exact Dr.drewN (Dr.drewN hd _) _ | with_reducible exact Dr.drew hd)⟩
      · have HH := Lib.hid (show recHAt xs i (j + 1) = true by rw [recHAt_succ, HA.out, List.getElem?_eq_getElem hi, List.getElem?_eq_getElem (show j < xs.length by omega)]; simp; omega)
        go_wp2
        go_roundw
        case rel => exact ⟨j + 1, by omega, by go_num, HH.out, (by first | with_reducible assumption | with_reducible exact hd | with_reducible exact Dr.drewN hd _ | with_reducible exact Dr.drewN (Dr.drewN hd _) _ | with_reducible exact Dr.drew hd)⟩
        case measure => simp [intOf]; omega
    · obtain rfl : j = i := by omega
      go_wp2
      go_ret
      exact ⟨ret_bool HA.out.symm, (by first | with_reducible assumption | with_reducible exact hd | with_reducible exact Dr.drewN hd _ | with_reducible exact Dr.drewN (Dr.drewN hd _) _ | with_reducible exact Dr.drew hd)⟩

def fixH (xs : List Int) (i : Nat) : Bool := decide (xs[i]?.getD 0 = (i : Int) + 1)
set_option maxHeartbeats 400000 in
theorem fixH_cl (A : Option Addr) (c g i : Nat) (xs : List Int) (w : World) (h : In w A c xs) (hg : w.cell? ⟨g, 0, none⟩ = some (.slice A xs.length c)) (hi : i < xs.length) :
    Calls Try.prog 99 #[.int .i64 i, .pointer (some ⟨g, 0, none⟩)] w (Rq w (.bool (fixH xs i))) := by
  obtain ⟨hl, hcap, hx⟩ := h
  obtain ⟨b, off, rfl, _, hc⟩ := hx (by omega)
  have ci := hc i hi
  have HH := Lib.hid (show fixH xs i = decide (xs[i] = (i : Int) + 1) by simp [fixH, hi])
  clear hc hx
  go_enter Try.func99, Try.ntmps99
  go_wp2
  go_ret
  exact ⟨ret_bool (by rw [HH.out] <;> first | rfl | simp), (by first | with_reducible exact Dr.of _ _ | with_reducible exact Dr.of2 _ _ _ | with_reducible exact Dr.refl _ | with_reducible exact Dr.of3 _ _ _)⟩

def riseH (xs : List Int) (i : Nat) : Bool := decide (xs[i]?.getD 0 > (i : Int) + 1)
set_option maxHeartbeats 400000 in
theorem riseH_cl (A : Option Addr) (c g i : Nat) (xs : List Int) (w : World) (h : In w A c xs) (hg : w.cell? ⟨g, 0, none⟩ = some (.slice A xs.length c)) (hi : i < xs.length) :
    Calls Try.prog 100 #[.int .i64 i, .pointer (some ⟨g, 0, none⟩)] w (Rq w (.bool (riseH xs i))) := by
  obtain ⟨hl, hcap, hx⟩ := h
  obtain ⟨b, off, rfl, _, hc⟩ := hx (by omega)
  have ci := hc i hi
  have HH := Lib.hid (show riseH xs i = decide (xs[i] > (i : Int) + 1) by simp [riseH, hi])
  clear hc hx
  go_enter Try.func100, Try.ntmps100
  go_wp2
  go_ret
  exact ⟨ret_bool (by rw [HH.out] <;> first | rfl | simp), (by first | with_reducible exact Dr.of _ _ | with_reducible exact Dr.of2 _ _ _ | with_reducible exact Dr.refl _ | with_reducible exact Dr.of3 _ _ _)⟩

theorem call_LowsOf (args : Array Value) (w : World) : (callFunc 98 args).run Try.prog w = .ok (.enter 98 args) w := by kernel_rfl
theorem lows_impl (A : Option Addr) (c : Nat) (xs : List Int) (w : World) (h : In w A c xs) :
    Calls Try.prog 37 #[.slice A xs.length c] w (Ret (Value.int .i64) 3 w (listG xs (lowH xs))) := by
  have hmf : ∀ (fn : Fn) (first cap : Array Value) (w : World), (Instr.makeFunc fn first cap).run Try.prog w = .ok (.func fn first cap) w := fun _ _ _ _ => rfl
  have hb0 := (Below.refl w.heap.size w).alloc (Nat.le_refl _) (.cells #[.slice A xs.length c] 24)
  have h0 := h.next hb0
  have hc0 := alloc_cell w (.slice A xs.length c) 24
  go_enter Try.func37, Try.ntmps37
  go_wp2_with fail
  refine (listed_impl A c xs 98 w.heap.size (lowH xs) _ h0 (fun args w' => call_LowsOf args w') (fun w' i hb hi => ?_)).mono ?_
  · exact lowH_cl A c _ i xs w' (h0.next hb) (by rw [hb.cell (p := ⟨w.heap.size, 0, none⟩) (by simp)]; exact hc0) hi
  · rintro e w1 ⟨A1, c1, rfl, q1, q2, hown, hb⟩
    go_wp2_with fail
    go_ret
    exact ⟨A1, c1, rfl, q1, q2, own_mono hown (by simp), hb0.trans (hb.mono (by simp))⟩

theorem call_RecordsOf (args : Array Value) (w : World) : (callFunc 97 args).run Try.prog w = .ok (.enter 97 args) w := by kernel_rfl
theorem records_impl (A : Option Addr) (c : Nat) (xs : List Int) (w : World) (h : In w A c xs) :
    Calls Try.prog 35 #[.slice A xs.length c] w (Ret (Value.int .i64) 3 w (listG xs (recH xs))) := by
  have hmf : ∀ (fn : Fn) (first cap : Array Value) (w : World), (Instr.makeFunc fn first cap).run Try.prog w = .ok (.func fn first cap) w := fun _ _ _ _ => rfl
  have hb0 := (Below.refl w.heap.size w).alloc (Nat.le_refl _) (.cells #[.slice A xs.length c] 24)
  have h0 := h.next hb0
  have hc0 := alloc_cell w (.slice A xs.length c) 24
  go_enter Try.func35, Try.ntmps35
  go_wp2_with fail
  refine (listed_impl A c xs 97 w.heap.size (recH xs) _ h0 (fun args w' => call_RecordsOf args w') (fun w' i hb hi => ?_)).mono ?_
  · exact recH_cl A c _ i xs w' (h0.next hb) (by rw [hb.cell (p := ⟨w.heap.size, 0, none⟩) (by simp)]; exact hc0) hi
  · rintro e w1 ⟨A1, c1, rfl, q1, q2, hown, hb⟩
    go_wp2_with fail
    go_ret
    exact ⟨A1, c1, rfl, q1, q2, own_mono hown (by simp), hb0.trans (hb.mono (by simp))⟩

def countG (xs : List Int) (H : Nat → Bool) : Int := if permB xs = true then ((placesL H xs.length).length : Int) else -1

theorem call_CountFixed (args : Array Value) (w : World) : (callFunc 99 args).run Try.prog w = .ok (.enter 99 args) w := by kernel_rfl
set_option maxHeartbeats 400000 in
theorem fixed_impl (A : Option Addr) (c : Nat) (xs : List Int) (w : World) (h : In w A c xs) :
    Calls Try.prog 39 #[.slice A xs.length c] w (Rb w (.int .i64 (countG xs (fixH xs)))) := by
  have hmf : ∀ (fn : Fn) (first cap : Array Value) (w : World), (Instr.makeFunc fn first cap).run Try.prog w = .ok (.func fn first cap) w := fun _ _ _ _ => rfl
  have hb0 := (Below.refl w.heap.size w).alloc (Nat.le_refl _) (.cells #[.slice A xs.length c] 24)
  have h0 := h.next hb0
  have hc0 := alloc_cell w (.slice A xs.length c) 24
  by_cases hp : permB xs = true
  · have HG := Lib.hid (show countG xs (fixH xs) = ((listG xs (fixH xs)).length : Int) by rw [countG, if_pos hp, listG, if_pos hp])
    go_enter Try.func39, Try.ntmps39
    go_wp2_with fail
    refine (isPerm_impl _ _ _ _ h0).mono ?_
    rintro e w1 ⟨rfl, hb1⟩
    rw [hp]
    clear hp
    have hg1 : w1.cell? ⟨w.heap.size, 0, none⟩ = some (.slice A xs.length c) := by rw [hb1.cell (p := ⟨w.heap.size, 0, none⟩) (by simp)]; exact hc0
    have h1 := h0.next hb1
    have hsz : w.heap.size < w1.heap.size := by have := hb1.size; simp at this; omega
    go_wp2_with fail
    refine (listed_impl A c xs 99 w.heap.size (fixH xs) _ h1 (fun args w' => call_CountFixed args w') (fun w' i hb hi => ?_)).mono ?_
    · exact fixH_cl A c _ i xs w' (h1.next hb) (by rw [hb.cell (p := ⟨w.heap.size, 0, none⟩) hsz]; exact hg1) hi
    · rintro e w2 ⟨A1, c1, rfl, q1, q2, hown, hb⟩
      go_wp2_with fail
      go_ret
      exact ⟨ret_int HG.out.symm, hb0.trans ((hb1.trans (hb.mono hb1.size)).mono (by simp))⟩
  · have hpf : permB xs = false := by simpa using hp
    have HG := Lib.hid (show countG xs (fixH xs) = -1 by rw [countG, if_neg hp])
    go_enter Try.func39, Try.ntmps39
    go_wp2_with fail
    refine (isPerm_impl _ _ _ _ h0).mono ?_
    rintro e w1 ⟨rfl, hb1⟩
    rw [hpf]
    clear hp hpf
    go_wp2_with fail
    go_ret
    exact ⟨ret_int HG.out.symm, hb0.trans (hb1.mono (by simp))⟩

theorem call_CountRises (args : Array Value) (w : World) : (callFunc 100 args).run Try.prog w = .ok (.enter 100 args) w := by kernel_rfl
set_option maxHeartbeats 400000 in
theorem rises_impl (A : Option Addr) (c : Nat) (xs : List Int) (w : World) (h : In w A c xs) :
    Calls Try.prog 41 #[.slice A xs.length c] w (Rb w (.int .i64 (countG xs (riseH xs)))) := by
  have hmf : ∀ (fn : Fn) (first cap : Array Value) (w : World), (Instr.makeFunc fn first cap).run Try.prog w = .ok (.func fn first cap) w := fun _ _ _ _ => rfl
  have hb0 := (Below.refl w.heap.size w).alloc (Nat.le_refl _) (.cells #[.slice A xs.length c] 24)
  have h0 := h.next hb0
  have hc0 := alloc_cell w (.slice A xs.length c) 24
  by_cases hp : permB xs = true
  · have HG := Lib.hid (show countG xs (riseH xs) = ((listG xs (riseH xs)).length : Int) by rw [countG, if_pos hp, listG, if_pos hp])
    go_enter Try.func41, Try.ntmps41
    go_wp2_with fail
    refine (isPerm_impl _ _ _ _ h0).mono ?_
    rintro e w1 ⟨rfl, hb1⟩
    rw [hp]
    clear hp
    have hg1 : w1.cell? ⟨w.heap.size, 0, none⟩ = some (.slice A xs.length c) := by rw [hb1.cell (p := ⟨w.heap.size, 0, none⟩) (by simp)]; exact hc0
    have h1 := h0.next hb1
    have hsz : w.heap.size < w1.heap.size := by have := hb1.size; simp at this; omega
    go_wp2_with fail
    refine (listed_impl A c xs 100 w.heap.size (riseH xs) _ h1 (fun args w' => call_CountRises args w') (fun w' i hb hi => ?_)).mono ?_
    · exact riseH_cl A c _ i xs w' (h1.next hb) (by rw [hb.cell (p := ⟨w.heap.size, 0, none⟩) hsz]; exact hg1) hi
    · rintro e w2 ⟨A1, c1, rfl, q1, q2, hown, hb⟩
      go_wp2_with fail
      go_ret
      exact ⟨ret_int HG.out.symm, hb0.trans ((hb1.trans (hb.mono hb1.size)).mono (by simp))⟩
  · have hpf : permB xs = false := by simpa using hp
    have HG := Lib.hid (show countG xs (riseH xs) = -1 by rw [countG, if_neg hp])
    go_enter Try.func41, Try.ntmps41
    go_wp2_with fail
    refine (isPerm_impl _ _ _ _ h0).mono ?_
    rintro e w1 ⟨rfl, hb1⟩
    rw [hpf]
    clear hp hpf
    go_wp2_with fail
    go_ret
    exact ⟨ret_int HG.out.symm, hb0.trans (hb1.mono (by simp))⟩

def sumL (xs : List Int) : Int := xs.foldl (fun s x => wrap64 (s + x)) 0
theorem sumL_succ (xs : List Int) (k : Nat) (h : k < xs.length) : sumL (xs.take (k + 1)) = wrap64 (sumL (xs.take k) + xs[k]) := by
  unfold sumL
  rw [List.take_succ_eq_append_getElem h, List.foldl_append]
  rfl
def majorG (xs : List Int) : Int := if permB xs = true then sumL (listG xs (descH xs)) else -1
set_option maxHeartbeats 400000 in
theorem major_impl (A : Option Addr) (c : Nat) (xs : List Int) (w : World) (h : In w A c xs) :
    Calls Try.prog 30 #[.slice A xs.length c] w (Rb w (.int .i64 (majorG xs))) := by
  by_cases hp : permB xs = true
  · have HG := Lib.hid (show majorG xs = sumL (listG xs (descH xs)) by rw [majorG, if_pos hp])
    have hL := listG_length xs (descH xs)
    obtain ⟨L, hLe⟩ : ∃ L, L = listG xs (descH xs) := ⟨_, rfl⟩
    go_enter Try.func30, Try.ntmps30
    go_wp2_with fail
    refine (isPerm_impl _ _ _ _ h).mono ?_
    rintro e w1 ⟨rfl, hb1⟩
    rw [hp]
    clear hp
    go_wp2_with fail
    refine (descents_impl A c xs _ (h.next hb1)).mono ?_
    rw [← hLe]
    rw [← hLe] at hL
    have HL := Lib.hid hLe
    clear hLe
    rintro e w2 ⟨A1, c1, rfl, q1, q2, hown, hb⟩
    have hr := Rd.of_own hown
    have hB := hb1.trans (hb.mono hb1.size)
    clear hown
    go_wp2_with fail
    go_loop [3, 12] (fun s i => ∃ k : Nat, k ≤ L.length ∧ i = .int .i64 k ∧ s = .int .i64 (sumL (L.take k))) (fun _ i => L.length - (intOf i).toNat)
    case atStart => exact ⟨0, Nat.zero_le _, rfl, rfl⟩
    case round =>
      obtain ⟨k, hk, rfl, rfl⟩ := hrel
      rcases Nat.lt_or_ge k L.length with hlt | hge
      · obtain ⟨b, off, rfl, _, hc⟩ := hr (by omega)
        have ck := hc k hlt
        have HS := Lib.hid (sumL_succ L k hlt)
        clear hc
        go_wp2
        go_round
        case rel => exact ⟨k + 1, by omega, by go_num, by rw [HS.out]⟩
        case measure => simp [intOf]; omega
      · go_wp2
        go_ret
        exact ⟨ret_int (by rw [HG.out, ← HL.out, List.take_of_length_le hge]), hB⟩
  · have hpf : permB xs = false := by simpa using hp
    have HG := Lib.hid (show majorG xs = -1 by rw [majorG, if_neg hp])
    go_enter Try.func30, Try.ntmps30
    go_wp2_with fail
    refine (isPerm_impl _ _ _ _ h).mono ?_
    rintro e w1 ⟨rfl, hb1⟩
    rw [hpf]
    clear hp hpf
    go_wp2_with fail
    go_ret
    exact ⟨ret_int HG.out.symm, hb1⟩
end Go.Proofs.Ythipikllgpnlhaa
