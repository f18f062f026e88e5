/- Lists of rows: the laws' own helpers toIntSS, eqIntSS, markIntSS, heldIntSS, szIntSS. -/
import Derived.Test.YthipikllgpnlhaaR2
import Derived.Test.YthipikllgpnlhaaC2
namespace Go.Proofs.Ythipikllgpnlhaa
set_option maxRecDepth 100000
open Go Go.RowKit

theorem infoL : (Try.prog.info? 24).map (fun i => (i.zero, i.size, i.bytes)) = some (some (.slice none 0 0), 1, 24) := by kernel_rfl

def sizeX (X : List (List Int)) : Nat := (X.map List.length).sum
theorem sizeR_eq (rs : List Row) : sizeR rs = sizeX (rs.map Row.xs) := by simp only [sizeR, sizeX, List.map_map]; rfl
theorem map_len {rs rs' : List Row} (h : rs'.map Row.xs = rs.map Row.xs) : rs'.length = rs.length := by have := congrArg List.length h; simpa using this
theorem map_size {rs rs' : List Row} (h : rs'.map Row.xs = rs.map Row.xs) : sizeR rs' = sizeR rs := by rw [sizeR_eq, sizeR_eq, h]
theorem map_len1 {rs : List Row} {X : List (List Int)} (h : rs.map Row.xs = X) : rs.length = X.length := by rw [← h, List.length_map]
theorem map_size1 {rs : List Row} {X : List (List Int)} (h : rs.map Row.xs = X) : sizeR rs = sizeX X := by rw [sizeR_eq, h]
theorem sizeR_mem {rs : List Row} {r : Row} (h : r ∈ rs) : r.xs.length ≤ sizeR rs := by
  induction rs with
  | nil => cases h
  | cons a t ih =>
    have e : sizeR (a :: t) = a.xs.length + sizeR t := by simp [sizeR]
    rcases List.mem_cons.1 h with rfl | h
    · omega
    · have := ih h; omega
theorem sizeR_take (rs : List Row) (j : Nat) (h : j < rs.length) : sizeR (rs.take (j + 1)) = sizeR (rs.take j) + rs[j].xs.length := by
  rw [List.take_succ_eq_append_getElem h, sizeR_append]; simp [sizeR]
theorem sizeR_take_le (rs : List Row) (j : Nat) : sizeR (rs.take j) ≤ sizeR rs := by
  have := sizeR_append (rs.take j) (rs.drop j)
  rw [List.take_append_drop] at this
  omega

/-- What a call is handed of a list of rows. -/
structure InL (w : World) (A : Option Addr) (c : Nat) (rs : List Row) : Prop where
  len : rs.length + sizeR rs ≤ 1048576
  read : Read w w.heap.size rs [⟨A, c, rs.map Row.v⟩]
theorem InL.next {w w' : World} {A : Option Addr} {c : Nat} {rs : List Row} (h : InL w A c rs) (hb : Below w.heap.size w w') : InL w' A c rs := ⟨h.len, (h.read.below hb).more hb.size⟩
theorem InL.dr {w w' : World} {A : Option Addr} {c : Nat} {rs : List Row} (h : InL w A c rs) (hd : Dr w w') : InL w' A c rs := ⟨h.len, (h.read.dr hd).more (by rw [hd.heap]; exact Nat.le_refl _)⟩
theorem Read.toL {w : World} {hi : Nat} {A : Option Addr} {c : Nat} {rs : List Row} (h : Read w hi rs [⟨A, c, rs.map Row.v⟩]) (hl : rs.length + sizeR rs ≤ 1048576) (hB : hi ≤ w.heap.size) : InL w A c rs := ⟨hl, h.more hB⟩
theorem InL.row {w : World} {A : Option Addr} {c : Nat} {rs : List Row} (h : InL w A c rs) {r : Row} (hr : r ∈ rs) : In w r.A r.c r.xs :=
  h.read.mem hr (by have := sizeR_mem hr; have := h.len; omega) (Nat.le_refl _)
theorem Read.at {w : World} {B : Nat} {A : Option Addr} {c : Nat} {rs : List Row} (h : Read w B rs [⟨A, c, rs.map Row.v⟩]) (h0 : 0 < rs.length) :
    ∃ b off, A = some ⟨b, off, none⟩ ∧ b < B ∧ ∀ j (hj : j < rs.length), w.cell? ⟨b, off + j, none⟩ = some (Value.slice rs[j].A rs[j].xs.length rs[j].c) := by
  obtain ⟨b, off, he, hb, hc⟩ := h.ord _ (List.mem_singleton.2 rfl) (by simpa using h0)
  refine ⟨b, off, he, hb, fun j hj => ?_⟩
  have := hc j (by simpa using hj)
  rw [this]
  simp [Row.v]
theorem Read.atN {w : World} {B : Nat} {A : Option Addr} {c : Nat} {rs : List Row} {X : List Value} (h : Read w B rs [⟨A, c, X⟩]) (h0 : 0 < X.length) :
    ∃ b off, A = some ⟨b, off, none⟩ ∧ b < B ∧ ∀ j (hj : j < X.length), w.cell? ⟨b, off + j, none⟩ = some X[j] := h.ord _ (List.mem_singleton.2 rfl) h0






end Go.Proofs.Ythipikllgpnlhaa
