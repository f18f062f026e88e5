/- The counts of FnStatistics: what the loops add up to, by the kernel's own reckoning. -/
import Derived.Test.YthipikllgpnlhaaC4
import Derived.Test.YthipikllgpnlhaaP4
import Derived.Test.YthipikllgpnlhaaP2b
import Derived.Test.YthipikllgpnlhaaR4
namespace Go.Proofs.Ythipikllgpnlhaa
set_option maxRecDepth 100000
open Go Go.RowKit

/-- The counts after k permutations. -/
def histTo (f : List Int → Nat) (m : Nat) (L : List (List Int)) : Nat → List Int
  | 0 => List.replicate m 0
  | k + 1 => addAt (histTo f m L k) (f (L[k]?.getD [])) 1
theorem histTo_length (f : List Int → Nat) (m : Nat) (L : List (List Int)) (k : Nat) : (histTo f m L k).length = m := by
  induction k with
  | zero => simp [histTo]
  | succ k ih => rw [histTo, addAt_length, ih]
def fDown (p : List Int) : Nat := (listG p (descH p)).length
def fRise (p : List Int) : Nat := (countG p (riseH p) : Int).toNat
def fInv (p : List Int) : Nat := (invG p).toNat
def fMajor (p : List Int) : Nat := (majorG p).toNat
/-- What the first loop needs, and what it comes to. -/
def statN (n : Nat) : Bool :=
  (permsL n).all (fun p => decide (p.length ≤ 5) && decide (fDown p < n) && decide (fRise p < n) && decide ((countG p (riseH p) : Int) = fRise p)) &&
  decide (histTo fDown n (permsL n) (permsL n).length = eulG n) && decide (histTo fRise n (permsL n) (permsL n).length = eulG n)
def statK (k : Nat) : Bool :=
  (permsL k).all (fun p => decide (p.length ≤ 5) && decide (fInv p < k * (k - 1) / 2 + 1) && decide (fMajor p < k * (k - 1) / 2 + 1) && decide (invG p = fInv p) && decide (majorG p = fMajor p)) &&
  decide (histTo fInv (k * (k - 1) / 2 + 1) (permsL k) (permsL k).length = mahG k) && decide (histTo fMajor (k * (k - 1) / 2 + 1) (permsL k) (permsL k).length = mahG k)
set_option maxRecDepth 100000 in
theorem statN_all : (List.range 5).all (fun i => statN (i + 1)) = true := by decide +kernel
set_option maxRecDepth 100000 in
theorem statK_all : (List.range 5).all (fun i => statK (i + 1)) = true := by decide +kernel
theorem statN_at {m : Nat} (h : 1 ≤ m ∧ m ≤ 5) : statN m = true := by
  have := List.all_eq_true.1 statN_all (m - 1) (List.mem_range.2 (by omega))
  rwa [show m - 1 + 1 = m by omega] at this
theorem statK_at {m : Nat} (h : 1 ≤ m ∧ m ≤ 5) : statK m = true := by
  have := List.all_eq_true.1 statK_all (m - 1) (List.mem_range.2 (by omega))
  rwa [show m - 1 + 1 = m by omega] at this
theorem oD0_lt {w : World} {base b n c : Nat} {vs : List Value} (h : w.ownsRow base 3 1 (.slice (some ⟨b, 0, none⟩) n c) n vs) (hn : 0 < n) : b < w.heap.size := by
  obtain ⟨g, cap, hv, _, hlt⟩ := h.form hn
  injection hv with h1
  injection h1 with h1
  injection h1 with h1
  omega
theorem statN_row {m : Nat} {x : List Int} (h : statN m = true) (hx : x ∈ permsL m) : x.length ≤ 5 ∧ fDown x < m ∧ fRise x < m ∧ (countG x (riseH x) : Int) = fRise x := by
  unfold statN at h
  simp only [Bool.and_eq_true] at h
  have h1 := List.all_eq_true.1 h.1.1 x hx
  simpa [and_assoc] using h1
theorem statK_row {m : Nat} {x : List Int} (h : statK m = true) (hx : x ∈ permsL m) : x.length ≤ 5 ∧ fInv x < m * (m - 1) / 2 + 1 ∧ fMajor x < m * (m - 1) / 2 + 1 ∧ invG x = fInv x ∧ majorG x = fMajor x := by
  unfold statK at h
  simp only [Bool.and_eq_true] at h
  have h1 := List.all_eq_true.1 h.1.1 x hx
  simpa [and_assoc] using h1
theorem permsL_120 {m : Nat} (h : m ≤ 5) : (permsL m).length ≤ 120 := by
  have h1 : (List.range 6).all (fun i => decide ((permsL i).length ≤ 120)) = true := by decide +kernel
  exact of_decide_eq_true (List.all_eq_true.1 h1 m (List.mem_range.2 (by omega)))
/-- A count is raised: what else is held stays. -/
theorem bump_facts {x0 wr w9 : World} {B g g' lo hi m q base base' pc : Nat} {PA : Option Addr} {d d' : List Int} {rs : List Row} (hb : Below wr.heap.size wr w9)
    (oD : wr.ownsRow base 3 1 (.slice (some ⟨g, 0, none⟩) m m) m (d.map (Value.int .i64))) (oR : wr.ownsRow base' 3 1 (.slice (some ⟨g', 0, none⟩) m m) m (d'.map (Value.int .i64)))
    (hO : Own wr lo hi rs [⟨PA, pc, rs.map Row.v⟩]) (hX : Below B x0 wr) (hg : g ≠ g') (hlo : g < lo) (hB : B ≤ g) (hq : q < d.length) {u : Int} (hu : u = wrap64 (d[q] + 1)) :
    (w9.setCell ⟨g, q, none⟩ (.int .i64 u)).ownsRow base 3 1 (.slice (some ⟨g, 0, none⟩) m m) m ((addAt d q 1).map (Value.int .i64)) ∧
    (w9.setCell ⟨g, q, none⟩ (.int .i64 u)).ownsRow base' 3 1 (.slice (some ⟨g', 0, none⟩) m m) m (d'.map (Value.int .i64)) ∧
    Own (w9.setCell ⟨g, q, none⟩ (.int .i64 u)) lo hi rs [⟨PA, pc, rs.map Row.v⟩] ∧ Below B x0 (w9.setCell ⟨g, q, none⟩ (.int .i64 u)) ∧
    wr.heap.size ≤ (w9.setCell ⟨g, q, none⟩ (.int .i64 u)).heap.size := by
  have hsp : Span g (g + 1) w9 (w9.setCell ⟨g, q, none⟩ (.int .i64 u)) := Span.set (p := ⟨g, q, none⟩) (Nat.le_refl _) (Nat.lt_succ_self _) _
  have hsz := hb.size
  have hs2 := hsp.size
  have hgl := oD0_lt oD (by have := own_len oD; simp only [List.length_map] at this; omega)
  refine ⟨?_, own_span (own_below oR hb) hsp (fun k hk => ?_), (hO.below hb).span hsp (.inr (by omega)), (hX.trans (hb.mono (by omega))).setCell (p := ⟨g, q, none⟩) hB _, by omega⟩
  · have h1 := (own_put (own_below oD hb) q hq u).2.2
    rw [addAt, List.getElem?_eq_getElem hq, Option.getD_some, ← hu]
    exact h1
  · have : g' = k := by injection hk
    omega
end Go.Proofs.Ythipikllgpnlhaa
