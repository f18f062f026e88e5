/- What the arguments of a law read as, in the words of R1: flat slices, patterns with joined places, lists of rows, meshes. -/
import Derived.Test.YthkggnmfdlggbaaOpen
import Derived.Test.YthkggnmfdlggbaaR2
import Derived.Test.YthkggnmfdlggbaaL2
import Derived.Lib.SmallJoins
import Derived.Deep.Matrix
namespace Go.Proofs.Ythkggnmfdlggbaa
set_option maxRecDepth 100000
open Go Go.RowKit Go.ChangeShapes Go.WideShapes Go.ChangeAt

section
variable {H : Type} {enc : TypeId × Value → H} {W : World} {base fuel : Nat}

theorem trod_I {v : Value} {x : DataW H × List MemPlace} (h : DataW.trod enc Try.prog W 0 (fun _ => true) true fuel 22 [v] = some x) :
    ∃ (A : Option Addr) (c : Nat) (xs : List Int), v = .slice A xs.length c ∧ Arg W [⟨A, c, xs⟩] [] := by
  rcases open_ints Try.underlying22 Try.underlying3 cells_int h with ⟨hcs, hx⟩ | ⟨a, len', cap', zs, hcs, _, hl, hm, hz, hx, hcell, hwz⟩
  · injection hcs with hcs _
    exact ⟨none, 0, [], hcs, ⟨fun r hr => by obtain rfl := List.mem_singleton.1 hr; exact Nat.le_refl _, fun r hr => by obtain rfl := List.mem_singleton.1 hr; exact Rd.nil_, fun _ ho => (List.not_mem_nil ho).elim, fun _ ho => (List.not_mem_nil ho).elim⟩,
      fun r hr => by obtain rfl := List.mem_singleton.1 hr; exact Nat.zero_le _, fun _ ho => (List.not_mem_nil ho).elim⟩
  · injection hcs with hcs _
    simp only [if_true] at hz
    have hlen : (zs.take len').length = len' := by rw [List.length_take]; omega
    refine ⟨some a, cap', zs.take len', by rw [hlen]; exact hcs, ⟨fun r hr => by obtain rfl := List.mem_singleton.1 hr; simp only [hlen]; exact hl, fun r hr => ?_, fun _ ho => (List.not_mem_nil ho).elim, fun _ ho => (List.not_mem_nil ho).elim⟩,
      fun r hr => by obtain rfl := List.mem_singleton.1 hr; exact hm, fun _ ho => (List.not_mem_nil ho).elim⟩
    obtain rfl := List.mem_singleton.1 hr
    intro h0
    simp only [hlen] at h0
    obtain ⟨b, off, spot⟩ := a
    have hc0 := hcell 0 (by omega)
    have hspot : spot = none := by simpa [Addr.add] using World.cell?_spot hc0
    subst hspot
    refine ⟨b, off, rfl, ?_, fun j hj => ?_⟩
    · have := block_lt_of_cell hc0
      simpa [Addr.add] using this
    · have := hcell j (by simp only [hlen] at hj; omega)
      rw [add_plain] at this
      rw [this]
      simp only [hlen] at hj
      simp [List.getD, show j < zs.length by omega]

theorem open_I {v : Value} {d : DataW H} {ps : List MemPlace} (h : DataW.Trod enc Try.prog W 0 (fun _ => true) true 22 v d ps)
    (hv : Value.okWide Try.prog W .any base 22 v) : ∃ (A : Option Addr) (c : Nat) (xs : List Int), v = .slice A xs.length c ∧ Arg W [⟨A, c, xs⟩] [] := by
  obtain ⟨a0, len, cap, rfl⟩ := okWide_slice Try.underlying22 hv
  obtain ⟨fuel, hf⟩ := h
  exact trod_I hf

theorem cells_Near : Try.prog.cellsOf 24 = 2 := by kernel_rfl
theorem open_N {v : Value} {d : DataW H} {ps : List MemPlace} (h : DataW.Trod enc Try.prog W 0 (fun _ => true) true 24 v d ps)
    (hv : Value.okWide Try.prog W .any base 24 v) :
    ∃ (A B : Option Addr) (c k : Nat) (xs ys : List Int), v = .agg #[.slice A xs.length c, .slice B ys.length k] ∧ Arg W [⟨A, c, xs⟩, ⟨B, k, ys⟩] [] := by
  obtain ⟨v0, v1, y0, y1, n, rfl, _, _, h0, h1⟩ := Go.Joins.open_agg2 Try.underlying24 (by kernel_rfl) cells_Near hv h
  obtain ⟨A, c, xs, rfl, ha⟩ := trod_I h0
  obtain ⟨B, k, ys, rfl, hb⟩ := trod_I h1
  refine ⟨A, B, c, k, xs, ys, rfl, ⟨fun r hr => ?_, fun r hr => ?_, fun _ ho => (List.not_mem_nil ho).elim, fun _ ho => (List.not_mem_nil ho).elim⟩, fun r hr => ?_, fun _ ho => (List.not_mem_nil ho).elim⟩
  all_goals
    rcases List.mem_cons.1 hr with rfl | hr
  · exact ha.read.cap _ (List.mem_singleton.2 rfl)
  · exact hb.read.cap _ hr
  · exact ha.read.rd _ (List.mem_singleton.2 rfl)
  · exact hb.read.rd _ hr
  · exact ha.rcap _ (List.mem_singleton.2 rfl)
  · exact hb.rcap _ hr
theorem cells_ints2 : Try.prog.cellsOf 22 = 1 := by kernel_rfl
theorem trod_L {v : Value} {x : DataW H × List MemPlace} (h : DataW.trod enc Try.prog W 0 (fun _ => true) true fuel 33 [v] = some x) :
    ∃ (A : Option Addr) (c : Nat) (rs : List Row), v = .slice A rs.length c ∧ Arg W rs [⟨A, c, rs.map Row.v⟩] := by
  rcases Go.Deep.open_int_rows Try.underlying33 Try.underlying22 Try.underlying3 cells_ints2 cells_int h with ⟨hcs, hx⟩ | ⟨a, len, cap, A, L, C, Z, hcs, _, hl, hm, hx, hr⟩
  · injection hcs with hcs _
    refine ⟨none, 0, [], hcs, ⟨fun _ h => (List.not_mem_nil h).elim, fun _ h => (List.not_mem_nil h).elim, fun o ho => by obtain rfl := List.mem_singleton.1 ho; exact Nat.le_refl _, fun o ho => by obtain rfl := List.mem_singleton.1 ho; exact Rd.nil_⟩, fun _ h => (List.not_mem_nil h).elim, fun o ho => by obtain rfl := List.mem_singleton.1 ho; exact Nat.zero_le _⟩
  · injection hcs with hcs _
    have hxl : ∀ r, r < len → ((Z r).take (L r)).length = L r := fun r hrl => by
      have := hr r (by omega)
      rw [List.length_take]; omega
    have hmem : ∀ q ∈ (List.range len).map (fun r => (⟨A r, C r, (Z r).take (L r)⟩ : Row)), ∃ r, r < len ∧ q = ⟨A r, C r, (Z r).take (L r)⟩ := fun q hq => by
      obtain ⟨r, hrr, he⟩ := List.mem_map.1 hq
      exact ⟨r, List.mem_range.1 hrr, he.symm⟩
    have hlen : ((List.range len).map (fun r => (⟨A r, C r, (Z r).take (L r)⟩ : Row))).length = len := by simp
    refine ⟨some a, cap, (List.range len).map fun r => ⟨A r, C r, (Z r).take (L r)⟩, by rw [hlen]; exact hcs, ⟨fun q hq => ?_, fun q hq => ?_, fun o ho => ?_, fun o ho => ?_⟩, fun q hq => ?_, fun o ho => ?_⟩
    · obtain ⟨r, hrl, rfl⟩ := hmem q hq
      have := hr r (by omega)
      simp only [hxl r hrl]; omega
    · obtain ⟨r, hrl, rfl⟩ := hmem q hq
      obtain ⟨_, h2, h3, h4, _, h6, h7⟩ := hr r (by omega)
      intro h0
      simp only [hxl r hrl] at h0
      rcases hA : A r with _ | a'
      · have := h6 hA; omega
      · obtain ⟨_, hc⟩ := h7 a' hA
        obtain ⟨b, off, spot⟩ := a'
        have hc0 := hc 0 (by omega)
        have hspot : spot = none := by simpa [Addr.add] using World.cell?_spot hc0
        subst hspot
        refine ⟨b, off, rfl, ?_, fun j hj => ?_⟩
        · have := block_lt_of_cell hc0
          simpa [Addr.add] using this
        · simp only [hxl r hrl] at hj
          have := hc j (by omega)
          rw [add_plain] at this
          rw [this]
          simp [List.getD, show j < (Z r).length by omega]
    · obtain rfl := List.mem_singleton.1 ho
      simp only [List.length_map, List.length_range]; exact hl
    · obtain rfl := List.mem_singleton.1 ho
      intro h0
      simp only [List.length_map, List.length_range] at h0
      obtain ⟨b, off, spot⟩ := a
      have hc0 := (hr 0 (by omega)).1
      have hspot : spot = none := by simpa [Addr.add] using World.cell?_spot hc0
      subst hspot
      refine ⟨b, off, rfl, ?_, fun j hj => ?_⟩
      · have := block_lt_of_cell hc0
        simpa [Addr.add] using this
      · simp only [List.length_map, List.length_range] at hj
        have := (hr j (by omega)).1
        rw [add_plain] at this
        rw [this]
        simp only [List.getElem_map, List.getElem_range, Row.v, hxl j hj]
        rfl
    · obtain ⟨r, hrl, rfl⟩ := hmem q hq
      exact (hr r (by omega)).2.2.1
    · obtain rfl := List.mem_singleton.1 ho
      exact hm
theorem open_L {v : Value} {d : DataW H} {ps : List MemPlace} (h : DataW.Trod enc Try.prog W 0 (fun _ => true) true 33 v d ps)
    (hv : Value.okWide Try.prog W .any base 33 v) : ∃ (A : Option Addr) (c : Nat) (rs : List Row), v = .slice A rs.length c ∧ Arg W rs [⟨A, c, rs.map Row.v⟩] := by
  obtain ⟨a0, len, cap, rfl⟩ := okWide_slice Try.underlying33 hv
  obtain ⟨fuel, hf⟩ := h
  exact trod_L hf

theorem cells_Mesh : Try.prog.cellsOf 35 = 2 := by kernel_rfl
theorem open_M {v : Value} {d : DataW H} {ps : List MemPlace} (h : DataW.Trod enc Try.prog W 0 (fun _ => true) true 35 v d ps)
    (hv : Value.okWide Try.prog W .any base 35 v) :
    ∃ (A B : Option Addr) (c k : Nat) (xs : List Int) (rs : List Row), v = .agg #[.slice A xs.length c, .slice B rs.length k] ∧ Arg W (⟨A, c, xs⟩ :: rs) [⟨B, k, rs.map Row.v⟩] := by
  obtain ⟨v0, v1, y0, y1, n, rfl, _, _, h0, h1⟩ := Go.Joins.open_agg2 Try.underlying35 (by kernel_rfl) cells_Mesh hv h
  obtain ⟨A, c, xs, rfl, ha⟩ := trod_I h0
  obtain ⟨B, k, rs, rfl, hb⟩ := trod_L h1
  refine ⟨A, B, c, k, xs, rs, rfl, ⟨fun r hr => ?_, fun r hr => ?_, hb.read.ocap, hb.read.ord⟩, fun r hr => ?_, hb.ocap⟩
  all_goals
    rcases List.mem_cons.1 hr with rfl | hr
  · exact ha.read.cap _ (List.mem_singleton.2 rfl)
  · exact hb.read.cap _ hr
  · exact ha.read.rd _ (List.mem_singleton.2 rfl)
  · exact hb.read.rd _ hr
  · exact ha.rcap _ (List.mem_singleton.2 rfl)
  · exact hb.rcap _ hr
end
end Go.Proofs.Ythkggnmfdlggbaa
