/- What the arguments of a law read as, in the words of R1: flat slices, patterns with joined places, lists of rows, meshes. -/
import Derived.Test.YtgodlofkilgfjaaOpen
import Derived.Test.YtgodlofkilgfjaaR2
import Derived.Lib.SmallJoins
import Derived.Deep.Matrix
namespace Go.Proofs.Ytgodlofkilgfjaa
open Go Go.RowKit Go.ChangeShapes Go.WideShapes Go.ChangeAt

section
variable {H : Type} {enc : TypeId × Value → H} {W : World} {base fuel : Nat}

theorem trod_I {v : Value} {x : DataW H × List MemPlace} (h : DataW.trod enc Try.prog W 0 (fun _ => true) true fuel 22 [v] = some x) :
    ∃ (A : Option Addr) (c : Nat) (xs : List Int), v = .slice A xs.length c ∧ Arg W [⟨A, c, xs⟩] [] := by
  rcases open_ints Try.underlying22 Try.underlying3 cells_int h with ⟨hcs, hx⟩ | ⟨a, len', cap', zs, hcs, _, hl, hm, hz, hx, hcell, hwz⟩
  · injection hcs with hcs _
    exact ⟨none, 0, [], hcs, ⟨fun r hr => by obtain rfl := List.mem_singleton.1 hr; exact Nat.le_refl _, fun r hr => by obtain rfl := List.mem_singleton.1 hr; exact Rd.nil_, fun _ ho => (List.not_mem_nil ho).elim, fun _ ho => (List.not_mem_nil ho).elim⟩,
      fun r hr => by obtain rfl := List.mem_singleton.1 hr; exact Nat.zero_le _, fun _ ho => (List.not_mem_nil ho).elim⟩
  · injection hcs with hcs _
    simp only [if_true] at hz
    have hlen : (zs.take len').length = len' := by rw [List.length_take]; omega
    refine ⟨some a, cap', zs.take len', by rw [hlen]; exact hcs, ⟨fun r hr => by obtain rfl := List.mem_singleton.1 hr; simp only [hlen]; exact hl, fun r hr => ?_, fun _ ho => (List.not_mem_nil ho).elim, fun _ ho => (List.not_mem_nil ho).elim⟩,
      fun r hr => by obtain rfl := List.mem_singleton.1 hr; exact hm, fun _ ho => (List.not_mem_nil ho).elim⟩
    obtain rfl := List.mem_singleton.1 hr
    intro h0
    simp only [hlen] at h0
    obtain ⟨b, off, spot⟩ := a
    have hc0 := hcell 0 (by omega)
    have hspot : spot = none := by simpa [Addr.add] using World.cell?_spot hc0
    subst hspot
    refine ⟨b, off, rfl, ?_, fun j hj => ?_⟩
    · have := block_lt_of_cell hc0
      simpa [Addr.add] using this
    · have := hcell j (by simp only [hlen] at hj; omega)
      rw [add_plain] at this
      rw [this]
      simp only [hlen] at hj
      simp [List.getD, show j < zs.length by omega]

theorem open_I {v : Value} {d : DataW H} {ps : List MemPlace} (h : DataW.Trod enc Try.prog W 0 (fun _ => true) true 22 v d ps)
    (hv : Value.okWide Try.prog W .any base 22 v) : ∃ (A : Option Addr) (c : Nat) (xs : List Int), v = .slice A xs.length c ∧ Arg W [⟨A, c, xs⟩] [] := by
  obtain ⟨a0, len, cap, rfl⟩ := okWide_slice Try.underlying22 hv
  obtain ⟨fuel, hf⟩ := h
  exact trod_I hf

theorem cells_Near : Try.prog.cellsOf 28 = 2 := by kernel_rfl
theorem open_N {v : Value} {d : DataW H} {ps : List MemPlace} (h : DataW.Trod enc Try.prog W 0 (fun _ => true) true 28 v d ps)
    (hv : Value.okWide Try.prog W .any base 28 v) :
    ∃ (A B : Option Addr) (c k : Nat) (xs ys : List Int), v = .agg #[.slice A xs.length c, .slice B ys.length k] ∧ Arg W [⟨A, c, xs⟩, ⟨B, k, ys⟩] [] := by
  obtain ⟨v0, v1, y0, y1, n, rfl, _, _, h0, h1⟩ := Go.Joins.open_agg2 Try.underlying28 (by kernel_rfl) cells_Near hv h
  obtain ⟨A, c, xs, rfl, ha⟩ := trod_I h0
  obtain ⟨B, k, ys, rfl, hb⟩ := trod_I h1
  refine ⟨A, B, c, k, xs, ys, rfl, ⟨fun r hr => ?_, fun r hr => ?_, fun _ ho => (List.not_mem_nil ho).elim, fun _ ho => (List.not_mem_nil ho).elim⟩, fun r hr => ?_, fun _ ho => (List.not_mem_nil ho).elim⟩
  all_goals
    rcases List.mem_cons.1 hr with rfl | hr
  · exact ha.read.cap _ (List.mem_singleton.2 rfl)
  · exact hb.read.cap _ hr
  · exact ha.read.rd _ (List.mem_singleton.2 rfl)
  · exact hb.read.rd _ hr
  · exact ha.rcap _ (List.mem_singleton.2 rfl)
  · exact hb.rcap _ hr
end
end Go.Proofs.Ytgodlofkilgfjaa
