/- ReversePerm and InversePerm of the reference. -/
import Derived.Test.YthipikllgpnlhaaV1
import Derived.Test.YthipikllgpnlhaaR5
namespace Go.Proofs.Ythipikllgpnlhaa
set_option maxRecDepth 100000
open Go Go.RowKit

def revG (p : List Int) : List Int := if permB p = true then p.reverse else []
theorem revG_length (p : List Int) : (revG p).length ≤ p.length := by unfold revG; split <;> simp
set_option maxHeartbeats 800000 in
theorem reversePerm_spec (A : Option Addr) (c : Nat) (p : List Int) (w : World) (h : In w A c p) :
    Calls Try.prog 67 #[.slice A p.length c] w (Ret (Value.int .i64) 3 w (revG p)) := by
  by_cases hp : permB p = true
  · have HP := Lib.hid hp
    have HR := Lib.hid (show revG p = p.reverse by rw [revG, if_pos hp])
    clear hp
    go_enter Try.func67, Try.ntmps67
    go_wp2_with fail
    (with_reducible refine (isPerm_sb A c p w true h HP.out).mono ?_)
    rintro e w1 ⟨rfl, hd⟩
    have hin := h.dr hd
    have HC := Lib.hid (l3Reverse_any A c p.length p w1 rfl h.len hin.rd)
    go_wp2_with fail
    (with_reducible refine HC.out.mono ?_)
    rintro e w2 ⟨A', c', rfl, h1, h2, ho, hb⟩
    go_wp2_with fail
    go_ret
    rw [HR.out]
    have hbd := below_dr (Below.refl w.heap.size w) hd
    exact ⟨A', c', by rw [List.length_reverse]; rfl, h1, h2, own_mono ho hbd.size, hbd.trans (hb.mono hbd.size)⟩
  · have hp : permB p = false := by simpa using hp
    have HP := Lib.hid hp
    have HR := Lib.hid (show revG p = [] by rw [revG, if_neg (by simp [hp])])
    clear hp
    go_enter Try.func67, Try.ntmps67
    go_wp2_with fail
    (with_reducible refine (isPerm_sb A c p w false h HP.out).mono ?_)
    rintro e w1 ⟨rfl, hd⟩
    have hbd := below_dr (Below.refl w.heap.size w) hd
    go_wp2_with fail
    go_ret
    rw [HR.out]
    exact ⟨_, 0, rfl, Nat.le_refl _, Nat.zero_le _, World.ownsRow_lit _ #[] 0 hbd.size (by unfold maxLen; omega) rfl, hbd.alloc hbd.size _⟩
end Go.Proofs.Ythipikllgpnlhaa
