/- ParsePerm, program and reference; SplitByte. -/
import Derived.Test.YtodokdddcikhdaaDoorSP
import Derived.Test.YtodokdddcikhdaaDoorL3
import Derived.Test.YtodokdddcikhdaaDoorR5
import Derived.Test.YtodokdddcikhdaaDoorP1
import Derived.Test.YtodokdddcikhdaaDoorQ2
namespace Go.Proofs.YtodokdddcikhdaaDoor
set_option maxRecDepth 100000
open Go Go.RowKit

def ppL (l : List UInt8) : List Int := l.map fun b => (b.toNat : Int) - 48
theorem ppL_len (l : List UInt8) : (ppL l).length = l.length := by simp [ppL]
def ppB (l : List UInt8) : Bool := decide (l = [45]) || (decide (l ≠ []) && permB (ppL l))
def ppG (l : List UInt8) : List Int := if ppB l = true then (if l = [45] then [] else ppL l) else []
theorem ppG_len (l : List UInt8) : (ppG l).length ≤ l.length ∧ (ppG l).length ≤ 8 := by
  unfold ppG
  split
  · rename_i h
    split
    · simp
    · rename_i h2
      unfold ppB at h
      rw [decide_eq_false h2, Bool.false_or, Bool.and_eq_true] at h
      have h8 := (permB_true h.2).1
      rw [ppL_len] at *
      omega
  · simp
def ppTo (l : List UInt8) (k : Nat) : List Int := ppL (l.take k)
theorem ppTo_succ (l : List UInt8) (k : Nat) (h : k < l.length) : ppTo l (k + 1) = ppTo l k ++ [(l[k].toNat : Int) - 48] := by
  unfold ppTo ppL
  rw [List.take_succ_eq_append_getElem h, List.map_append]; rfl
set_option maxHeartbeats 1000000 in
theorem parsePerm_impl (s : ByteArray) (w : World) (hs : s.size ≤ 1048576) :
    Calls Tryd.prog 11 #[.string s] w (Ret2 (Value.int .i64) 3 w (ppG s.data.toList) (ppB s.data.toList)) := by
  obtain ⟨i0, hi, hz0, hz1, hz2⟩ := info_parts infoI
  have hl : s.data.toList.length = s.size := by show s.data.toList.length = s.data.size; simp
  have own0 : (w.alloc (.cells #[] 3)).ownsRow w.heap.size 3 1 (.slice (some ⟨w.heap.size, 0, none⟩) 0 0) 0 (([] : List Int).map (Value.int .i64)) := World.ownsRow_lit w #[] 0 (Nat.le_refl _) (by unfold maxLen; omega) rfl
  have hb0 := (Below.refl w.heap.size w).alloc (Nat.le_refl _) (.cells #[] 3)
  have hTL : s.toList = s.data.toList := ByteArray.toList_eq s
  have hnil : s.data.toList = [] ↔ s.size = 0 := by rw [← hl]; exact List.length_eq_zero_iff.symm
  by_cases hd : s.data.toList = [45]
  · have d1 : (s.toList == [45]) = true := by rw [hTL, hd]; rfl
    have HB := Lib.hid (show ppB s.data.toList = true by unfold ppB; rw [decide_eq_true hd]; rfl)
    have HG := Lib.hid (show ppG s.data.toList = [] by unfold ppG; rw [HB.out, if_pos rfl, if_pos hd])
    clear hd hTL hnil
    go_enter Tryd.func11, Tryd.ntmps11
    go_wp2_with fail
    go_ret2
    rw [HB.out, HG.out]
    exact ⟨_, 0, rfl, Nat.le_refl _, Nat.zero_le _, own0, hb0⟩
  · have d1 : (s.toList == [45]) = false := by rw [hTL]; simpa using hd
    have HD := Lib.hid hd
    have HN := Lib.hid hnil
    have HTL := Lib.hid hTL
    clear hd hTL hnil
    go_enter Tryd.func11, Tryd.ntmps11
    go_wp2_with fail
    go_loopw [4, 12] (fun v i wr => ∃ (k : Nat) (A1 : Option Addr) (c1 : Nat), k ≤ s.size ∧ i = .int .i64 k ∧ v = .slice A1 k c1 ∧ wr.ownsRow w.heap.size 3 1 (.slice A1 k c1) k ((ppTo s.data.toList k).map (Value.int .i64)) ∧ Below w.heap.size w wr) (fun _ i _ => s.size - (intOf i).toNat)
    case atStart => exact ⟨0, _, _, Nat.zero_le _, rfl, rfl, own0, hb0⟩
    case round =>
      clear own0 hb0
      obtain ⟨k, A1, c1, hk, rfl, rfl, hO, hb⟩ := hrel
      have hsz := hb.size
      rcases Nat.lt_or_ge k s.size with hlt | hge
      · obtain ⟨x, hx⟩ : ∃ x : UInt8, x = s[k] := ⟨_, rfl⟩
        have hx2 := UInt8.toNat_lt x
        have HS := Lib.hid (show ppTo s.data.toList (k + 1) = ppTo s.data.toList k ++ [(x.toNat : Int) - 48] by rw [ppTo_succ _ k (by rw [hl]; exact hlt), hx]; rfl)
        have e1 : IntKind.i64.wrap (x.toNat : Int) = (x.toNat : Int) := IntWalk.i64_in _ (by omega)
        have e2 : IntKind.i64.wrap ((x.toNat : Int) - 48) = (x.toNat : Int) - 48 := IntWalk.i64_in _ (by omega)
        have hx3 : s[k] = x := hx.symm
        clear hx
        go_wp2_with (at_builtin; refine wpList_append_own _ rfl _ _ 22 rfl (w.heap.size) 3 i0 (.int .i64 0) 1 8 Tryd.underlying22 hi hz0 hz1 hz2 rfl (by decide) _ _ _ rfl (World.ownsRow.alloc hO _) ⟨wr.heap.size, 0, none⟩ 1 1 [.int .i64 ((x.toNat : Int) - 48)] rfl rfl (cell_one_new _ _ _) (by intro u hu; simp at hu; subst hu; rfl) (by unfold maxLen; omega) (by omega) (by simp; omega) ?_; intro v1 w1 hown1 hgrow1 _)
        have hb1 := (hb.alloc hsz (Obj.cells #[Value.int .i64 ((x.toNat : Int) - 48)] 3)).grown hgrow1 (by simp; omega) (by intro g hg; exact (hO.lt g hg).1)
        obtain ⟨A2, c2, rfl, _, _⟩ := own_shape hown1
        have K := Lib.hid (And.intro hown1 hb1)
        clear hown1 hgrow1 hb1 hO hb
        go_wp2_with fail
        go_roundw
        case rel => exact ⟨k + 1, A2, c2, by omega, by go_num, rfl, by rw [HS.out]; simpa using K.out.1, K.out.2⟩
        case measure => simp [intOf]; omega
      · obtain rfl : k = s.size := by omega
        have HP := Lib.hid (show ppTo s.data.toList s.size = ppL s.data.toList by unfold ppTo; rw [← hl, List.take_length])
        rcases Nat.eq_zero_or_pos s.size with h0 | h0
        · have d2 : (s.toList == []) = true := by rw [HTL.out, HN.out.2 h0]; rfl
          have HB := Lib.hid (show ppB s.data.toList = false by unfold ppB; rw [decide_eq_false HD.out, decide_eq_false (fun h => h (HN.out.2 h0))]; rfl)
          have HG := Lib.hid (show ppG s.data.toList = [] by unfold ppG; rw [HB.out]; rfl)
          clear h0
          go_wp2_with fail
          go_ret2
          rw [HB.out, HG.out]
          exact ⟨none, 0, rfl, Nat.le_refl _, Nat.zero_le _, World.ownsRow_nil _ _ _ _, hb⟩
        · have d2 : (s.toList == []) = false := by rw [HTL.out]; simp; intro e; have := HN.out.1 (by simpa using e); omega
          have hln : (ppL s.data.toList).length = s.size := by rw [ppL_len, hl]
          have hO2 : wr.ownsRow w.heap.size 3 1 (.slice A1 (ppL s.data.toList).length c1) (ppL s.data.toList).length ((ppL s.data.toList).map (Value.int .i64)) := by rw [hln, ← HP.out]; exact hO
          have hin := In.own hO2 (by rw [hln]; exact hs)
          have HO := Lib.hid hO2
          have HLN := Lib.hid hln
          have HI := Lib.hid (isPerm_ib A1 c1 (ppL s.data.toList) wr (permB (ppL s.data.toList)) hin rfl)
          rw [hln] at HI
          have hb2 := hb
          clear hO hO2 hin hln
          go_wp2_with fail
          (with_reducible refine HI.out.mono ?_)
          rintro e w1 ⟨rfl, hb1⟩
          have hbw := hb.trans (hb1.mono hsz)
          by_cases hp : permB (ppL s.data.toList) = true
          · have HB := Lib.hid (show ppB s.data.toList = true by unfold ppB; rw [hp, decide_eq_true (show s.data.toList ≠ [] from fun e => by have := HN.out.1 e; omega)]; simp)
            have HG := Lib.hid (show ppG s.data.toList = ppL s.data.toList by unfold ppG; rw [HB.out, if_pos rfl, if_neg HD.out])
            have hO3 := own_below HO.out hb1
            have HPP := Lib.hid hp
            rw [hp]
            clear hp h0
            go_wp2_with fail
            go_ret2
            rw [HB.out, HG.out]
            exact ⟨A1, c1, by rw [HLN.out]; rfl, (own_caps hO3).1, (own_caps hO3).2, hO3, hbw⟩
          · have hpf : permB (ppL s.data.toList) = false := by simpa using hp
            have HB := Lib.hid (show ppB s.data.toList = false by unfold ppB; rw [hpf, decide_eq_false HD.out, Bool.and_false]; rfl)
            have HG := Lib.hid (show ppG s.data.toList = [] by unfold ppG; rw [HB.out]; rfl)
            rw [hpf]
            clear hp hpf h0
            go_wp2_with fail
            go_ret2
            rw [HB.out, HG.out]
            exact ⟨none, 0, rfl, Nat.le_refl _, Nat.zero_le _, World.ownsRow_nil _ _ _ _, hbw⟩
set_option maxHeartbeats 1000000 in
theorem parsePerm_spec (s : ByteArray) (w : World) (hs : s.size ≤ 1048576) :
    Calls Tryd.prog 9 #[.string s] w (Ret2 (Value.int .i64) 3 w (ppG s.data.toList) (ppB s.data.toList)) := by
  obtain ⟨i0, hi, hz0, hz1, hz2⟩ := info_parts infoI
  have hl : s.data.toList.length = s.size := by show s.data.toList.length = s.data.size; simp
  have own0 : (w.alloc (.cells #[] 3)).ownsRow w.heap.size 3 1 (.slice (some ⟨w.heap.size, 0, none⟩) 0 0) 0 (([] : List Int).map (Value.int .i64)) := World.ownsRow_lit w #[] 0 (Nat.le_refl _) (by unfold maxLen; omega) rfl
  have hb0 := (Below.refl w.heap.size w).alloc (Nat.le_refl _) (.cells #[] 3)
  have hTL : s.toList = s.data.toList := ByteArray.toList_eq s
  have hnil : s.data.toList = [] ↔ s.size = 0 := by rw [← hl]; exact List.length_eq_zero_iff.symm
  by_cases hd : s.data.toList = [45]
  · have d1 : (s.toList == [45]) = true := by rw [hTL, hd]; rfl
    have HB := Lib.hid (show ppB s.data.toList = true by unfold ppB; rw [decide_eq_true hd]; rfl)
    have HG := Lib.hid (show ppG s.data.toList = [] by unfold ppG; rw [HB.out, if_pos rfl, if_pos hd])
    clear hd hTL hnil
    go_enter Tryd.func9, Tryd.ntmps9
    go_wp2_with fail
    go_ret2
    rw [HB.out, HG.out]
    exact ⟨_, 0, rfl, Nat.le_refl _, Nat.zero_le _, own0, hb0⟩
  · have d1 : (s.toList == [45]) = false := by rw [hTL]; simpa using hd
    have HD := Lib.hid hd
    have HN := Lib.hid hnil
    have HTL := Lib.hid hTL
    clear hd hTL hnil
    go_enter Tryd.func9, Tryd.ntmps9
    go_wp2_with fail
    go_loopw [4, 5] (fun v i wr => ∃ (k : Nat) (A1 : Option Addr) (c1 : Nat), k ≤ s.size ∧ i = .int .i64 k ∧ v = .slice A1 k c1 ∧ wr.ownsRow w.heap.size 3 1 (.slice A1 k c1) k ((ppTo s.data.toList k).map (Value.int .i64)) ∧ Below w.heap.size w wr) (fun _ i _ => s.size - (intOf i).toNat)
    case atStart => exact ⟨0, _, _, Nat.zero_le _, rfl, rfl, own0, hb0⟩
    case round =>
      clear own0 hb0
      obtain ⟨k, A1, c1, hk, rfl, rfl, hO, hb⟩ := hrel
      have hsz := hb.size
      rcases Nat.lt_or_ge k s.size with hlt | hge
      · obtain ⟨x, hx⟩ : ∃ x : UInt8, x = s[k] := ⟨_, rfl⟩
        have hx2 := UInt8.toNat_lt x
        have HS := Lib.hid (show ppTo s.data.toList (k + 1) = ppTo s.data.toList k ++ [(x.toNat : Int) - 48] by rw [ppTo_succ _ k (by rw [hl]; exact hlt), hx]; rfl)
        have e1 : IntKind.i64.wrap (x.toNat : Int) = (x.toNat : Int) := IntWalk.i64_in _ (by omega)
        have e2 : IntKind.i64.wrap ((x.toNat : Int) - 48) = (x.toNat : Int) - 48 := IntWalk.i64_in _ (by omega)
        have hx3 : s[k] = x := hx.symm
        clear hx
        go_wp2_with (at_builtin; refine wpList_append_own _ rfl _ _ 22 rfl (w.heap.size) 3 i0 (.int .i64 0) 1 8 Tryd.underlying22 hi hz0 hz1 hz2 rfl (by decide) _ _ _ rfl (World.ownsRow.alloc hO _) ⟨wr.heap.size, 0, none⟩ 1 1 [.int .i64 ((x.toNat : Int) - 48)] rfl rfl (cell_one_new _ _ _) (by intro u hu; simp at hu; subst hu; rfl) (by unfold maxLen; omega) (by omega) (by simp; omega) ?_; intro v1 w1 hown1 hgrow1 _)
        have hb1 := (hb.alloc hsz (Obj.cells #[Value.int .i64 ((x.toNat : Int) - 48)] 3)).grown hgrow1 (by simp; omega) (by intro g hg; exact (hO.lt g hg).1)
        obtain ⟨A2, c2, rfl, _, _⟩ := own_shape hown1
        have K := Lib.hid (And.intro hown1 hb1)
        clear hown1 hgrow1 hb1 hO hb
        go_wp2_with fail
        go_roundw
        case rel => exact ⟨k + 1, A2, c2, by omega, by go_num, rfl, by rw [HS.out]; simpa using K.out.1, K.out.2⟩
        case measure => simp [intOf]; omega
      · obtain rfl : k = s.size := by omega
        have HP := Lib.hid (show ppTo s.data.toList s.size = ppL s.data.toList by unfold ppTo; rw [← hl, List.take_length])
        rcases Nat.eq_zero_or_pos s.size with h0 | h0
        · have d2 : (s.toList == []) = true := by rw [HTL.out, HN.out.2 h0]; rfl
          have HB := Lib.hid (show ppB s.data.toList = false by unfold ppB; rw [decide_eq_false HD.out, decide_eq_false (fun h => h (HN.out.2 h0))]; rfl)
          have HG := Lib.hid (show ppG s.data.toList = [] by unfold ppG; rw [HB.out]; rfl)
          have hlit : (wr.alloc (.cells #[] 3)).ownsRow w.heap.size 3 1 (.slice (some ⟨wr.heap.size, 0, none⟩) 0 0) 0 (([] : List Int).map (Value.int .i64)) := World.ownsRow_lit wr #[] 0 hsz (by unfold maxLen; omega) rfl
          have hbl := hb.alloc hsz (.cells #[] 3)
          clear h0
          go_wp2_with fail
          go_ret2
          rw [HB.out, HG.out]
          exact ⟨_, 0, rfl, Nat.le_refl _, Nat.zero_le _, hlit, hbl⟩
        · have d2 : (s.toList == []) = false := by rw [HTL.out]; simp; intro e; have := HN.out.1 (by simpa using e); omega
          have hln : (ppL s.data.toList).length = s.size := by rw [ppL_len, hl]
          have hO2 : wr.ownsRow w.heap.size 3 1 (.slice A1 (ppL s.data.toList).length c1) (ppL s.data.toList).length ((ppL s.data.toList).map (Value.int .i64)) := by rw [hln, ← HP.out]; exact hO
          have hin := In.own hO2 (by rw [hln]; exact hs)
          have HO := Lib.hid hO2
          have HLN := Lib.hid hln
          have HI := Lib.hid (isPerm_sb A1 c1 (ppL s.data.toList) wr (permB (ppL s.data.toList)) hin rfl)
          rw [hln] at HI
          have hb2 := hb
          clear hO hO2 hin hln
          go_wp2_with fail
          (with_reducible refine HI.out.mono ?_)
          rintro e w1 ⟨rfl, hb1⟩
          have hbw := below_dr hb hb1
          by_cases hp : permB (ppL s.data.toList) = true
          · have HB := Lib.hid (show ppB s.data.toList = true by unfold ppB; rw [hp, decide_eq_true (show s.data.toList ≠ [] from fun e => by have := HN.out.1 e; omega)]; simp)
            have HG := Lib.hid (show ppG s.data.toList = ppL s.data.toList by unfold ppG; rw [HB.out, if_pos rfl, if_neg HD.out])
            have hO3 := hb1.own HO.out
            have HPP := Lib.hid hp
            rw [hp]
            clear hp h0
            go_wp2_with fail
            go_ret2
            rw [HB.out, HG.out]
            exact ⟨A1, c1, by rw [HLN.out]; rfl, (own_caps hO3).1, (own_caps hO3).2, hO3, hbw⟩
          · have hpf : permB (ppL s.data.toList) = false := by simpa using hp
            have HB := Lib.hid (show ppB s.data.toList = false by unfold ppB; rw [hpf, decide_eq_false HD.out, Bool.and_false]; rfl)
            have HG := Lib.hid (show ppG s.data.toList = [] by unfold ppG; rw [HB.out]; rfl)
            have hlit : (w1.alloc (.cells #[] 3)).ownsRow w.heap.size 3 1 (.slice (some ⟨w1.heap.size, 0, none⟩) 0 0) 0 (([] : List Int).map (Value.int .i64)) := World.ownsRow_lit w1 #[] 0 hbw.size (by unfold maxLen; omega) rfl
            have hbl := hbw.alloc hbw.size (.cells #[] 3)
            rw [hpf]
            clear hp hpf h0
            go_wp2_with fail
            go_ret2
            rw [HB.out, HG.out]
            exact ⟨_, 0, rfl, Nat.le_refl _, Nat.zero_le _, hlit, hbl⟩
end Go.Proofs.YtodokdddcikhdaaDoor
