/- ParseNear of the reference. -/
import Derived.Test.YtodokdddcikhdaaDoorPN1
import Derived.Test.YtodokdddcikhdaaDoorN3
namespace Go.Proofs.YtodokdddcikhdaaDoor
set_option maxRecDepth 100000
open Go Go.RowKit

theorem nearB_len8 {xs ys : List Int} (h : nearB xs ys = true) : ys.length ≤ 8 := by
  unfold nearB at h
  rw [Bool.and_eq_true] at h
  have h8 := (permB_true h.1).1
  have hj : ∀ j, j < ys.length → joinAt xs.length ys j = true := fun j hj => by
    have := h.2
    unfold joinTo at this
    exact List.all_eq_true.1 this j (List.mem_range.2 hj)
  have hge : ∀ j (hj' : j < ys.length), (j : Int) + 1 ≤ ys[j] := by
    intro j
    induction j with
    | zero =>
      intro h0
      have := hj 0 h0
      simp only [joinAt, List.getElem?_eq_getElem h0, Option.getD_some, decide_eq_true_eq] at this
      omega
    | succ j ih =>
      intro h0
      have h1 := ih (by omega)
      have := hj (j + 1) h0
      simp only [joinAt, List.getElem?_eq_getElem h0, Nat.add_sub_cancel, List.getElem?_eq_getElem (show j < ys.length by omega), Option.getD_some, decide_eq_true_eq] at this
      omega
  rcases Nat.eq_zero_or_pos ys.length with h0 | h0
  · omega
  · have h1 := hge (ys.length - 1) (by omega)
    have := hj (ys.length - 1) (by omega)
    simp only [joinAt, List.getElem?_eq_getElem (show ys.length - 1 < ys.length by omega), Option.getD_some, decide_eq_true_eq] at this
    omega

theorem pnG_le (l : List UInt8) : (pnG1 l).length + (pnG2 l).length ≤ 16 := by
  unfold pnG1 pnG2
  by_cases h : pnOk l = true
  · rw [if_pos h, if_pos h]
    have h1 := (ppG_len (dgs l)).2
    unfold pnOk at h
    rw [Bool.and_eq_true, decide_eq_true_eq] at h
    have hn : nearB (ppG (dgs l)) (jnTo l l.length) = true := by
      apply ntext_near
      show (pnT l).data.toList ≠ []
      rw [h.2]
      intro e
      have := ppB_ne h.1
      rw [e] at this
      exact this rfl
    have h2 := nearB_len8 hn
    omega
  · rw [if_neg h, if_neg h]; simp
theorem bs_get (l : List UInt8) (i : Nat) (h : i < l.length) : (bs l)[i]'(by rw [bs_size]; exact h) = l[i] := by
  show (l.toArray)[i]'(by simpa using h) = l[i]
  exact List.getElem_toArray _
set_option maxHeartbeats 4000000 in
theorem parseNear_spec (l : List UInt8) (w : World) (hs : l.length ≤ 1048576) :
    Calls Tryd.prog 4 #[.string (bs l)] w (RetNb w (pnG1 l) (pnG2 l) (pnOk l)) := by
  obtain ⟨i0, hi, hz0, hz1, hz2⟩ := info_parts infoI
  have hbz := bs_size l
  have hb0 : Below w.heap.size w ((w.alloc (Obj.cells #[Value.slice none 0 0, Value.slice none 0 0] 24)).alloc (Obj.cells #[Value.slice none 0 0, Value.slice none 0 0] 24)) := ((Below.refl _ _).alloc (Nat.le_refl _) _).alloc (by simp) _
  have or0 := obj_alloc (obj_new w (Obj.cells #[Value.slice none 0 0, Value.slice none 0 0] 24)) (Obj.cells #[Value.slice none 0 0, Value.slice none 0 0] 24)
  have og0 := obj_new (w.alloc (Obj.cells #[Value.slice none 0 0, Value.slice none 0 0] 24)) (Obj.cells #[Value.slice none 0 0, Value.slice none 0 0] 24)
  have hzw : ((w.alloc (Obj.cells #[Value.slice none 0 0, Value.slice none 0 0] 24)).alloc (Obj.cells #[Value.slice none 0 0, Value.slice none 0 0] 24)).heap.size = w.heap.size + 1 + 1 := by simp
  simp only [World.size_alloc] at og0
  go_enter Tryd.func4, Tryd.ntmps4
  go_wp2_with fail
  generalize ((w.alloc (Obj.cells #[Value.slice none 0 0, Value.slice none 0 0] 24)).alloc (Obj.cells #[Value.slice none 0 0, Value.slice none 0 0] 24)) = w0 at hb0 or0 og0 hzw ⊢
  obtain ⟨g, hg⟩ : ∃ g, g = w.heap.size + 1 := ⟨_, rfl⟩
  rw [← hg] at og0 hzw ⊢
  have HG := Lib.hid hg
  clear hg
  go_loopw [5, 6] (fun v i wr => ∃ (k : Nat) (D : Option Addr) (d n : Nat), k ≤ l.length ∧ i = .int .i64 k ∧ v = .string (bs (dgs (l.take k))) ∧ Hid (n = (jnTo l k).length) ∧ wr.heap[g]? = some (Obj.cells #[Value.slice none 0 0, Value.slice D n d] 24) ∧
    wr.heap[w.heap.size]? = some (Obj.cells #[Value.slice none 0 0, Value.slice none 0 0] 24) ∧ wr.ownsRow (g + 1) 3 1 (.slice D n d) n ((jnTo l k).map (Value.int .i64)) ∧ Below w.heap.size w wr ∧ g + 1 ≤ wr.heap.size) (fun _ i _ => l.length - (intOf i).toNat)
  case atStart => exact ⟨0, none, 0, 0, Nat.zero_le _, rfl, rfl, Lib.hid rfl, og0, or0, World.ownsRow_nil _ _ _ _, hb0, by omega⟩
  case round =>
    clear og0 or0 hb0 hzw
    obtain ⟨k, D, d, n, hk, rfl, rfl, HN, og, or_, hO, hb, hgs⟩ := hrel
    have hn : n ≤ k := by rw [HN.out]; exact jnTo_le l k
    rcases Nat.lt_or_ge k l.length with hlt | hge
    · obtain ⟨x, hx⟩ : ∃ x : UInt8, x = l[k] := ⟨_, rfl⟩
      have hx3 : (bs l)[k]'(by rw [bs_size]; exact hlt) = x := by rw [bs_get l k hlt]; exact hx.symm
      have hT : l.take (k + 1) = l.take k ++ [x] := by rw [List.take_succ_eq_append_getElem hlt, hx]
      have hxg : l[k]?.getD 0 = x := by rw [List.getElem?_eq_getElem hlt]; exact hx.symm
      have hlt' : (k : Int) < (l.length : Int) := by omega
      have hk0 : (0 : Int) ≤ (k : Int) := by omega
      have e3 : IntKind.i64.wrap ((k : Int) + 1) = (k : Int) + 1 := IntWalk.i64_in _ (by omega)
      clear hx
      by_cases h95 : x = 95
      · have dx : ((x.toNat : Int) == 95) = true := by rw [h95]; rfl
        have HD := Lib.hid (show dgs (l.take (k + 1)) = dgs (l.take k) by rw [hT, dgs_snoc, if_pos h95])
        have HJ := Lib.hid (show jnTo l (k + 1) = jnTo l k by rw [jnTo, hxg, if_pos h95])
        clear h95 hT hxg
        go_wp2_with fail
        go_roundw
        case rel => exact ⟨k + 1, D, d, n, by omega, by go_num, by rw [HD.out], Lib.hid (by rw [HJ.out]; exact HN.out), og, or_, by rw [HJ.out]; exact hO, hb, hgs⟩
        case measure => simp [intOf]; omega
      · have dx : ((x.toNat : Int) == 95) = false := by simp; intro h; exact h95 (UInt8.toNat_inj.1 (by show x.toNat = 95; omega))
        have HD := Lib.hid (show dgs (l.take (k + 1)) = dgs (l.take k) ++ [x] by rw [hT, dgs_snoc, if_neg h95])
        have HEX := Lib.hid (show bs (dgs (l.take k)) ++ (bs l).extract k (k + 1) = bs (dgs (l.take (k + 1))) by rw [HD.out, bs_extract l k hlt, bs_append, ← hx3, bs_get l k hlt])
        have hdl : (dgs (l.take k)).length ≤ k := Nat.le_trans (dgs_len _) (by simp; omega)
        have hbd := bs_size (dgs (l.take k))
        have f1 : wr.cell? ⟨g, 1, none⟩ = some (Value.slice D n d) := (obj_cell og).trans rfl
        obtain ⟨y, hy⟩ : ∃ y : UInt8, y = l[k - 1]?.getD 0 := ⟨_, rfl⟩
        by_cases hj : 0 < k ∧ y ≠ 95
        · have hkm : k - 1 < l.length := by omega
          have hy3 : (bs l)[k - 1]'(by rw [bs_size]; exact hkm) = y := by rw [bs_get l (k - 1) hkm, hy, List.getElem?_eq_getElem hkm]; rfl
          have HJ := Lib.hid (show jnTo l (k + 1) = jnTo l k ++ [((dgs (l.take k)).length : Int)] by rw [jnTo, hxg, if_neg h95, if_pos (by rw [← hy]; exact hj)])
          have dk : decide ((k : Int) > 0) = true := decide_eq_true (by omega)
          have dk' : decide (0 < (k : Int)) = true := decide_eq_true (by omega)
          have dy : ((y.toNat : Int) != 95) = true := by simp; intro h; exact hj.2 (UInt8.toNat_inj.1 (by show y.toNat = 95; omega))
          have e4 : IntKind.i64.wrap ((k : Int) - 1) = (k : Int) - 1 := IntWalk.i64_in _ (by omega)
          have e5 : ((k : Int) - 1).toNat = k - 1 := by omega
          have q1 : (0 : Int) ≤ (k : Int) - 1 := by omega
          have q2 : (k : Int) - 1 < (l.length : Int) := by omega
          obtain ⟨dn, hdn⟩ : ∃ dn, dn = (dgs (l.take k)).length := ⟨_, rfl⟩
          rw [← hdn] at hdl hbd
          have HDN := Lib.hid hdn
          have hlim : ∀ q, (Value.slice D n d).ownBlock = some q → g + 1 ≤ q ∧ q < wr.heap.size := fun q hq => hO.lt q hq
          have HXG := Lib.hid hxg
          clear hj hT hxg h95 hy hdn
          go_wp2_with ((at_builtin; refine wpList_append_own _ rfl _ _ 22 rfl (g + 1) 3 i0 (.int .i64 0) 1 8 Tryd.underlying22 hi hz0 hz1 hz2 rfl (by decide) _ _ _ rfl (World.ownsRow.alloc hO _) ⟨wr.heap.size, 0, none⟩ 1 1 [.int .i64 ((dn : Int))] rfl rfl (cell_one_new _ _ _) (by intro u hu; simp at hu; subst hu; rfl) (by unfold maxLen; omega) (by omega) (by simp; omega) ?_; intro v1 w1 hown1 hgrow1 _)
                       obtain ⟨D2, d2, rfl, _, _⟩ := own_shape hown1
                       have ogr := obj_alloc og (Obj.cells #[Value.int .i64 (dn : Int)] 3)
                       have orr := obj_alloc or_ (Obj.cells #[Value.int .i64 (dn : Int)] 3)
                       have og1 := (hgrow1.block _ (obj_lt ogr) (by intro he; have := hlim _ he.symm; omega)).trans ogr
                       have or1 := (hgrow1.block _ (obj_lt orr) (by intro he; have := hlim _ he.symm; have := HG.out; omega)).trans orr
                       have f3 : w1.cell? ⟨g, 1, none⟩ = some (Value.slice D n d) := (obj_cell og1).trans rfl
                       have f4 : w1.frozen? ⟨g, 1, none⟩ = false := obj_frozen og1)
          have hbr := hb.alloc hb.size (Obj.cells #[Value.int .i64 (dn : Int)] 3)
          have hb1 := hbr.grown hgrow1 (by have := hb.size; simp; omega) (fun q hq => by have := hlim q hq; have := HG.out; omega)
          have hsp : Span g (g + 1) w1 (w1.setCell ⟨g, 1, none⟩ (Value.slice D2 (n + 1) d2)) := Span.set (p := ⟨g, 1, none⟩) (Nat.le_refl _) (Nat.lt_succ_self _) _
          have hO1 : w1.ownsRow (g + 1) 3 1 (.slice D2 (n + 1) d2) (n + 1) ((jnTo l (k + 1)).map (Value.int .i64)) := by rw [HJ.out, ← HDN.out]; simpa using hown1
          have hO2 := own_span hO1 hsp (fun q hq => by have := (hO1.lt q hq).1; omega)
          have og2 := obj_set (i := 1) og1 (Value.slice D2 (n + 1) d2)
          have or2 := obj_other (g' := g) (i := 1) or1 (by have := HG.out; omega) (Value.slice D2 (n + 1) d2)
          have hb2 := hb1.setCell (p := ⟨g, 1, none⟩) (by show w.heap.size ≤ g; have := HG.out; omega) (Value.slice D2 (n + 1) d2)
          have hs2 : g + 1 ≤ (w1.setCell ⟨g, 1, none⟩ (Value.slice D2 (n + 1) d2)).heap.size := by have h1 := hgrow1.size; have h2 := hsp.size; simp at h1; omega
          have K := Lib.hid (And.intro og2 (And.intro or2 (And.intro hO2 (And.intro hb2 hs2))))
          clear og2 or2 hO2 hb2 hs2 hsp hO1 hb1 hbr hown1 hgrow1 og1 or1 ogr orr f3 f4 f1 hO og or_ hb hlim
          go_wp2_with fail
          go_roundw
          case rel => exact ⟨k + 1, D2, d2, n + 1, by omega, by go_num, by rw [HEX.out], Lib.hid (by rw [HJ.out, List.length_append, ← HN.out]; rfl), K.out.1, K.out.2.1, K.out.2.2.1, K.out.2.2.2.1, K.out.2.2.2.2⟩
          case measure => (simp [intOf]) <;> omega
        · have HJ := Lib.hid (show jnTo l (k + 1) = jnTo l k by rw [jnTo, hxg, if_neg h95, if_neg (by rw [← hy]; exact hj)])
          have HXG := Lib.hid hxg
          rcases Nat.eq_zero_or_pos k with hk00 | hk00
          · subst hk00
            have hz9 : (bs (dgs ([] : List UInt8))).size = 0 := rfl
            clear hj hT hxg h95 hy hk0
            go_wp2_with fail
            go_roundw
            case rel => exact ⟨1, D, d, n, by omega, by go_num, congrArg Value.string HEX.out, Lib.hid (by rw [HJ.out]; exact HN.out), og, or_, by rw [HJ.out]; exact hO, hb, hgs⟩
            case measure => (simp [intOf]) <;> omega
          · have hy95 : y = 95 := by
              by_cases h : y = 95
              · exact h
              · exact absurd ⟨hk00, h⟩ hj
            have hkm : k - 1 < l.length := by omega
            have hy3 : (bs l)[k - 1]'(by rw [bs_size]; exact hkm) = y := by rw [bs_get l (k - 1) hkm, hy, List.getElem?_eq_getElem hkm]; rfl
            have dk : decide ((k : Int) > 0) = true := decide_eq_true (by omega)
            have dk' : decide (0 < (k : Int)) = true := decide_eq_true (by omega)
            have dy3 : ((((bs l)[k - 1]'(by rw [bs_size]; exact hkm)).toNat : Int) != 95) = false := by rw [hy3, hy95]; rfl
            clear hy3
            have e4 : IntKind.i64.wrap ((k : Int) - 1) = (k : Int) - 1 := IntWalk.i64_in _ (by omega)
            have e5 : ((k : Int) - 1).toNat = k - 1 := by omega
            have q1 : (0 : Int) ≤ (k : Int) - 1 := by omega
            have q2 : (k : Int) - 1 < (l.length : Int) := by omega
            clear hj hT hxg h95 hy hy95
            go_wp2_with fail
            go_roundw
            case rel => exact ⟨k + 1, D, d, n, by omega, by go_num, by rw [HEX.out], Lib.hid (by rw [HJ.out]; exact HN.out), og, or_, by rw [HJ.out]; exact hO, hb, hgs⟩
            case measure => (simp [intOf]) <;> omega
    · obtain rfl : k = l.length := by omega
      have HTK := Lib.hid (show l.take l.length = l from List.take_length)
      have hge' : ¬ (l.length : Int) < (l.length : Int) := by omega
      rw [HTK.out]
      have hdl : (dgs l).length ≤ l.length := dgs_len l
      have HC := Lib.hid (show Calls Tryd.prog 9 #[.string (bs (dgs l))] wr (Ret2 (Value.int .i64) 3 wr (ppG (dgs l)) (ppB (dgs l))) from by
        have := parsePerm_spec (bs (dgs l)) wr (by rw [bs_size]; omega)
        have e : (bs (dgs l)).data.toList = dgs l := by unfold bs; simp
        rw [e] at this
        exact this)
      go_wp2_with fail
      (with_reducible refine HC.out.mono ?_)
      rintro e w4 ⟨P, pc, rfl, _, _, ownP, hb4⟩
      have og := obj_below og hb4 (obj_lt og)
      have or_ := obj_below or_ hb4 (obj_lt or_)
      have hbw := hb.trans (hb4.mono hb.size)
      have hsz4 := hb4.size
      have hO4 := own_below hO hb4
      have hlJ : ∀ q, (Value.slice D n d).ownBlock = some q → g + 1 ≤ q ∧ q < wr.heap.size := fun q hq => hO.lt q hq
      have hgP : g < wr.heap.size := by omega
      have g0 : w4.cell? ⟨g, 0, none⟩ = some (Value.slice none 0 0) := (obj_cell og).trans rfl
      have g2 : w4.frozen? ⟨g, 0, none⟩ = false := obj_frozen og
      have og2 := obj_set (i := 0) og (Value.slice P (ppG (dgs l)).length pc)
      have or2 := obj_other (g' := g) (i := 0) or_ (by have := HG.out; omega) (Value.slice P (ppG (dgs l)).length pc)
      have hsp : Span g (g + 1) w4 (w4.setCell ⟨g, 0, none⟩ (Value.slice P (ppG (dgs l)).length pc)) := Span.set (p := ⟨g, 0, none⟩) (Nat.le_refl _) (Nat.lt_succ_self _) _
      have hP5 := own_span ownP hsp (fun q hq => by have := (ownP.lt q hq).1; omega)
      have hO5 := own_span hO4 hsp (fun q hq => by have := (hO4.lt q hq).1; omega)
      have hb5 := hbw.setCell (p := ⟨g, 0, none⟩) (by show w.heap.size ≤ g; have := HG.out; omega) (Value.slice P (ppG (dgs l)).length pc)
      have hz5 := hsp.size
      have HP := Lib.hid (And.intro hP5 (And.intro hO5 (And.intro hb5 hz5)))
      clear hO hb hb4 og or_ hsp ownP hO4 HC hP5 hO5 hb5 hz5
      have k0 : (w4.setCell ⟨g, 0, none⟩ (Value.slice P (ppG (dgs l)).length pc)).cell? ⟨g, 0, none⟩ = some (Value.slice P (ppG (dgs l)).length pc) := (obj_cell og2).trans rfl
      have k1 : (w4.setCell ⟨g, 0, none⟩ (Value.slice P (ppG (dgs l)).length pc)).cell? ⟨g, 1, none⟩ = some (Value.slice D n d) := (obj_cell og2).trans rfl
      have c0 : (w4.setCell ⟨g, 0, none⟩ (Value.slice P (ppG (dgs l)).length pc)).cell? ⟨w.heap.size, 0, none⟩ = some (Value.slice none 0 0) := (obj_cell or2).trans rfl
      have c1 : (w4.setCell ⟨g, 0, none⟩ (Value.slice P (ppG (dgs l)).length pc)).cell? ⟨w.heap.size, 1, none⟩ = some (Value.slice none 0 0) := (obj_cell or2).trans rfl
      have c2 : (w4.setCell ⟨g, 0, none⟩ (Value.slice P (ppG (dgs l)).length pc)).frozen? ⟨w.heap.size, 0, none⟩ = false := obj_frozen or2
      have c3 : (w4.setCell ⟨g, 0, none⟩ (Value.slice P (ppG (dgs l)).length pc)).frozen? ⟨w.heap.size, 1, none⟩ = false := obj_frozen or2
      have hnJ := HN.out
      subst hnJ
      by_cases hp : ppB (dgs l) = true
      · have HPP := Lib.hid hp
        rw [hp]
        clear hp
        go_wp2_with fail
        generalize (w4.setCell ⟨g, 0, none⟩ (Value.slice P (ppG (dgs l)).length pc)) = w5 at og2 or2 k0 k1 c0 c1 c2 c3 HP ⊢
        have hgl := (ppG_len (dgs l)).2
        have hjl := jnTo_le l l.length
        have hin : InN w5 P pc (ppG (dgs l)) D d (jnTo l l.length) := ⟨In.own HP.out.1 (by omega), In.own HP.out.2.1 (by omega)⟩
        have HNT := Lib.hid (nearText_spec P D pc d (ppG (dgs l)) (jnTo l l.length) w5 hin)
        clear hin
        (with_reducible refine HNT.out.mono ?_)
        rintro e w6 ⟨rfl, hb6⟩
        have og6 := obj_below og2 hb6 (obj_lt og2)
        have or6 := obj_below or2 hb6 (obj_lt or2)
        have hbw6 := HP.out.2.2.1.trans (hb6.mono HP.out.2.2.1.size)
        have k0 : w6.cell? ⟨g, 0, none⟩ = some (Value.slice P (ppG (dgs l)).length pc) := (obj_cell og6).trans rfl
        have k1 : w6.cell? ⟨g, 1, none⟩ = some (Value.slice D (jnTo l l.length).length d) := (obj_cell og6).trans rfl
        have c0 : w6.cell? ⟨w.heap.size, 0, none⟩ = some (Value.slice none 0 0) := (obj_cell or6).trans rfl
        have c1 : w6.cell? ⟨w.heap.size, 1, none⟩ = some (Value.slice none 0 0) := (obj_cell or6).trans rfl
        have c2 : w6.frozen? ⟨w.heap.size, 0, none⟩ = false := obj_frozen or6
        have c3 : w6.frozen? ⟨w.heap.size, 1, none⟩ = false := obj_frozen or6
        by_cases hq : (pnT l).data.toList = l
        · have dq : ((ntext (ppG (dgs l)) (jnTo l l.length)).toList == (bs l).toList) = true := by
            rw [ByteArray.toList_eq, ByteArray.toList_eq, show (ntext (ppG (dgs l)) (jnTo l l.length)).data.toList = l from hq]
            simp [bs]
          have dq' : ((ntext (ppG (dgs l)) (jnTo l l.length)).toList != (bs l).toList) = false := by simp only [bne, dq]; rfl
          have H0 := Lib.hid (show pnOk l = true by unfold pnOk; rw [HPP.out, decide_eq_true hq]; rfl)
          have H1 := Lib.hid (show pnG1 l = ppG (dgs l) by unfold pnG1; rw [if_pos H0.out])
          have H2 := Lib.hid (show pnG2 l = jnTo l l.length by unfold pnG2; rw [if_pos H0.out])
          have o9 := obj_set (i := 1) (obj_set (i := 0) or6 (Value.slice P (ppG (dgs l)).length pc)) (Value.slice D (jnTo l l.length).length d)
          have hsp : Span w.heap.size (w.heap.size + 1) w6 ((w6.setCell ⟨w.heap.size, 0, none⟩ (Value.slice P (ppG (dgs l)).length pc)).setCell ⟨w.heap.size, 1, none⟩ (Value.slice D (jnTo l l.length).length d)) :=
            (Span.set (p := ⟨w.heap.size, 0, none⟩) (Nat.le_refl _) (Nat.lt_succ_self _) _).trans (Span.set (p := ⟨w.heap.size, 1, none⟩) (Nat.le_refl _) (Nat.lt_succ_self _) _)
          have hJ6 := own_below HP.out.2.1 hb6
          have hP6 := own_below HP.out.1 hb6
          have own : Own w6 (g + 1) w6.heap.size [⟨D, d, jnTo l l.length⟩, ⟨P, pc, ppG (dgs l)⟩] [] :=
            ((Own.one hJ6 (Nat.le_refl _)).lim wr.heap.size (fun r hr => by obtain rfl := List.mem_singleton.1 hr; exact fun q hq => (hlJ q hq).2)).app ((Own.one hP6 (Nat.le_refl _))) (by omega) (by have := hb6.size; have := HP.out.2.2.2; omega)
          have own := (own.perm (List.Perm.swap _ _ _)).span hsp (.inr (by have := HG.out; omega))
          have hb9 := (hbw6.setCell (p := ⟨w.heap.size, 0, none⟩) (by simp) (Value.slice P (ppG (dgs l)).length pc)).setCell (p := ⟨w.heap.size, 1, none⟩) (by simp) (Value.slice D (jnTo l l.length).length d)
          have l0 := (obj_cell (i := 0) o9).trans rfl
          have l1 := (obj_cell (i := 1) o9).trans rfl
          have hz9 := hsp.size
          clear hsp hq hJ6 hP6
          go_wp2_with fail
          refine bodyPost_ret (v := .tuple #[.agg #[.slice P (ppG (dgs l)).length pc, .slice D (jnTo l l.length).length d], .bool true]) (by simp [results, Tryd.results4, go_sem, l0, l1]) rfl ?_
          rw [H1.out, H2.out, H0.out]
          exact ⟨_, _, _, _, rfl, own.wider (by have := HG.out; omega) (by omega), hb9⟩
        · have dq : ((ntext (ppG (dgs l)) (jnTo l l.length)).toList == (bs l).toList) = false := by
            rw [ByteArray.toList_eq, ByteArray.toList_eq]
            have e2 : (bs l).data.toList = l := by simp [bs]
            rw [e2]
            exact beq_eq_false_iff_ne.2 hq
          have dq' : ((ntext (ppG (dgs l)) (jnTo l l.length)).toList != (bs l).toList) = true := by simp only [bne, dq]; rfl
          have H0 := Lib.hid (show pnOk l = false by unfold pnOk; rw [decide_eq_false hq, Bool.and_false])
          have H1 := Lib.hid (show pnG1 l = [] by unfold pnG1; rw [H0.out]; rfl)
          have H2 := Lib.hid (show pnG2 l = [] by unfold pnG2; rw [H0.out]; rfl)
          clear hq
          have o9 := obj_set (i := 1) (obj_set (i := 0) or6 (Value.slice none 0 0)) (Value.slice none 0 0)
          have hb9 := (hbw6.setCell (p := ⟨w.heap.size, 0, none⟩) (by simp) (Value.slice none 0 0)).setCell (p := ⟨w.heap.size, 1, none⟩) (by simp) (Value.slice none 0 0)
          have l0 := (obj_cell (i := 0) o9).trans rfl
          have l1 := (obj_cell (i := 1) o9).trans rfl
          go_wp2_with fail
          refine bodyPost_ret (v := .tuple #[.agg #[.slice none 0 0, .slice none 0 0], .bool false]) (by simp [results, Tryd.results4, go_sem, l0, l1]) rfl ?_
          rw [H1.out, H2.out, H0.out]
          exact ⟨_, _, _, _, rfl, own_nilrow _ _ _, hb9⟩
      · have hpf : ppB (dgs l) = false := by simpa using hp
        have H0 := Lib.hid (show pnOk l = false by unfold pnOk; rw [hpf, Bool.false_and])
        have H1 := Lib.hid (show pnG1 l = [] by unfold pnG1; rw [H0.out]; rfl)
        have H2 := Lib.hid (show pnG2 l = [] by unfold pnG2; rw [H0.out]; rfl)
        rw [hpf]
        have hb5 := HP.out.2.2.1
        clear hp hpf
        have o9 := obj_set (i := 1) (obj_set (i := 0) or2 (Value.slice none 0 0)) (Value.slice none 0 0)
        have hb9 := (hb5.setCell (p := ⟨w.heap.size, 0, none⟩) (by simp) (Value.slice none 0 0)).setCell (p := ⟨w.heap.size, 1, none⟩) (by simp) (Value.slice none 0 0)
        have l0 := (obj_cell (i := 0) o9).trans rfl
        have l1 := (obj_cell (i := 1) o9).trans rfl
        go_wp2_with fail
        refine bodyPost_ret (v := .tuple #[.agg #[.slice none 0 0, .slice none 0 0], .bool false]) (by simp [results, Tryd.results4, go_sem, l0, l1]) rfl ?_
        rw [H1.out, H2.out, H0.out]
        exact ⟨_, _, _, _, rfl, own_nilrow _ _ _, hb9⟩
end Go.Proofs.YtodokdddcikhdaaDoor
