/- ParseNear of the program. -/
import Derived.Test.YtodokdddcikhdaaDoorPN2
import Derived.Test.YtodokdddcikhdaaDoorShelf
import Derived.Lib.OthersKept
import Derived.Laws.RangeAny
import Derived.WalkSmall
namespace Go.Proofs.YtodokdddcikhdaaDoor
set_option maxRecDepth 100000
open Go Go.RowKit

theorem own_iterAt {w : World} {base e n : Nat} {v : Value} {xs : List Value} (h : w.ownsRow base e 1 v n xs) {K p : Nat} {s : ByteArray} (hK : w.heap[K]? = some (.stringIter s p)) (q : Nat) : (w.iterAt K s q).ownsRow base e 1 v n xs := by
  obtain ⟨h1, h2⟩ := h
  refine ⟨h1, ?_⟩
  rcases h2 with h2 | ⟨g, cap, cur, a, b, c, d⟩
  · exact .inl h2
  · refine .inr ⟨g, cap, cur, a, b, ?_, d⟩
    rw [Lib.iterAt_other _ _ _ _ _ (fun e => by subst e; rw [hK] at c; cases c)]
    exact c
theorem dgs_pos {l : List UInt8} {k : Nat} (hk : 0 < k) (hkl : k ≤ l.length) (hy : l[k - 1]?.getD 0 ≠ 95) : 0 < (dgs (l.take k)).length := by
  have hm : l[k - 1]'(by omega) ∈ l.take k := by
    rw [List.mem_take_iff_getElem]
    exact ⟨k - 1, by omega, rfl⟩
  rw [List.getElem?_eq_getElem (by omega)] at hy
  exact List.length_pos_of_mem (List.mem_filter.2 ⟨hm, by simpa using hy⟩)
set_option maxHeartbeats 4000000 in
theorem parseNear_impl (l : List UInt8) (m : Int) (w : World) (hs : l.length ≤ 1048576) (hm : w.cell? ⟨0, 0, none⟩ = some (.int .i64 m)) :
    Calls Tryd.prog 5 #[.string (bs l)] w (RetNb w (pnG1 l) (pnG2 l) (pnOk l)) := by
  obtain ⟨i0, hi, hz0, hz1, hz2⟩ := info_parts infoI
  have hbz := bs_size l
  have hbd := bs_size (dgs l)
  have hdl0 := dgs_len l
  have hb0 : Below w.heap.size w (w.alloc (Obj.cells #[Value.slice none 0 0, Value.slice none 0 0] 24)) := (Below.refl _ _).alloc (Nat.le_refl _) _
  have or0 := obj_new w (Obj.cells #[Value.slice none 0 0, Value.slice none 0 0] 24)
  have hzw : (w.alloc (Obj.cells #[Value.slice none 0 0, Value.slice none 0 0] 24)).heap.size = w.heap.size + 1 := by simp
  have hm0 : (w.alloc (Obj.cells #[Value.slice none 0 0, Value.slice none 0 0] 24)).cell? ⟨0, 0, none⟩ = some (.int .i64 m) := (World.cell?_alloc_old _ _ _ (Nat.ne_of_lt (World.block_lt_of_cell? _ _ hm))).trans hm
  have HCR := Lib.hid (show ∀ W : World, W.cell? ⟨0, 0, none⟩ = some (.int .i64 m) → Calls Tryd.prog 12 #[.string (bs l), .string { data := #[95] }, .string { data := #[] }] W (fun e w' => e = .returned (.string (bs (dgs l))) ∧ Below W.heap.size W w') from fun W hW => by
    refine (Tryd.strings_ReplaceAll (bs l) { data := #[95] } { data := #[] } m W (by omega) hW (by decide) (by rw [show ({ data := #[] } : ByteArray).size = 0 from rfl, Nat.mul_zero]; omega)).mono ?_
    rintro e w' ⟨rfl, hb⟩
    refine ⟨?_, hb⟩
    have e1 : (bs l).data.toList = l := by simp [bs]
    rw [e1, show ({ data := #[95] } : ByteArray).data.toList = [95] from rfl, show ({ data := #[] } : ByteArray).data.toList = [] from rfl, replaceAll_dgs]
    rfl)
  clear hm
  go_enter Tryd.func5, Tryd.ntmps5
  go_wp2_with fail
  generalize (w.alloc (Obj.cells #[Value.slice none 0 0, Value.slice none 0 0] 24)) = w0 at hb0 or0 hzw hm0 ⊢
  (with_reducible refine (HCR.out w0 hm0).mono ?_)
  rintro e w1 ⟨rfl, hb1⟩
  have or1 := obj_below or0 hb1 (obj_lt or0)
  have hbw1 := hb0.trans (hb1.mono hb0.size)
  have hs1 := hb1.size
  have HC := Lib.hid (show Calls Tryd.prog 11 #[.string (bs (dgs l))] w1 (Ret2 (Value.int .i64) 3 w1 (ppG (dgs l)) (ppB (dgs l))) from by
    have := parsePerm_impl (bs (dgs l)) w1 (by rw [bs_size]; omega)
    have e : (bs (dgs l)).data.toList = dgs l := by unfold bs; simp
    rw [e] at this
    exact this)
  clear hb0 or0 hm0 HCR hb1
  go_wp2_with fail
  (with_reducible refine HC.out.mono ?_)
  rintro e w4 ⟨P, pc, rfl, _, _, ownP, hb4⟩
  have or4 := obj_below or1 hb4 (obj_lt or1)
  have hbw4 := hbw1.trans (hb4.mono hbw1.size)
  have hs4 := hb4.size
  clear or1 hbw1 HC hb4
  by_cases hp : ppB (dgs l) = true
  · have HPP := Lib.hid hp
    have HAS := Lib.hid (pp_ascii hp)
    rw [hp]
    clear hp
    have og5 := obj_new w4 (Obj.cells #[Value.slice P (ppG (dgs l)).length pc, Value.slice none 0 0] 24)
    have or5 := obj_alloc or4 (Obj.cells #[Value.slice P (ppG (dgs l)).length pc, Value.slice none 0 0] 24)
    have oP5 := ownP.alloc (Obj.cells #[Value.slice P (ppG (dgs l)).length pc, Value.slice none 0 0] 24)
    have hb5 := hbw4.alloc hbw4.size (Obj.cells #[Value.slice P (ppG (dgs l)).length pc, Value.slice none 0 0] 24)
    have hz5 : (w4.alloc (Obj.cells #[Value.slice P (ppG (dgs l)).length pc, Value.slice none 0 0] 24)).heap.size = w4.heap.size + 1 := by simp
    have og6 : ((w4.alloc (Obj.cells #[Value.slice P (ppG (dgs l)).length pc, Value.slice none 0 0] 24)).iter (bs l) 0).heap[w4.heap.size]? = some (Obj.cells #[Value.slice P (ppG (dgs l)).length pc, Value.slice none 0 0] 24) := obj_alloc og5 (.stringIter (bs l) 0)
    have or6 : ((w4.alloc (Obj.cells #[Value.slice P (ppG (dgs l)).length pc, Value.slice none 0 0] 24)).iter (bs l) 0).heap[w.heap.size]? = some (Obj.cells #[Value.slice none 0 0, Value.slice none 0 0] 24) := obj_alloc or5 (.stringIter (bs l) 0)
    have oP6 : ((w4.alloc (Obj.cells #[Value.slice P (ppG (dgs l)).length pc, Value.slice none 0 0] 24)).iter (bs l) 0).ownsRow w1.heap.size 3 1 (.slice P (ppG (dgs l)).length pc) (ppG (dgs l)).length ((ppG (dgs l)).map (Value.int .i64)) := oP5.alloc (.stringIter (bs l) 0)
    have hb6 : Below w.heap.size w ((w4.alloc (Obj.cells #[Value.slice P (ppG (dgs l)).length pc, Value.slice none 0 0] 24)).iter (bs l) 0) := hb5.alloc hb5.size (.stringIter (bs l) 0)
    have oK6 : ((w4.alloc (Obj.cells #[Value.slice P (ppG (dgs l)).length pc, Value.slice none 0 0] 24)).iter (bs l) 0).heap[w4.heap.size + 1]? = some (.stringIter (bs l) 0) := by
      have := World.iter_heap (w4.alloc (Obj.cells #[Value.slice P (ppG (dgs l)).length pc, Value.slice none 0 0] 24)) (bs l) 0
      rwa [hz5] at this
    have hz6 : ((w4.alloc (Obj.cells #[Value.slice P (ppG (dgs l)).length pc, Value.slice none 0 0] 24)).iter (bs l) 0).heap.size = w4.heap.size + 1 + 1 := by show (World.alloc _ _).heap.size = _; simp
    have lP : ∀ q, (Value.slice P (ppG (dgs l)).length pc).ownBlock = some q → w1.heap.size ≤ q ∧ q < w4.heap.size := fun q hq => ownP.lt q hq
    clear og5 or5 oP5 hb5 hz5 ownP or4
    go_wp2_with fail
    generalize ((w4.alloc (Obj.cells #[Value.slice P (ppG (dgs l)).length pc, Value.slice none 0 0] 24)).iter (bs l) 0) = w6 at og6 or6 oP6 hb6 oK6 hz6 ⊢
    obtain ⟨g, hg⟩ : ∃ g, g = w4.heap.size := ⟨_, rfl⟩
    rw [← hg] at og6 oK6 hz6 hs4 lP ⊢
    have hwg : w.heap.size < g := by omega
    have hw1g : w1.heap.size ≤ g := hs4
    clear hg
    go_loopw [7] (fun v wr => ∃ (k : Nat) (D : Option Addr) (d n : Nat), k ≤ l.length ∧ v = .int .i64 ((dgs (l.take k)).length : Int) ∧ Hid (n = (jnTo l k).length) ∧ wr.heap[g + 1]? = some (.stringIter (bs l) k) ∧ wr.heap[g]? = some (Obj.cells #[Value.slice P (ppG (dgs l)).length pc, Value.slice D n d] 24) ∧
      wr.heap[w.heap.size]? = some (Obj.cells #[Value.slice none 0 0, Value.slice none 0 0] 24) ∧ wr.ownsRow w1.heap.size 3 1 (.slice P (ppG (dgs l)).length pc) (ppG (dgs l)).length ((ppG (dgs l)).map (Value.int .i64)) ∧ wr.ownsRow (g + 2) 3 1 (.slice D n d) n ((jnTo l k).map (Value.int .i64)) ∧ Below w.heap.size w wr ∧ g + 2 ≤ wr.heap.size) (fun _ wr => l.length - wr.iterPos (g + 1))
    case atStart => exact ⟨0, none, 0, 0, Nat.zero_le _, rfl, Lib.hid rfl, oK6, og6, or6, oP6, World.ownsRow_nil _ _ _ _, hb6, by omega⟩
    case round =>
      clear oK6 og6 or6 oP6 hb6 hz6
      obtain ⟨k, D, d, n, hk, rfl, HN, oK, og, or_, oP, hO, hb, hgs⟩ := hrel
      have hn : n ≤ k := by rw [HN.out]; exact jnTo_le l k
      have hmu : wr.iterPos (g + 1) = k := by simp [World.iterPos, oK]
      have hgs' : g < wr.heap.size := by omega
      rcases Nat.lt_or_ge k l.length with hlt | hge
      · have hltb : k < (bs l).size := by rw [bs_size]; exact hlt
        obtain ⟨x, hx⟩ : ∃ x : UInt8, x = l[k] := ⟨_, rfl⟩
        have hx3 : (bs l)[k]'hltb = x := by rw [bs_get l k hlt]; exact hx.symm
        have h128 : ((bs l)[k]'hltb).toNat < 128 := by rw [hx3, hx]; exact HAS.out _ (List.getElem_mem hlt)
        have hnext : ∀ ty, (Instr.next (.pointer (some ⟨g + 1, 0, none⟩)) true ty).run Tryd.prog wr = _ := fun ty => Lib.run_next_ascii_at wr (g + 1) (bs l) k ty oK hltb h128
        have oK1 := Lib.iterAt_heap wr (g + 1) (bs l) k (k + 1) oK
        have og1 : (wr.iterAt (g + 1) (bs l) (k + 1)).heap[g]? = some (Obj.cells #[Value.slice P (ppG (dgs l)).length pc, Value.slice D n d] 24) := (Lib.iterAt_other wr (g + 1) g (bs l) (k + 1) (by omega)).trans og
        have or1 : (wr.iterAt (g + 1) (bs l) (k + 1)).heap[w.heap.size]? = some (Obj.cells #[Value.slice none 0 0, Value.slice none 0 0] 24) := (Lib.iterAt_other wr (g + 1) w.heap.size (bs l) (k + 1) (by omega)).trans or_
        have oP1 := own_iterAt oP oK (k + 1)
        have hO1 := own_iterAt hO oK (k + 1)
        have hb1 : Below w.heap.size w (wr.iterAt (g + 1) (bs l) (k + 1)) := Lib.below_iterAt hb (by omega) (bs l) (k + 1)
        have hz1' : (wr.iterAt (g + 1) (bs l) (k + 1)).heap.size = wr.heap.size := Lib.iterAt_size wr (g + 1) (bs l) (k + 1)
        have HMU := Lib.hid hmu
        generalize wr.iterAt (g + 1) (bs l) (k + 1) = W1 at hnext oK1 og1 or1 oP1 hO1 hb1 hz1'
        have hgs1 : g + 2 ≤ W1.heap.size := by omega
        have hT : l.take (k + 1) = l.take k ++ [x] := (List.take_succ_eq_append_getElem hlt).trans (congrArg (fun z => l.take k ++ [z]) hx.symm)
        have hxg : l[k]?.getD 0 = x := by rw [List.getElem?_eq_getElem hlt]; exact hx.symm
        have hlt' : (k : Int) < (l.length : Int) := by omega
        have hk0 : (0 : Int) ≤ (k : Int) := by omega
        obtain ⟨dn, hdn⟩ : ∃ dn, dn = (dgs (l.take k)).length := ⟨_, rfl⟩
        have hdl : dn ≤ k := by rw [hdn]; exact Nat.le_trans (dgs_len _) (by simp; omega)
        rw [← hdn]
        have e1 : IntKind.i64.wrap ((dn : Int) + 1) = (dn : Int) + 1 := IntWalk.i64_in _ (by omega)
        have e2 : IntKind.i64.wrap ((dn : Int) + 1 - 1) = (dn : Int) := by rw [IntWalk.i64_in _ (by omega)]; omega
        clear hx oK og or_ oP hO hb hz1'
        by_cases h95 : x = 95
        · have dx : ((x.toNat : Int) == 95) = true := by rw [h95]; rfl
          have HD := Lib.hid (show (dgs (l.take (k + 1))).length = dn by rw [hT, dgs_snoc, if_pos h95, hdn])
          have HJ := Lib.hid (show jnTo l (k + 1) = jnTo l k by rw [jnTo, hxg, if_pos h95])
          have K := Lib.hid (And.intro oK1 (And.intro og1 (And.intro or1 (And.intro oP1 (And.intro hO1 (And.intro hb1 hgs1))))))
          clear h95 hT hxg hmu hdn oK1 og1 or1 oP1 hO1 hb1
          go_wp2_with fail
          go_roundw
          case rel => exact ⟨k + 1, D, d, n, by omega, by rw [HD.out], Lib.hid (by rw [HJ.out]; exact HN.out), K.out.1, K.out.2.1, K.out.2.2.1, K.out.2.2.2.1, by rw [HJ.out]; exact K.out.2.2.2.2.1, K.out.2.2.2.2.2.1, K.out.2.2.2.2.2.2⟩
          case measure => rw [iterPos_of K.out.1, HMU.out]; omega
        · have dx : ((x.toNat : Int) == 95) = false := by simp; intro h; exact h95 (UInt8.toNat_inj.1 (by show x.toNat = 95; omega))
          have HD := Lib.hid (show (dgs (l.take (k + 1))).length = dn + 1 by rw [hT, dgs_snoc, if_neg h95, List.length_append, ← hdn]; rfl)
          obtain ⟨y, hy⟩ : ∃ y : UInt8, y = l[k - 1]?.getD 0 := ⟨_, rfl⟩
          have hkm : k - 1 < l.length := by omega
          have hy3 : (bs l)[k - 1]'(by rw [bs_size]; exact hkm) = y := by rw [bs_get l (k - 1) hkm, hy, List.getElem?_eq_getElem hkm]; rfl
          by_cases hj : 0 < k ∧ y ≠ 95
          · have hdp : 0 < dn := by rw [hdn]; exact dgs_pos hj.1 (by omega) (by rw [← hy]; exact hj.2)
            have HJ := Lib.hid (show jnTo l (k + 1) = jnTo l k ++ [(dn : Int)] by rw [jnTo, hxg, if_neg h95, if_pos (by rw [← hy]; exact hj), ← hdn])
            have dk : decide ((dn : Int) + 1 > 1) = true := decide_eq_true (by omega)
            have dk' : decide (1 < (dn : Int) + 1) = true := decide_eq_true (by omega)
            have dy : ((y.toNat : Int) != 95) = true := by simp; intro h; exact hj.2 (UInt8.toNat_inj.1 (by show y.toNat = 95; omega))
            have e4 : IntKind.i64.wrap ((k : Int) - 1) = (k : Int) - 1 := IntWalk.i64_in _ (by omega)
            have e5 : ((k : Int) - 1).toNat = k - 1 := by omega
            have q1 : (0 : Int) ≤ (k : Int) - 1 := by omega
            have q2 : (k : Int) - 1 < (l.length : Int) := by omega
            have f1 : W1.cell? ⟨g, 1, none⟩ = some (Value.slice D n d) := (obj_cell og1).trans rfl
            have hlim : ∀ q, (Value.slice D n d).ownBlock = some q → g + 2 ≤ q ∧ q < W1.heap.size := fun q hq => hO1.lt q hq
            have hsW := hb1.size
            clear hj hT hxg h95 hy hdn hmu
            go_wp2_with ((at_builtin; refine wpList_append_own _ rfl _ _ 22 rfl (g + 2) 3 i0 (.int .i64 0) 1 8 Tryd.underlying22 hi hz0 hz1 hz2 rfl (by decide) _ _ _ rfl (World.ownsRow.alloc hO1 _) ⟨W1.heap.size, 0, none⟩ 1 1 [.int .i64 ((dn : Int))] rfl rfl (cell_one_new _ _ _) (by intro u hu; simp at hu; subst hu; rfl) (by unfold maxLen; omega) (by omega) (by simp; omega) ?_; intro v1 w1 hown1 hgrow1 _)
                         obtain ⟨D2, d2, rfl, _, _⟩ := own_shape hown1
                         have ogr := obj_alloc og1 (Obj.cells #[Value.int .i64 (dn : Int)] 3)
                         have orr := obj_alloc or1 (Obj.cells #[Value.int .i64 (dn : Int)] 3)
                         have oKr := obj_alloc oK1 (Obj.cells #[Value.int .i64 (dn : Int)] 3)
                         have oPr := oP1.alloc (Obj.cells #[Value.int .i64 (dn : Int)] 3)
                         have og2 := (hgrow1.block _ (obj_lt ogr) (by intro he; have := hlim _ he.symm; omega)).trans ogr
                         have or2 := (hgrow1.block _ (obj_lt orr) (by intro he; have := hlim _ he.symm; omega)).trans orr
                         have oK2 := (hgrow1.block _ (obj_lt oKr) (by intro he; have := hlim _ he.symm; omega)).trans oKr
                         have f3 : w1.cell? ⟨g, 1, none⟩ = some (Value.slice D n d) := (obj_cell og2).trans rfl
                         have f4 : w1.frozen? ⟨g, 1, none⟩ = false := obj_frozen og2)
            have hbr := hb1.alloc hb1.size (Obj.cells #[Value.int .i64 (dn : Int)] 3)
            have oP2 := oPr.kept hgrow1 (own_off (lim := g) (fun q hq => (lP q hq).2) (fun q hq => by have := hlim q hq; omega))
            have hb2 := hbr.grown hgrow1 (by simp; omega) (fun q hq => by have := hlim q hq; omega)
            have hsp : Span g (g + 1) w1 (w1.setCell ⟨g, 1, none⟩ (Value.slice D2 (n + 1) d2)) := Span.set (p := ⟨g, 1, none⟩) (Nat.le_refl _) (Nat.lt_succ_self _) _
            have hO2 : w1.ownsRow (g + 2) 3 1 (.slice D2 (n + 1) d2) (n + 1) ((jnTo l (k + 1)).map (Value.int .i64)) := by rw [HJ.out]; simpa using hown1
            have hO3 := own_span hO2 hsp (fun q hq => by have := (hO2.lt q hq).1; omega)
            have oP3 := own_span oP2 hsp (fun q hq => .inl (lP q hq).2)
            have og3 := obj_set (i := 1) og2 (Value.slice D2 (n + 1) d2)
            have or3 := obj_other (g' := g) (i := 1) or2 (by omega) (Value.slice D2 (n + 1) d2)
            have oK3 := obj_other (g' := g) (i := 1) oK2 (by omega) (Value.slice D2 (n + 1) d2)
            have hb3 := hb2.setCell (p := ⟨g, 1, none⟩) (by show w.heap.size ≤ g; omega) (Value.slice D2 (n + 1) d2)
            have hs3 : g + 2 ≤ (w1.setCell ⟨g, 1, none⟩ (Value.slice D2 (n + 1) d2)).heap.size := by have h1 := hgrow1.size; have h2 := hsp.size; simp at h1; omega
            have K := Lib.hid (And.intro oK3 (And.intro og3 (And.intro or3 (And.intro oP3 (And.intro hO3 (And.intro hb3 hs3))))))
            clear oK3 og3 or3 oP3 hO3 hb3 hs3 hsp hO2 hb2 hbr hown1 hgrow1 og2 or2 oK2 ogr orr oKr oPr oP2 f3 f4 f1 hO1 og1 or1 oK1 oP1 hb1 hlim
            go_wp2_with fail
            go_roundw
            case rel => exact ⟨k + 1, D2, d2, n + 1, by omega, by rw [HD.out]; go_num, Lib.hid (by rw [HJ.out, List.length_append, ← HN.out]; rfl), K.out.1, K.out.2.1, K.out.2.2.1, K.out.2.2.2.1, K.out.2.2.2.2.1, K.out.2.2.2.2.2.1, K.out.2.2.2.2.2.2⟩
            case measure => rw [iterPos_of K.out.1, HMU.out]; omega
          · have HJ := Lib.hid (show jnTo l (k + 1) = jnTo l k by rw [jnTo, hxg, if_neg h95, if_neg (by rw [← hy]; exact hj)])
            have K := Lib.hid (And.intro oK1 (And.intro og1 (And.intro or1 (And.intro oP1 (And.intro hO1 (And.intro hb1 hgs1))))))
            rcases Nat.eq_zero_or_pos dn with hd0 | hd0
            · have dk : decide ((dn : Int) + 1 > 1) = false := decide_eq_false (by omega)
              have dk' : decide (1 < (dn : Int) + 1) = false := decide_eq_false (by omega)
              clear hj hT hxg h95 hy hdn hmu oK1 og1 or1 oP1 hO1 hb1 hy3 hd0
              go_wp2_with fail
              go_roundw
              case rel => exact ⟨k + 1, D, d, n, by omega, by rw [HD.out]; go_num, Lib.hid (by rw [HJ.out]; exact HN.out), K.out.1, K.out.2.1, K.out.2.2.1, K.out.2.2.2.1, by rw [HJ.out]; exact K.out.2.2.2.2.1, K.out.2.2.2.2.2.1, K.out.2.2.2.2.2.2⟩
              case measure => rw [iterPos_of K.out.1, HMU.out]; omega
            · have hkp : 0 < k := by omega
              have hy95 : y = 95 := by
                by_cases h : y = 95
                · exact h
                · exact absurd ⟨hkp, h⟩ hj
              have dk : decide ((dn : Int) + 1 > 1) = true := decide_eq_true (by omega)
              have dk' : decide (1 < (dn : Int) + 1) = true := decide_eq_true (by omega)
              have dy : ((y.toNat : Int) != 95) = false := by rw [hy95]; rfl
              have e4 : IntKind.i64.wrap ((k : Int) - 1) = (k : Int) - 1 := IntWalk.i64_in _ (by omega)
              have e5 : ((k : Int) - 1).toNat = k - 1 := by omega
              have q1 : (0 : Int) ≤ (k : Int) - 1 := by omega
              have q2 : (k : Int) - 1 < (l.length : Int) := by omega
              clear hj hT hxg h95 hy hdn hmu oK1 og1 or1 oP1 hO1 hb1 hy95
              go_wp2_with fail
              go_roundw
              case rel => exact ⟨k + 1, D, d, n, by omega, by rw [HD.out]; go_num, Lib.hid (by rw [HJ.out]; exact HN.out), K.out.1, K.out.2.1, K.out.2.2.1, K.out.2.2.2.1, by rw [HJ.out]; exact K.out.2.2.2.2.1, K.out.2.2.2.2.2.1, K.out.2.2.2.2.2.2⟩
              case measure => rw [iterPos_of K.out.1, HMU.out]; omega
      · obtain rfl : k = l.length := by omega
        have hnext : ∀ ty, (Instr.next (.pointer (some ⟨g + 1, 0, none⟩)) true ty).run Tryd.prog wr = _ := fun ty => Lib.run_next_end_at wr (g + 1) (bs l) l.length ty oK (by rw [bs_size]; omega)
        have k0 : wr.cell? ⟨g, 0, none⟩ = some (Value.slice P (ppG (dgs l)).length pc) := (obj_cell og).trans rfl
        have k1 : wr.cell? ⟨g, 1, none⟩ = some (Value.slice D n d) := (obj_cell og).trans rfl
        have hnJ := HN.out
        subst hnJ
        have hgl := (ppG_len (dgs l)).2
        have hjl := jnTo_le l l.length
        have hin : InN wr P pc (ppG (dgs l)) D d (jnTo l l.length) := ⟨In.own oP (by omega), In.own hO (by omega)⟩
        have HNT := Lib.hid (nearText_impl P D pc d (ppG (dgs l)) (jnTo l l.length) wr hin)
        have HO := Lib.hid (And.intro oP (And.intro hO hb))
        clear hin oP hO hb oK
        go_wp2_with fail
        (with_reducible refine HNT.out.mono ?_)
        rintro e w8 ⟨rfl, hb8⟩
        have og8 := obj_below og hb8 (obj_lt og)
        have or8 := obj_below or_ hb8 (obj_lt or_)
        have hbw8 := HO.out.2.2.trans (hb8.mono HO.out.2.2.size)
        have k0 : w8.cell? ⟨g, 0, none⟩ = some (Value.slice P (ppG (dgs l)).length pc) := (obj_cell og8).trans rfl
        have k1 : w8.cell? ⟨g, 1, none⟩ = some (Value.slice D (jnTo l l.length).length d) := (obj_cell og8).trans rfl
        have c0 : w8.cell? ⟨w.heap.size, 0, none⟩ = some (Value.slice none 0 0) := (obj_cell or8).trans rfl
        have c1 : w8.cell? ⟨w.heap.size, 1, none⟩ = some (Value.slice none 0 0) := (obj_cell or8).trans rfl
        have c2 : w8.frozen? ⟨w.heap.size, 0, none⟩ = false := obj_frozen or8
        have c3 : w8.frozen? ⟨w.heap.size, 1, none⟩ = false := obj_frozen or8
        by_cases hq : (pnT l).data.toList = l
        · have dq : ((ntext (ppG (dgs l)) (jnTo l l.length)).toList == (bs l).toList) = true := by
            rw [ByteArray.toList_eq, ByteArray.toList_eq, show (ntext (ppG (dgs l)) (jnTo l l.length)).data.toList = l from hq]
            simp [bs]
          have dq' : ((ntext (ppG (dgs l)) (jnTo l l.length)).toList != (bs l).toList) = false := by simp only [bne, dq]; rfl
          have H0 := Lib.hid (show pnOk l = true by unfold pnOk; rw [HPP.out, decide_eq_true hq]; rfl)
          have H1 := Lib.hid (show pnG1 l = ppG (dgs l) by unfold pnG1; rw [if_pos H0.out])
          have H2 := Lib.hid (show pnG2 l = jnTo l l.length by unfold pnG2; rw [if_pos H0.out])
          have o9 := obj_set (i := 1) (obj_set (i := 0) or8 (Value.slice P (ppG (dgs l)).length pc)) (Value.slice D (jnTo l l.length).length d)
          have hsp : Span w.heap.size (w.heap.size + 1) w8 ((w8.setCell ⟨w.heap.size, 0, none⟩ (Value.slice P (ppG (dgs l)).length pc)).setCell ⟨w.heap.size, 1, none⟩ (Value.slice D (jnTo l l.length).length d)) :=
            (Span.set (p := ⟨w.heap.size, 0, none⟩) (Nat.le_refl _) (Nat.lt_succ_self _) _).trans (Span.set (p := ⟨w.heap.size, 1, none⟩) (Nat.le_refl _) (Nat.lt_succ_self _) _)
          have hJ8 := own_below HO.out.2.1 hb8
          have hP8 := own_below HO.out.1 hb8
          have own : Own w8 w1.heap.size w8.heap.size [⟨P, pc, ppG (dgs l)⟩, ⟨D, d, jnTo l l.length⟩] [] :=
            ((Own.one hP8 (Nat.le_refl _)).lim (g + 2) (fun r hr => by obtain rfl := List.mem_singleton.1 hr; exact fun q hq => by have := (lP q hq).2; omega)).app ((Own.one hJ8 (Nat.le_refl _))) (by omega) (by have := hb8.size; omega)
          have own := own.span hsp (.inr (by omega))
          have hb9 := (hbw8.setCell (p := ⟨w.heap.size, 0, none⟩) (by simp) (Value.slice P (ppG (dgs l)).length pc)).setCell (p := ⟨w.heap.size, 1, none⟩) (by simp) (Value.slice D (jnTo l l.length).length d)
          have l0 := (obj_cell (i := 0) o9).trans rfl
          have l1 := (obj_cell (i := 1) o9).trans rfl
          have hz9 := hsp.size
          clear hsp hq hJ8 hP8
          go_wp2_with fail
          refine bodyPost_ret (v := .tuple #[.agg #[.slice P (ppG (dgs l)).length pc, .slice D (jnTo l l.length).length d], .bool true]) (by simp [results, Tryd.results5, go_sem, l0, l1]) rfl ?_
          rw [H1.out, H2.out, H0.out]
          exact ⟨_, _, _, _, rfl, own.wider (by omega) (by omega), hb9⟩
        · have dq : ((ntext (ppG (dgs l)) (jnTo l l.length)).toList == (bs l).toList) = false := by
            rw [ByteArray.toList_eq, ByteArray.toList_eq]
            have e2 : (bs l).data.toList = l := by simp [bs]
            rw [e2]
            exact beq_eq_false_iff_ne.2 hq
          have dq' : ((ntext (ppG (dgs l)) (jnTo l l.length)).toList != (bs l).toList) = true := by simp only [bne, dq]; rfl
          have H0 := Lib.hid (show pnOk l = false by unfold pnOk; rw [decide_eq_false hq, Bool.and_false])
          have H1 := Lib.hid (show pnG1 l = [] by unfold pnG1; rw [H0.out]; rfl)
          have H2 := Lib.hid (show pnG2 l = [] by unfold pnG2; rw [H0.out]; rfl)
          clear hq
          have o9 := obj_set (i := 1) (obj_set (i := 0) or8 (Value.slice none 0 0)) (Value.slice none 0 0)
          have hb9 := (hbw8.setCell (p := ⟨w.heap.size, 0, none⟩) (by simp) (Value.slice none 0 0)).setCell (p := ⟨w.heap.size, 1, none⟩) (by simp) (Value.slice none 0 0)
          have l0 := (obj_cell (i := 0) o9).trans rfl
          have l1 := (obj_cell (i := 1) o9).trans rfl
          go_wp2_with fail
          refine bodyPost_ret (v := .tuple #[.agg #[.slice none 0 0, .slice none 0 0], .bool false]) (by simp [results, Tryd.results5, go_sem, l0, l1]) rfl ?_
          rw [H1.out, H2.out, H0.out]
          exact ⟨_, _, _, _, rfl, own_nilrow _ _ _, hb9⟩
  · have hpf : ppB (dgs l) = false := by simpa using hp
    have H0 := Lib.hid (show pnOk l = false by unfold pnOk; rw [hpf, Bool.false_and])
    have H1 := Lib.hid (show pnG1 l = [] by unfold pnG1; rw [H0.out]; rfl)
    have H2 := Lib.hid (show pnG2 l = [] by unfold pnG2; rw [H0.out]; rfl)
    have c0 : w4.cell? ⟨w.heap.size, 0, none⟩ = some (Value.slice none 0 0) := (obj_cell or4).trans rfl
    have c1 : w4.cell? ⟨w.heap.size, 1, none⟩ = some (Value.slice none 0 0) := (obj_cell or4).trans rfl
    have c2 : w4.frozen? ⟨w.heap.size, 0, none⟩ = false := obj_frozen or4
    have c3 : w4.frozen? ⟨w.heap.size, 1, none⟩ = false := obj_frozen or4
    rw [hpf]
    clear hp hpf
    have o9 := obj_set (i := 1) (obj_set (i := 0) or4 (Value.slice none 0 0)) (Value.slice none 0 0)
    have hb9 := (hbw4.setCell (p := ⟨w.heap.size, 0, none⟩) (by simp) (Value.slice none 0 0)).setCell (p := ⟨w.heap.size, 1, none⟩) (by simp) (Value.slice none 0 0)
    have l0 := (obj_cell (i := 0) o9).trans rfl
    have l1 := (obj_cell (i := 1) o9).trans rfl
    go_wp2_with fail
    refine bodyPost_ret (v := .tuple #[.agg #[.slice none 0 0, .slice none 0 0], .bool false]) (by simp [results, Tryd.results5, go_sem, l0, l1]) rfl ?_
    rw [H1.out, H2.out, H0.out]
    exact ⟨_, _, _, _, rfl, own_nilrow _ _ _, hb9⟩
end Go.Proofs.YtodokdddcikhdaaDoor
