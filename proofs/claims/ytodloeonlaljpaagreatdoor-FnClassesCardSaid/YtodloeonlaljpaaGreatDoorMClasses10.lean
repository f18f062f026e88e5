/- Several texts in one, each with its own head: U3, U4, U5, OK2, D13. No program of ours. -/
import Derived.Maps.OwnOps
import Derived.Maps.OwnSet
import Derived.Maps.Views
import Derived.Deep.RegionLaw
import Derived.Test.YtodloeonlaljpaaGreatDoorMClasses9
/- basisUpTo of the program: a map of texts. -/
namespace Go.Proofs.YtodloeonlaljpaaGreatDoor
set_option maxRecDepth 100000
open Go Go.RowKit

theorem patL_perm {L : List Int} (hn : L.Nodup) (h8 : L.length ≤ 8) : permB (patL L) = true := by
  have hlen := patL_length L
  unfold permB
  rw [decide_eq_true_eq, hlen]
  refine ⟨h8, fun v hv => ?_, ?_⟩
  · unfold patL at hv
    obtain ⟨x, hx, rfl⟩ := List.mem_map.1 hv
    have h1 : belowN L x < L.length := by
      unfold belowN
      exact List.length_filter_lt_length_iff_exists.2 ⟨x, hx, by simp⟩
    omega
  · unfold patL List.Nodup
    rw [List.pairwise_map]
    refine List.Pairwise.imp_of_mem ?_ hn
    intro a b ha hb hab he
    rcases Int.lt_trichotomy a b with h | h | h
    · have := belowN_lt ha h; omega
    · exact hab h
    · have := belowN_lt hb h; omega
theorem cutAt_sub {xs : List Int} {i : Nat} (h : i < xs.length) : (cutAt xs i).Sublist xs := by
  have h1 := cutAt_split h
  have h2 : (xs.take i ++ xs.drop (i + 1)).Sublist (xs.take i ++ (xs[i] :: xs.drop (i + 1))) := (List.Sublist.refl _).append (List.sublist_cons_self _ _)
  rw [← h1] at h2
  exact h2
theorem lowL_perm {p : List Int} (h : permB p = true) : ∀ q ∈ lowL p, permB q = true := fun q hq => by
  have hp := permB_true h
  have h1 := (ordL_mem _ q).1 hq
  unfold lowM at h1
  obtain ⟨i, hi, rfl⟩ := List.mem_map.1 h1
  have hi := List.mem_range.1 hi
  refine patL_perm (hp.2.2.sublist (cutAt_sub hi)) ?_
  rw [cutAt_length p i hi]
  omega
theorem dig_inj {x y : Int} (hx : 1 ≤ x ∧ x ≤ 8) (hy : 1 ≤ y ∧ y ≤ 8) (h : dig x = dig y) : x = y := by
  unfold dig at h
  have h1 := congrArg UInt8.toNat h
  rw [UInt8.toNat_ofNat', UInt8.toNat_ofNat'] at h1
  omega
theorem dig_min {x : Int} (hx : 1 ≤ x ∧ x ≤ 8) : dig x ≠ 45 := by
  intro h
  unfold dig at h
  have h1 := congrArg UInt8.toNat h
  rw [UInt8.toNat_ofNat'] at h1
  have h2 : (45 : UInt8).toNat = 45 := rfl
  omega
theorem map_dig_inj : ∀ {p q : List Int}, (∀ x ∈ p, 1 ≤ x ∧ x ≤ 8) → (∀ x ∈ q, 1 ≤ x ∧ x ≤ 8) → p.map dig = q.map dig → p = q
  | [], [], _, _, _ => rfl
  | [], _ :: _, _, _, h => by simp at h
  | _ :: _, [], _, _, h => by simp at h
  | a :: s, b :: t, hp, hq, h => by
    simp only [List.map_cons, List.cons.injEq] at h
    rw [dig_inj (hp a (by simp)) (hq b (by simp)) h.1, map_dig_inj (fun x hx => hp x (by simp [hx])) (fun x hx => hq x (by simp [hx])) h.2]
theorem perm_18 {p : List Int} (h : permB p = true) : ∀ x ∈ p, 1 ≤ x ∧ x ≤ 8 := fun x hx => by
  have h1 := permB_true h
  have h2 := h1.2.1 x hx
  omega
theorem textD_inj {p q : List Int} (hp : permB p = true) (hq : permB q = true) (h : textD p = textD q) : p = q := by
  unfold textD at h
  by_cases h1 : p = []
  · by_cases h2 : q = []
    · rw [h1, h2]
    · rw [if_pos h1, if_neg h2] at h
      match q, h2, hq with
      | b :: t, _, hq =>
        simp only [List.map_cons, List.cons.injEq] at h
        exact absurd h.1.symm (dig_min (perm_18 hq b (by simp)))
  · by_cases h2 : q = []
    · rw [if_neg h1, if_pos h2] at h
      match p, h1, hp with
      | b :: t, _, hp =>
        simp only [List.map_cons, List.cons.injEq] at h
        exact absurd h.1 (dig_min (perm_18 hp b (by simp)))
    · rw [if_neg h1, if_neg h2] at h
      exact map_dig_inj (perm_18 hp) (perm_18 hq) h
theorem ptext_key {p : List Int} (h : permB p = true) : (ptext p).data.toList = textD p := by
  unfold ptext
  rw [if_pos h]
  rfl
theorem ptext_size {p : List Int} (h : permB p = true) : (ptext p).size ≤ maxLen := by
  unfold ptext
  rw [if_pos h, bs_size]
  have h8 := (permB_true h).1
  unfold textD maxLen
  split
  · simp
  · simp; omega
/-- The keys: the empty permutation's, and those of a list. -/
def keysL (L : List (List Int)) : List (List UInt8) := textD [] :: L.map textD
theorem keysL_mem {L : List (List Int)} {p : List Int} (hL : ∀ q ∈ L, permB q = true) (hp : permB p = true) : textD p ∈ keysL L ↔ p.length = 0 ∨ p ∈ L := by
  unfold keysL
  rw [List.mem_cons, List.mem_map]
  constructor
  · rintro (h | ⟨q, hq, h⟩)
    · left
      rw [textD_inj hp (by decide) h]; rfl
    · right
      rwa [← textD_inj (hL q hq) hp h]
  · rintro (h | h)
    · left
      rw [List.eq_nil_of_length_eq_zero h]
    · exact .inr ⟨p, h, rfl⟩
def mapD (acc : List (List UInt8)) : DataW Unit := acc.foldl (fun m x => m.put (.string x) (.lit (.bool true))) (.map [])
theorem keyLit (k : List UInt8) : WideAt.IsKeyLit (.string k) := trivial
theorem atKey_fold (k : List UInt8) (u z : DataW Unit) : ∀ (acc : List (List UInt8)) (m : DataW Unit), Maps.IsMap m → (acc.foldl (fun m x => m.put (.string x) u) m).atKey (.string k) z = if k ∈ acc then u else m.atKey (.string k) z
  | [], m, _ => by simp
  | x :: t, m, hm => by
    rw [List.foldl_cons, atKey_fold k u z t _ (hm.put (.string x) u)]
    by_cases ht : k ∈ t
    · rw [if_pos ht, if_pos (List.mem_cons_of_mem _ ht)]
    · rw [if_neg ht]
      by_cases hx : k = x
      · subst hx
        rw [if_pos (by simp), Maps.atKey_put_same hm (keyLit k)]
      · rw [if_neg (by simp [hx, ht]), Maps.atKey_put_other (fun e => hx (by injection e))]
theorem mapD_at (acc : List (List UInt8)) (k : List UInt8) : (mapD acc).atKey (.string k) (.lit (.bool false)) = .lit (.bool (decide (k ∈ acc))) := by
  unfold mapD
  rw [atKey_fold k _ _ acc _ Maps.isMap_empty]
  by_cases h : k ∈ acc
  · rw [if_pos h, decide_eq_true h]
  · rw [if_neg h, decide_eq_false h]; rfl
theorem mapD_snoc (acc : List (List UInt8)) (k : List UInt8) : mapD (acc ++ [k]) = (mapD acc).put (.string k) (.lit (.bool true)) := by unfold mapD; rw [List.foldl_append]; rfl
theorem lawS : Maps.Keyed Tryz.prog 9 := Maps.string_keyed Tryz.underlying9
theorem zeroB (w : World) : (zeroValue 4).run Tryz.prog w = .ok (.bool false) w := by kernel_rfl
/-- The map of texts. -/
def TMap (w : World) (b n : Nat) (acc : List (List UInt8)) : Prop := w.ownsMap (H := Unit) Tryz.prog 9 (plainElem Tryz.prog 4) b n (mapD acc)
theorem TMap.look {w : World} {b n : Nat} {acc : List (List UInt8)} (h : TMap w b n acc) {p : List Int} (hp : permB p = true) :
    (Instr.lookup 83 (.map (some b)) (.string (ptext p)) false).run Tryz.prog w = .ok (.bool (decide (textD p ∈ acc))) w := by
  have hkey : keyOf Tryz.prog 9 (.string (ptext p)) = some (.string (textD p)) := by rw [WideMaps.keyOf_string_mk Tryz.underlying9 (ptext_size hp), ptext_key hp]
  obtain ⟨v, ps, hrun, hv⟩ := World.ownsMap.lookup h lawS Tryz.underlying83 (zeroB w) (plainElem_bool Tryz.underlying4 false) hkey
  rw [mapD_at acc _] at hv
  rw [hrun]
  unfold plainElem at hv
  rw [Tryz.underlying4] at hv
  cases v <;> simp at hv
  rw [hv.1]
theorem TMap.store {w : World} {b n : Nat} {acc : List (List UInt8)} (h : TMap w b n acc) (hn : n < maxLen) {p : List Int} (hp : permB p = true) :
    ∃ w', (Instr.mapUpdate 83 (.map (some b)) (.string (ptext p)) (.bool true)).run Tryz.prog w = .ok () w' ∧ TMap w' b (n + 1) (acc ++ [textD p]) ∧ w.grownBy w' (some b) := by
  have hkey : keyOf Tryz.prog 9 (.string (ptext p)) = some (.string (textD p)) := by rw [WideMaps.keyOf_string_mk Tryz.underlying9 (ptext_size hp), ptext_key hp]
  obtain ⟨w', hrun, h1, h2⟩ := World.ownsMap.update h lawS Tryz.underlying83 hn hkey (plainElem_bool Tryz.underlying4 true)
  exact ⟨w', hrun, by unfold TMap; rw [mapD_snoc]; exact h1, h2⟩
theorem TMap.below {w w' : World} {b n : Nat} {acc : List (List UInt8)} (h : TMap w b n acc) (hb : Below w.heap.size w w') : TMap w' b n acc := World.ownsMap.kept h (below_grown hb (row := none)) (by simp)
theorem TMap.dr {w w' : World} {b n : Nat} {acc : List (List UInt8)} (h : TMap w b n acc) (hd : Dr w w') : TMap w' b n acc := by obtain ⟨q, rfl⟩ := hd; exact h
theorem TMap.grown {w w' : World} {b n : Nat} {acc : List (List UInt8)} {row : Option Nat} (h : TMap w b n acc) (hg : w.grownBy w' row) (hne : some b ≠ row) : TMap w' b n acc := World.ownsMap.kept h hg hne
theorem ptext_nil : ptext [] = { data := #[45] } := by decide
theorem call_bu (args : Array Value) (w : World) : (callFunc 88 args).run Tryz.prog w = .ok (.enter 88 args) w := by kernel_rfl
set_option maxHeartbeats 1000000 in
/-- The closure: is a text not in the map? -/
theorem bu_cl (A : Option Addr) (c g b n : Nat) (acc : List (List UInt8)) (p : List Int) (w : World) (h : In w A c p) (hp : permB p = true) (hm : TMap w b n acc) (hg : w.cell? ⟨g, 0, none⟩ = some (.map (some b))) (hgl : g < w.heap.size) :
    Calls Tryz.prog 88 #[.slice A p.length c, .pointer (some ⟨g, 0, none⟩)] w (Rb w (.bool (!decide (textD p ∈ acc)))) := by
  have HM := Lib.hid hm
  have HC := Lib.hid (fun (W : World) (hd : W = w.drew) => by subst hd; exact permText_impl A c p w.drew (h.dr (Dr.refl _).drew))
  have hgd : w.drew.cell? ⟨g, 0, none⟩ = some (.map (some b)) := hg
  have hsz : w.heap.size = w.drew.heap.size := rfl
  clear hm
  go_enter Tryz.func88, Tryz.ntmps88
  go_wp2_with fail
  go_region_held3 (fun v => v.cell? ⟨g, 0, none⟩ = some (.map (some b))) (first | exact hgd | exact hgq | exact hg | fail)
    ((first
      | (go_at_call 64
         refine Calls.mono (HC.out _ (by first | rfl | fail)) ?_
         rintro e wq ⟨rfl, hbq⟩
         have hq : TMap wq b n acc := (HM.out.dr (Dr.refl _).drew).below hbq
         have hrun := hq.look hp
         have hgq : wq.cell? ⟨g, 0, none⟩ = some (.map (some b)) := (hbq.cell (p := ⟨g, 0, none⟩) (by show g < w.drew.heap.size; rw [← hsz]; exact hgl)).trans hgd)
      | fail))
  all_goals
    go_wp2_with fail
    go_ret
    exact ⟨rfl, below_dr (Below.refl _ _) (Dr.refl _).drew |>.trans hbq⟩
set_option maxHeartbeats 8000000 in
theorem basisUpToI (A : Option Addr) (c : Nat) (qs : List Row) (N : Nat) (w : World) (h : InL w A c qs) (hP : ∀ r ∈ qs, permB r.xs = true) (hN : N ≤ 6) :
    Calls Tryz.prog 58 #[.slice A qs.length c, .int .i64 N] w (RetL w (bupL (qs.map Row.xs) N)) := by
  obtain ⟨j0, hj, hy0, hy1, hy2⟩ := info_parts infoL
  have hmf : ∀ (fn : Fn) (first cap : Array Value) (w : World), (Instr.makeFunc fn first cap).run Tryz.prog w = .ok (.func fn first cap) w := fun _ _ _ _ => rfl
  have hmm := @run_makeMap Tryz.prog
  have hqlen := h.len
  have HP := Lib.hid hP
  have hT0 : TMap (w.alloc (.map #[] 0)) w.heap.size 0 [] := World.ownsMap_made _ _ _ _
  obtain ⟨wm, hrun, hT, hgm⟩ := hT0.store (by unfold maxLen; omega) (p := []) (by decide)
  rw [ptext_nil] at hrun
  have hbm : Below w.heap.size w wm := ((Below.refl w.heap.size w).alloc (Nat.le_refl _) (.map #[] 0)).grown hgm (by simp) (fun g hg => by injection hg with hg; omega)
  have hszm : w.heap.size + 1 ≤ wm.heap.size := by have := hgm.size; simp at this; exact this
  clear hP hT0 hgm
  go_enter Tryz.func58, Tryz.ntmps58
  go_wp2_with fail
  -- LOOPS
  obtain ⟨G, hG⟩ : ∃ G, G = wm.heap.size := ⟨_, rfl⟩
  have og0 := obj_new wm (Obj.cells #[Value.map (some w.heap.size)] 83)
  have hb1 := hbm.alloc (by omega) (Obj.cells #[Value.map (some w.heap.size)] 83)
  have hT1 := hT.below ((Below.refl wm.heap.size wm).alloc (Nat.le_refl _) (Obj.cells #[Value.map (some w.heap.size)] 83))
  have hz1 : (wm.alloc (Obj.cells #[Value.map (some w.heap.size)] 83)).heap.size = wm.heap.size + 1 := by simp
  generalize (wm.alloc (Obj.cells #[Value.map (some w.heap.size)] 83)) = w1 at og0 hb1 hT1 hz1 ⊢
  rw [← hG] at og0 hz1 hszm ⊢
  clear hrun hT hbm hG
  go_loopw [16] (fun i wr => ∃ k : Nat, k ≤ qs.length ∧ i = .int .i64 k ∧ TMap wr w.heap.size (k + 1) (keysL ((qs.map Row.xs).take k)) ∧ wr.heap[G]? = some (Obj.cells #[Value.map (some w.heap.size)] 83) ∧ Below w.heap.size w wr ∧ G + 1 ≤ wr.heap.size) (fun i _ => qs.length - (intOf i).toNat)
  case atStart => exact ⟨0, Nat.zero_le _, rfl, hT1, og0, hb1, by omega⟩
  case round =>
    clear hT1 og0 hb1 hz1
    obtain ⟨k, hk, rfl, hT, og, hb, hGs⟩ := hrel
    have fg : wr.cell? ⟨G, 0, none⟩ = some (.map (some w.heap.size)) := (obj_cell og).trans rfl
    rcases Nat.lt_or_ge k qs.length with hlt | hge
    · obtain ⟨bq, off, rfl, _, hc⟩ := (h.next hb).read.at (by omega)
      have cc := hc k hlt
      obtain ⟨r, hr⟩ : ∃ r : Row, r = qs[k] := ⟨_, rfl⟩
      rw [← hr] at cc
      have hmem : r ∈ qs := by rw [hr]; exact List.getElem_mem hlt
      have hin := (h.next hb).row hmem
      have HPR := Lib.hid (HP.out r hmem)
      have HA := Lib.hid (show keysL ((qs.map Row.xs).take (k + 1)) = keysL ((qs.map Row.xs).take k) ++ [textD r.xs] by
        unfold keysL
        rw [List.take_succ_eq_append_getElem (by simpa using hlt), List.map_append]
        simp [hr])
      have HC := Lib.hid (fun (W : World) (hd : W = wr.drew) => by subst hd; exact permText_impl r.A r.c r.xs wr.drew (hin.dr (Dr.refl _).drew))
      have HT := Lib.hid hT
      have hgd : wr.drew.cell? ⟨G, 0, none⟩ = some (.map (some w.heap.size)) := fg
      have HSZ := Lib.hid (show wr.heap.size = wr.drew.heap.size from rfl)
      have HB := Lib.hid hb
      have HOG := Lib.hid og
      have hgw : w.heap.size < G := by omega
      have hkm : k + 1 < maxLen := by unfold maxLen; omega
      clear hc hr hmem hin hT hb og
      go_wp2_with fail
      go_region_held3 (fun v => v.cell? ⟨G, 0, none⟩ = some (.map (some w.heap.size))) (first | exact hgd | exact hgq | exact hgu | fail)
        ((first
          | (go_at_call 64
             refine Calls.mono (HC.out _ (by first | rfl | fail)) ?_
             rintro e wq ⟨rfl, hbq⟩
             have hq := (HT.out.dr (Dr.refl _).drew).below hbq
             have oq := obj_below (show wr.drew.heap[G]? = _ from HOG.out) hbq (by show G < wr.heap.size; omega)
             have hgq : wq.cell? ⟨G, 0, none⟩ = some (.map (some w.heap.size)) := (obj_cell oq).trans rfl
             obtain ⟨wu, hrun, hTu, hgu0⟩ := hq.store hkm HPR.out
             have ou := (hgu0.block G (obj_lt oq) (by intro he; injection he with he; omega)).trans oq
             have hgu : wu.cell? ⟨G, 0, none⟩ = some (.map (some w.heap.size)) := (obj_cell ou).trans rfl
             have hbu : Below w.heap.size w wu := ((below_dr HB.out (Dr.refl _).drew).trans (hbq.mono HB.out.size)).grown hgu0 (by have h1 := hbq.size; have h2 := HB.out.size; have h3 := HSZ.out; omega) (fun q hq => by injection hq with hq; omega)
             have hsu : G + 1 ≤ wu.heap.size := by have h1 := hbq.size; have h2 := hgu0.size; have h3 := HSZ.out; omega
             have K := Lib.hid (And.intro hTu (And.intro ou (And.intro hbu hsu))))
          | fail))
      all_goals
        go_wp2_with fail
        go_roundw
        case rel => exact ⟨k + 1, by omega, by go_num, by rw [HA.out]; exact K.out.1, K.out.2.1, K.out.2.2.1, K.out.2.2.2⟩
        case measure => simp [intOf]; omega
    · obtain rfl : k = qs.length := by omega
      rw [List.take_of_length_le (by simp)] at hT
      obtain ⟨nT, hnT⟩ : ∃ nT, nT = qs.length + 1 := ⟨_, rfl⟩
      rw [← hnT] at hT
      have hlit := Own.lit (lo := w.heap.size) wr hb.size
      have hbl := (Below.refl wr.heap.size wr).alloc (Nat.le_refl _) (.cells #[] 27)
      have hT2 := hT.below hbl
      have og2 := obj_alloc og (.cells #[] 27)
      have hb2 := hb.alloc hb.size (.cells #[] 27)
      have hG2 : G + 1 ≤ (wr.alloc (.cells #[] 27)).heap.size := by simp; omega
      have HACC := Lib.hid (fun (p : List Int) (hp : permB p = true) => keysL_mem (L := qs.map Row.xs) (p := p) (fun q hq => by obtain ⟨r, hr, rfl⟩ := List.mem_map.1 hq; exact HP.out r hr) hp)
      obtain ⟨acc, hacc⟩ : ∃ acc, acc = keysL (qs.map Row.xs) := ⟨_, rfl⟩
      rw [← hacc] at hT2 HACC
      clear hT hbl og hb hnT fg hacc
      go_wp2_with fail
      go_loopw [8, 9] (fun v i wr => ∃ (m : Nat) (A2 : Option Addr) (c2 : Nat) (kept : List Row), m ≤ N ∧ i = .int .i64 ((m : Int) + 1) ∧ v = .slice A2 kept.length c2 ∧ Hid (kept.map Row.xs = bupL (qs.map Row.xs) m) ∧ Own wr w.heap.size wr.heap.size kept [⟨A2, c2, kept.map Row.v⟩] ∧
        TMap wr w.heap.size nT acc ∧ wr.heap[G]? = some (Obj.cells #[Value.map (some w.heap.size)] 83) ∧ Below w.heap.size w wr ∧ G + 1 ≤ wr.heap.size) (fun _ i _ => N + 1 - (intOf i).toNat)
      case atStart => exact ⟨0, _, _, [], Nat.zero_le _, rfl, rfl, Lib.hid rfl, hlit, hT2, og2, hb2, hG2⟩
      case round =>
        clear hlit hT2 og2 hb2 hG2
        obtain ⟨m, A2, c2, kept, hm, rfl, rfl, HX, hO, hT, og, hb, hGs⟩ := hrel
        have hkl : kept.length ≤ 50069 := by
          have h1 := congrArg List.length HX.out
          have h2 := bupL_le (qs.map Row.xs) m (by omega)
          rw [List.length_map] at h1
          omega
        have hsz := hb.size
        rcases Nat.lt_or_ge m N with hlt | hge
        · have d1 : decide ((m : Int) + 1 ≤ (N : Int)) = true := decide_eq_true (by omega)
          obtain ⟨wo, rfl⟩ : ∃ wo : World, wo = wr := ⟨_, rfl⟩
          have HPC := Lib.hid (show Calls Tryz.prog 71 #[.int .i64 ((m : Int) + 1)] wo (RetL wo (permsL (m + 1))) from perms_impl (m + 1) wo (by omega))
          go_wp2_with fail
          (with_reducible refine HPC.out.mono ?_)
          rintro e w2 ⟨A1, c1, rs, rfl, hX, hOr, hb2⟩
          have hbw2 := hb.trans (hb2.mono hsz)
          have hs2 := hb2.size
          have hlen : rs.length ≤ 46656 := by have h1 := permsL_le7 (m := m) (by omega); rw [← hX, List.length_map] at h1; exact h1
          have HXR := Lib.hid hX
          have HPL := Lib.hid (show ∀ r ∈ kept, ∀ g, r.v.ownBlock = some g → g < wo.heap.size from hO.lt)
          have hO2 := (hO.below hb2).wider (Nat.le_refl _) hs2
          have hS2 : Sift w2 w.heap.size wo.heap.size w2.heap.size rs ⟨A1, c1, rs.map Row.v⟩ A2 c2 (kept.map Row.v) :=
            ⟨hOr, own_below hO.out hb2, fun g hg => .inl (hO.out.lt g hg).2⟩
          have hT2 := hT.below hb2
          have og2 := obj_below og hb2 (by omega)
          clear hX hOr hb2 hO hb hT og
          go_wp2_with fail
          go_loopw [8, 33] (fun v i wr => ∃ (j : Nat) (A2 : Option Addr) (c2 : Nat) (vs : List Value), j ≤ rs.length ∧ i = .int .i64 j ∧ v = .slice A2 vs.length c2 ∧ Hid (vs = (kept ++ keptR (bupK (qs.map Row.xs)) rs j).map Row.v) ∧
            Own wr w.heap.size wr.heap.size kept [⟨A2, c2, vs⟩] ∧ Sift wr w.heap.size wo.heap.size w2.heap.size rs ⟨A1, c1, rs.map Row.v⟩ A2 c2 vs ∧
            TMap wr w.heap.size nT acc ∧ wr.heap[G]? = some (Obj.cells #[Value.map (some w.heap.size)] 83) ∧ Below w.heap.size w wr ∧ w2.heap.size ≤ wr.heap.size) (fun _ i _ => rs.length - (intOf i).toNat)
          case atStart => exact ⟨0, A2, c2, kept.map Row.v, Nat.zero_le _, rfl, by rw [List.length_map], Lib.hid (by simp [keptR]), hO2, hS2, hT2, og2, hbw2, Nat.le_refl _⟩
          case round =>
            clear hO2 hS2 hbw2 hT2 og2
            obtain ⟨j, A2, c2, vs, hjl, rfl, rfl, HV, hO, hS, hT, og, hb, hsw⟩ := hrel
            have hvl : vs.length ≤ 100000 := by
              have h1 := keptR_le (bupK (qs.map Row.xs)) rs j
              have h2 := congrArg List.length HV.out
              rw [List.length_map, List.length_append] at h2
              omega
            rcases Nat.lt_or_ge j rs.length with hltj | hgej
            · obtain ⟨p, hp⟩ : ∃ p : Row, p = rs[j] := ⟨_, rfl⟩
              have hpm : p ∈ rs := by rw [hp]; exact List.getElem_mem hltj
              have hRd := hS.rows.read
              obtain ⟨bk, off, rfl, hbk, hc⟩ := hRd.at (by omega)
              have cc : wr.cell? ⟨bk, off + j, none⟩ = some (Value.slice p.A p.xs.length p.c) := by rw [hp]; exact hc j hltj
              have hpx := permsL_perm (n := m + 1) (by omega) (map_memX HXR.out hpm)
              have hl8 : p.xs.length ≤ 8 := by have := hpx.2; omega
              have HPB := Lib.hid hpx.1
              have hin := row_in hRd hpm (by omega) hsw
              have HK := Lib.hid (show keptR (bupK (qs.map Row.xs)) rs (j + 1) = if bupK (qs.map Row.xs) p.xs = true then keptR (bupK (qs.map Row.xs)) rs j ++ [p] else keptR (bupK (qs.map Row.xs)) rs j by rw [keptR_succ _ rs j hltj, ← hp])
              have fg : wr.cell? ⟨G, 0, none⟩ = some (.map (some w.heap.size)) := (obj_cell og).trans rfl
              have hgd : wr.drew.cell? ⟨G, 0, none⟩ = some (.map (some w.heap.size)) := fg
              have HC := Lib.hid (fun (W : World) (hd : W = wr.drew) => by subst hd; exact permText_impl p.A p.c p.xs wr.drew (hin.dr (Dr.refl _).drew))
              have HIN := Lib.hid (hin.dr (Dr.refl _).drew)
              have HT := Lib.hid hT
              have HB := Lib.hid hb
              have HOG := Lib.hid og
              have HSZ := Lib.hid (show wr.heap.size = wr.drew.heap.size from rfl)
              have HO := Lib.hid hO
              have HS := Lib.hid hS
              have hmm2 : decide (textD p.xs ∈ acc) = decide (p.xs ∈ qs.map Row.xs) := decide_eq_decide.2 ((HACC.out p.xs hpx.1).trans ⟨fun h => h.resolve_left (by have := hpx.2; omega), .inr⟩)
              have HLP := Lib.hid (lowL_perm hpx.1)
              have HLA := Lib.hid (show ∀ lw : List Row, lw.map Row.xs = lowL p.xs → (lw.any fun r : Row => !decide (textD r.xs ∈ acc)) = !((lowL p.xs).all (bupP (qs.map Row.xs))) from fun lw hlw => by
                rw [← hlw, List.all_map, Bool.eq_iff_iff, List.any_eq_true, Bool.not_eq_true', List.all_eq_false]
                constructor
                · rintro ⟨r, hr, hx⟩
                  refine ⟨r, hr, ?_⟩
                  have h1 := HACC.out r.xs (lowL_perm hpx.1 r.xs (map_memX hlw hr))
                  simp only [Bool.not_eq_true', decide_eq_false_iff_not] at hx
                  simp only [Function.comp, bupP, Bool.or_eq_true, decide_eq_true_eq]
                  exact fun h => hx (h1.2 h)
                · rintro ⟨r, hr, hx⟩
                  refine ⟨r, hr, ?_⟩
                  have h1 := HACC.out r.xs (lowL_perm hpx.1 r.xs (map_memX hlw hr))
                  simp only [Function.comp, bupP, Bool.or_eq_true, decide_eq_true_eq] at hx
                  simp only [Bool.not_eq_true', decide_eq_false_iff_not]
                  exact fun h => hx (h1.1 h))
              by_cases hIN : p.xs ∈ qs.map Row.xs
              · have HB0 := Lib.hid (show decide (textD p.xs ∈ acc) = true by rw [hmm2]; exact decide_eq_true hIN)
                have HT2 := Lib.hid (show keptR (bupK (qs.map Row.xs)) rs (j + 1) = keptR (bupK (qs.map Row.xs)) rs j by rw [HK.out, if_neg]; unfold bupK; rw [decide_eq_true hIN]; simp)
                clear hc hp hRd hpx hin hT hb og hO hS hmm2 hIN hpm
                go_wp2_with fail
                refine wp_region_held_drew (S := (fun v => v.cell? ⟨G, 0, none⟩ = some (.map (some w.heap.size)))) (by kernel_rfl) hgd (fun hHeld => ?_)
                refine wpAnyH_take (i := 0) (oi := _) (v := ?_) rfl (by kernel_rfl) (by kernel_rfl) (by kernel_rfl) (fun _ _ _ h => h) (Or.inl ⟨by rfl, ?_⟩) (by assumption) ?_
                rotate_left
                · intro w hSw
                  try dsimp only at hSw
                  go_simp
                  all_goals with_reducible rfl
                try simp only [Act.put, List.setIfInBounds_toArray, List.set_cons_zero, List.set_cons_succ, List.getElem_toArray, List.getElem_cons_zero]
                refine wpAnyH_take (i := 1) (oi := _) (v := ?_) rfl (by kernel_rfl) (by kernel_rfl) (by kernel_rfl) (fun _ _ _ h => h) (Or.inl ⟨by rfl, ?_⟩) (by assumption) ?_
                rotate_left
                · intro w hSw
                  try dsimp only at hSw
                  go_simp
                  all_goals with_reducible rfl
                try simp only [Act.put, List.setIfInBounds_toArray, List.set_cons_zero, List.set_cons_succ, List.getElem_toArray, List.getElem_cons_succ, List.getElem_cons_zero]
                refine wpAnyH_ready (rs := [2]) (by kernel_rfl) (by simp) ?_
                refine AllReadyH.cons (o := _) rfl (fun K hK => ?_) AllReadyH.nil
                go_simp
                refine Calls.mono (HC.out _ (by first | rfl | fail)) ?_
                rintro e wq ⟨rfl, hbq⟩
                have hq := (HT.out.dr (Dr.refl _).drew).below hbq
                have oq := obj_below (show wr.drew.heap[G]? = _ from HOG.out) hbq (by show G < wr.heap.size; omega)
                have hgq : wq.cell? ⟨G, 0, none⟩ = some (.map (some w.heap.size)) := (obj_cell oq).trans rfl
                have hrun := hq.look HPB.out
                rw [HB0.out] at hrun
                have hbu : Below w.heap.size w wq := (below_dr HB.out (Dr.refl _).drew).trans (hbq.mono HB.out.size)
                have hO5 := ((HO.out.dr (Dr.refl _).drew).below hbq).wider (Nat.le_refl _) hbq.size
                have hS5 := (HS.out.dr (Dr.refl _).drew).below hbq
                have hs5 : w2.heap.size ≤ wq.heap.size := by have h1 := hbq.size; have h3 := HSZ.out; omega
                have KK := Lib.hid (And.intro hO5 (And.intro hS5 (And.intro hq (And.intro oq (And.intro hbu hs5)))))
                go_wp2_with fail
                refine hK.out _ _ (hgq) (fun hHeld => ?_)
                clear hK K
                try simp only [Act.put, List.setIfInBounds_toArray, List.set_cons_zero, List.set_cons_succ, List.getElem_toArray, List.getElem_cons_succ, List.getElem_cons_zero]
                refine wpAnyH_ready (rs := [3]) (by kernel_rfl) (by simp) ?_
                refine AllReadyH.cons (o := _) rfl (fun K hK => ?_) AllReadyH.nil
                go_simp
                refine hK.out _ _ (hgq) (fun hHeld => ?_)
                clear hK K
                try simp only [Act.put, List.setIfInBounds_toArray, List.set_cons_zero, List.set_cons_succ, List.getElem_toArray, List.getElem_cons_succ, List.getElem_cons_zero]
                refine wpAnyH_take (i := 4) (oi := _) (v := ?_) rfl (by kernel_rfl) (by kernel_rfl) (by kernel_rfl) (fun _ _ _ h => h) (Or.inl ⟨by rfl, ?_⟩) (by assumption) ?_
                rotate_left
                · intro w hSw
                  try dsimp only at hSw
                  go_simp
                  all_goals with_reducible rfl
                try simp only [Act.put, List.setIfInBounds_toArray, List.set_cons_zero, List.set_cons_succ, List.getElem_toArray, List.getElem_cons_succ, List.getElem_cons_zero]
                refine wpAnyH_take (i := 5) (oi := _) (v := ?_) rfl (by kernel_rfl) (by kernel_rfl) (by kernel_rfl) (fun _ _ _ h => h) (Or.inl ⟨by rfl, ?_⟩) (by assumption) ?_
                rotate_left
                · intro w hSw
                  try dsimp only at hSw
                  go_simp
                  all_goals with_reducible rfl
                try simp only [Act.put, List.setIfInBounds_toArray, List.set_cons_zero, List.set_cons_succ, List.getElem_toArray, List.getElem_cons_succ, List.getElem_cons_zero]
                refine wpAnyH_take (i := 6) (oi := _) (v := undef) rfl (by kernel_rfl) (by kernel_rfl) (by kernel_rfl) (fun _ _ _ h => h) (Or.inr ⟨by rfl, rfl⟩) (by assumption) ?_
                try simp only [Act.put, List.setIfInBounds_toArray, List.set_cons_zero, List.set_cons_succ, List.getElem_toArray, List.getElem_cons_succ, List.getElem_cons_zero]
                refine wpAnyH_take (i := 7) (oi := _) (v := undef) rfl (by kernel_rfl) (by kernel_rfl) (by kernel_rfl) (fun _ _ _ h => h) (Or.inr ⟨by rfl, rfl⟩) (by assumption) ?_
                try simp only [Act.put, List.setIfInBounds_toArray, List.set_cons_zero, List.set_cons_succ, List.getElem_toArray, List.getElem_cons_succ, List.getElem_cons_zero]
                refine wpAnyH_take (i := 8) (oi := _) (v := undef) rfl (by kernel_rfl) (by kernel_rfl) (by kernel_rfl) (fun _ _ _ h => h) (Or.inr ⟨by rfl, rfl⟩) (by assumption) ?_
                try simp only [Act.put, List.setIfInBounds_toArray, List.set_cons_zero, List.set_cons_succ, List.getElem_toArray, List.getElem_cons_succ, List.getElem_cons_zero]
                refine wpAnyH_take (i := 9) (oi := _) (v := undef) rfl (by kernel_rfl) (by kernel_rfl) (by kernel_rfl) (fun _ _ _ h => h) (Or.inr ⟨by rfl, rfl⟩) (by assumption) ?_
                try simp only [Act.put, List.setIfInBounds_toArray, List.set_cons_zero, List.set_cons_succ, List.getElem_toArray, List.getElem_cons_succ, List.getElem_cons_zero]
                refine wpAnyH_take (i := 10) (oi := _) (v := undef) rfl (by kernel_rfl) (by kernel_rfl) (by kernel_rfl) (fun _ _ _ h => h) (Or.inr ⟨by rfl, rfl⟩) (by assumption) ?_
                try simp only [Act.put, List.setIfInBounds_toArray, List.set_cons_zero, List.set_cons_succ, List.getElem_toArray, List.getElem_cons_succ, List.getElem_cons_zero]
                refine wpAnyH_take (i := 11) (oi := _) (v := ?_) rfl (by kernel_rfl) (by kernel_rfl) (by kernel_rfl) (fun _ _ _ h => h) (Or.inl ⟨by rfl, ?_⟩) (by assumption) ?_
                rotate_left
                · intro w hSw
                  try dsimp only at hSw
                  go_simp
                  all_goals with_reducible rfl
                try simp only [Act.put, List.setIfInBounds_toArray, List.set_cons_zero, List.set_cons_succ, List.getElem_toArray, List.getElem_cons_succ, List.getElem_cons_zero]
                refine wpAnyH_done (by kernel_rfl) ?_ _
                go_wp2_with fail
                go_roundw
                case rel => exact ⟨j + 1, A2, c2, vs, by omega, by go_num, rfl, Lib.hid (by rw [HT2.out, HV.out]), KK.out.1, KK.out.2.1, KK.out.2.2.1, KK.out.2.2.2.1, KK.out.2.2.2.2.1, KK.out.2.2.2.2.2⟩
                case measure => simp [intOf]; omega
              · have HB0 := Lib.hid (show decide (textD p.xs ∈ acc) = false by rw [hmm2]; exact decide_eq_false hIN)
                obtain ⟨b1, hb1⟩ : ∃ b1 : Bool, (!((lowL p.xs).all (bupP (qs.map Row.xs)))) = b1 := ⟨_, rfl⟩
                have HKB := Lib.hid (show bupK (qs.map Row.xs) p.xs = !b1 by unfold bupK; rw [decide_eq_false hIN, ← hb1]; simp)
                have HB1 := Lib.hid hb1
                clear hc hp hRd hpx hin hT hb og hO hS hmm2 hIN hb1 hpm
                go_wp2_with fail
                go_region_held3 (fun v => v.cell? ⟨G, 0, none⟩ = some (.map (some w.heap.size))) (first | exact hgd | exact hgz | exact hgl | exact hgq | fail)
                  ((first
                    | (go_at_call 64
                       refine Calls.mono (HC.out _ (by first | rfl | fail)) ?_
                       rintro e wq ⟨rfl, hbq⟩
                       have hq := (HT.out.dr (Dr.refl _).drew).below hbq
                       have oq := obj_below (show wr.drew.heap[G]? = _ from HOG.out) hbq (by show G < wr.heap.size; omega)
                       have hgq : wq.cell? ⟨G, 0, none⟩ = some (.map (some w.heap.size)) := (obj_cell oq).trans rfl
                       have hrun := hq.look HPB.out
                       rw [HB0.out] at hrun
                       have hbu : Below w.heap.size w wq := (below_dr HB.out (Dr.refl _).drew).trans (hbq.mono HB.out.size)
                       have hO5 := ((HO.out.dr (Dr.refl _).drew).below hbq).wider (Nat.le_refl _) hbq.size
                       have hS5 := (HS.out.dr (Dr.refl _).drew).below hbq
                       have hs5 : w2.heap.size ≤ wq.heap.size := by have h1 := hbq.size; have h3 := HSZ.out; omega
                       have Kq := Lib.hid (And.intro hO5 (And.intro hS5 (And.intro hq (And.intro oq (And.intro hbu hs5)))))
                       have HLC := Lib.hid (lowers_impl p.A p.c p.xs wq (HIN.out.next hbq) hl8)
                       clear hO5 hS5 hq oq hbu hs5 hbq)
                    | (go_at_call 87
                       refine Calls.mono HLC.out ?_
                       rintro e wl ⟨A6, c6, lw, rfl, hXl, hOl, hbl⟩
                       have hq := Kq.out.2.2.1.below hbl
                       have oq := obj_below Kq.out.2.2.2.1 hbl (obj_lt Kq.out.2.2.2.1)
                       have hgl : wl.cell? ⟨G, 0, none⟩ = some (.map (some w.heap.size)) := (obj_cell oq).trans rfl
                       have hbu := Kq.out.2.2.2.2.1.trans (hbl.mono Kq.out.2.2.2.2.1.size)
                       have hO5 := (Kq.out.1.below hbl).wider (Nat.le_refl _) hbl.size
                       have hS5 := Kq.out.2.1.below hbl
                       have hs5 : w2.heap.size ≤ wl.heap.size := by have h1 := hbl.size; have h2 := Kq.out.2.2.2.2.2; omega
                       have HRL := Lib.hid hOl.read
                       have HXL := Lib.hid hXl
                       have hll : lw.length ≤ 8 := by have h1 := congrArg List.length hXl; have h2 := lowL_length p.xs; rw [List.length_map] at h1; omega
                       have HL8 := Lib.hid (show ∀ r ∈ lw, r.xs.length ≤ 1048576 from fun r hr => by have := lowL_len r.xs (map_memX hXl hr); omega)
                       have Kl := Lib.hid (And.intro hO5 (And.intro hS5 (And.intro hq (And.intro oq (And.intro hbu hs5)))))
                       clear hO5 hS5 hq oq hbu hs5 hbl hXl hOl)
                    | (go_at_call 41
                       refine Calls.mono (containsFuncL1 A6 c6 lw 88 G (fun q => !decide (textD q ∈ acc)) wl (by omega) HRL.out (fun args w' => call_bu args w') (fun w' q hq hbb => bu_cl _ _ G w.heap.size nT acc _ w' ((row_in HRL.out (List.getElem_mem hq) (HL8.out _ (List.getElem_mem hq)) (Nat.le_refl _)).next hbb) (HLP.out _ (map_memX HXL.out (List.getElem_mem hq))) (Kl.out.2.2.1.below hbb) ((obj_cell (obj_below Kl.out.2.2.2.1 hbb (obj_lt Kl.out.2.2.2.1))).trans rfl) (Nat.lt_of_lt_of_le (obj_lt Kl.out.2.2.2.1) hbb.size)) b1 (by rw [HLA.out lw HXL.out, HB1.out])) ?_
                       rintro e wz ⟨rfl, hbz⟩
                       have hq := Kl.out.2.2.1.below hbz
                       have oq := obj_below Kl.out.2.2.2.1 hbz (obj_lt Kl.out.2.2.2.1)
                       have hgz : wz.cell? ⟨G, 0, none⟩ = some (.map (some w.heap.size)) := (obj_cell oq).trans rfl
                       have hbu := Kl.out.2.2.2.2.1.trans (hbz.mono Kl.out.2.2.2.2.1.size)
                       have hO5 := (Kl.out.1.below hbz).wider (Nat.le_refl _) hbz.size
                       have hS5 := Kl.out.2.1.below hbz
                       have hs5 : w2.heap.size ≤ wz.heap.size := by have h1 := hbz.size; have h2 := Kl.out.2.2.2.2.2; omega
                       have K := Lib.hid (And.intro hO5 (And.intro hS5 (And.intro hq (And.intro oq (And.intro hbu hs5)))))
                       clear hO5 hS5 hq oq hbu hs5 hbz)
                    | fail))
                all_goals
                  have hbz := K.out.2.2.2.2.1
                  have hwz5 : w.heap.size ≤ wz.heap.size := hbz.size
                  have hsw5 := K.out.2.2.2.2.2
                  have hT5 := K.out.2.2.1
                  have oz := K.out.2.2.2.1
                  have hO5 := K.out.1
                  have hS5 := K.out.2.1
                  clear hgd hgq hgl hgz fg
                  cases b1 with
                  | true =>
                    have HT2 := Lib.hid (show keptR (bupK (qs.map Row.xs)) rs (j + 1) = keptR (bupK (qs.map Row.xs)) rs j by rw [HK.out, HKB.out]; rfl)
                    go_wp2_with fail
                    go_roundw
                    case rel => exact ⟨j + 1, A2, c2, vs, by omega, by go_num, rfl, Lib.hid (by rw [HT2.out, HV.out]), hO5, hS5, hT5, oz, hbz, hsw5⟩
                    case measure => simp [intOf]; omega
                  | false =>
                    have HT2 := Lib.hid (show keptR (bupK (qs.map Row.xs)) rs (j + 1) = keptR (bupK (qs.map Row.xs)) rs j ++ [p] by rw [HK.out, HKB.out]; rfl)
                    have ho2 := hS5.outN (n := vs.length) rfl
                    have hol := hS5.olim (n := vs.length) rfl
                    have HOW := Lib.hid (show ∀ q, (Value.slice A2 vs.length c2).ownBlock = some q → q ≠ G ∧ q ≠ w.heap.size from fun q hq => by
                      obtain ⟨g', cap', cur', hv', _, hcur, _⟩ := ho2.2.resolve_left (fun hn => by rw [hn.1] at hq; cases hq)
                      injection hv' with hv1 _ _
                      subst hv1
                      injection hq with hq
                      subst hq
                      constructor
                      · intro e
                        subst e
                        rw [oz] at hcur
                        injection hcur with hcur
                        injection hcur with _ h2
                        exact absurd h2 (by decide)
                      · intro e
                        subst e
                        obtain ⟨es, clock, hes, _⟩ := hT5
                        rw [hes] at hcur
                        injection hcur with hcur
                        cases hcur)
                    go_wp2_with (at_builtin; refine wpList_append_own_at _ rfl _ _ 24 rfl (w.heap.size) 27 j0 (.slice none 0 0) 1 24 Tryz.underlying24 hj hy0 hy1 hy2 rfl (by decide) _ _ _ rfl (World.ownsRow.alloc ho2 _) ⟨wz.heap.size, 0, none⟩ 1 1 [Value.slice p.A p.xs.length p.c] rfl rfl (cell_one_at _ _ (by simp)) (by intro u hu; simp at hu; subst hu; rfl) (by unfold maxLen; omega) (by omega) (by simp; omega) ?_; intro v9 w9 hown9 hgrow9 _ hat9)
                    obtain ⟨A5, c5, hv5, hS6, hg6⟩ := hS5.grow hsw5 rfl hown9 hgrow9 hat9
                    obtain ⟨A7, c7, hv7, hO6, _⟩ := hO5.grow (Nat.le_refl _) rfl hown9 hgrow9
                    have hE := hv5.symm.trans hv7
                    injection hE with hE1 _ hE2
                    subst hE1 hE2
                    subst hv5
                    have hb6 := hbz.grown hg6 hwz5 hol
                    have hsz6 : w2.heap.size ≤ w9.heap.size := by have := hg6.size; omega
                    have hT6 := hT5.grown hg6 (fun e => (HOW.out _ e.symm).2 rfl)
                    have o6 := (hg6.block G (obj_lt oz) (fun e => (HOW.out _ e.symm).1 rfl)).trans oz
                    have K := Lib.hid (And.intro hO6 (And.intro hS6 (And.intro hT6 (And.intro o6 (And.intro hb6 hsz6)))))
                    clear hS6 hO6 hb6 hT6 o6 hown9 hgrow9 hat9 hg6 hS5 hO5 ho2 hol hbz hT5 oz hv7 hsz6
                    go_wp2_with fail
                    go_roundw
                    case rel => exact ⟨j + 1, A5, c5, vs ++ [Value.slice p.A p.xs.length p.c], by omega, by go_num, by rw [List.length_append]; rfl, Lib.hid (by rw [HT2.out, HV.out]; simp [Row.v]), K.out.1, K.out.2.1, K.out.2.2.1, K.out.2.2.2.1, K.out.2.2.2.2.1, K.out.2.2.2.2.2⟩
                    case measure => simp [intOf]; omega
            · obtain rfl : j = rs.length := by omega
              have hfin := sift_end (kept := keptR (bupK (qs.map Row.xs)) rs rs.length) hO HPL.out hS (keptR_sub _ _) HV.out hsz hs2 hsw
              have HLE := Lib.hid (show vs.length = (kept ++ keptR (bupK (qs.map Row.xs)) rs rs.length).length by rw [HV.out, List.length_map])
              have HXN := Lib.hid (show (kept ++ keptR (bupK (qs.map Row.xs)) rs rs.length).map Row.xs = bupL (qs.map Row.xs) (m + 1) by rw [List.map_append, keptR_all, HX.out, HXR.out, bupL_succ])
              have hG9 : G + 1 ≤ wr.heap.size := obj_lt og
              have K := Lib.hid (And.intro hfin (And.intro hT (And.intro og (And.intro hb hG9))))
              clear hfin hO hS hT og hb
              go_wp2_with fail
              go_roundw
              case rel => exact ⟨m + 1, A2, c2, kept ++ keptR (bupK (qs.map Row.xs)) rs rs.length, by omega, by go_num, by rw [← HLE.out], HXN, K.out.1, K.out.2.1, K.out.2.2.1, K.out.2.2.2.1, K.out.2.2.2.2⟩
              case measure => simp [intOf]; omega
        · obtain rfl : m = N := by omega
          have d1 : decide ((m : Int) + 1 ≤ (m : Int)) = false := decide_eq_false (by omega)
          go_wp2_with fail
          go_ret
          exact ⟨A2, c2, kept, rfl, HX.out, hO, hb⟩
end Go.Proofs.YtodloeonlaljpaaGreatDoor

/- BasisUpTo of the program. -/
namespace Go.Proofs.YtodloeonlaljpaaGreatDoor
set_option maxRecDepth 100000
open Go Go.RowKit

theorem allPerm_true {X : List (List Int)} (h : allPermB X = true) : ∀ q ∈ X, permB q = true := fun q hq => by
  unfold allPermB at h
  have h1 : (X.any fun p => !permB p) = false := by simpa using h
  have h2 := List.any_eq_false.1 h1 q hq
  simpa using h2
theorem allPerm_ofU {X : List (List Int)} (h : ∀ q ∈ X, permB q = true) : allPermB X = true := by
  unfold allPermB
  rw [show (X.any fun p => !permB p) = false from List.any_eq_false.2 fun q hq => by rw [h q hq]; simp]; rfl
set_option maxHeartbeats 1000000 in
theorem basisUpTo_impl (A : Option Addr) (c : Nat) (qs : List Row) (n : Int) (_ : -9223372036854775808 ≤ n ∧ n ≤ 9223372036854775807) (w : World) (h : InL w A c qs) :
    Calls Tryz.prog 20 #[.slice A qs.length c, .int .i64 n] w (RetL w (bupG (qs.map Row.xs) n)) := by
  by_cases hA : allPermB (qs.map Row.xs) = true
  · have H1 := Lib.hid hA
    by_cases h6 : sixB n = true
    · have HG := Lib.hid (show bupG (qs.map Row.xs) n = bupL (qs.map Row.xs) n.toNat by unfold bupG; rw [if_pos ⟨hA, h6⟩])
      have h6' : 0 ≤ n ∧ n ≤ 6 := by simpa [sixB] using h6
      obtain ⟨N, rfl⟩ := Int.eq_ofNat_of_zero_le h6'.1
      have H6 := Lib.hid h6
      have HP := Lib.hid (show ∀ r ∈ qs, permB r.xs = true from fun r hr => allPerm_true hA r.xs (List.mem_map.2 ⟨r, hr, rfl⟩))
      have hN : N ≤ 6 := by omega
      clear hA h6 h6'
      go_enter Tryz.func20, Tryz.ntmps20
      go_wp2_with fail
      (with_reducible refine (arePerms_b A c qs w true h H1.out).mono ?_)
      rintro e w1 ⟨rfl, hb1⟩
      go_wp2_with fail
      (with_reducible refine (isSix_any (N : Int) w1 true H6.out).mono ?_)
      rintro e w' ⟨rfl, rfl⟩
      have HI := Lib.hid (basisUpToI A c qs N w1 (h.next hb1) HP.out hN)
      go_wp2_with fail
      (with_reducible refine HI.out.mono ?_)
      rintro e w2 ⟨A2, c2, ds, rfl, hX, hO, hb2⟩
      go_wp2_with fail
      go_ret
      rw [HG.out]
      exact ⟨A2, c2, ds, rfl, hX, hO.wider hb1.size (Nat.le_refl _), hb1.trans (hb2.mono hb1.size)⟩
    · have h6f : sixB n = false := by simpa using h6
      have H6 := Lib.hid h6f
      have HG := Lib.hid (show bupG (qs.map Row.xs) n = [] by unfold bupG; rw [if_neg]; exact fun h => h6 h.2)
      clear hA h6 h6f
      go_enter Tryz.func20, Tryz.ntmps20
      go_wp2_with fail
      (with_reducible refine (arePerms_b A c qs w true h H1.out).mono ?_)
      rintro e w1 ⟨rfl, hb1⟩
      go_wp2_with fail
      (with_reducible refine (isSix_any n w1 false H6.out).mono ?_)
      rintro e w' ⟨rfl, rfl⟩
      go_wp2_with fail
      go_ret
      rw [HG.out]
      exact ⟨none, 0, [], rfl, rfl, Own.nil_list _ _ _, hb1⟩
  · have hAf : allPermB (qs.map Row.xs) = false := by simpa using hA
    have H1 := Lib.hid hAf
    have HG := Lib.hid (show bupG (qs.map Row.xs) n = [] by unfold bupG; rw [if_neg]; exact fun h => hA h.1)
    clear hA hAf
    go_enter Tryz.func20, Tryz.ntmps20
    go_wp2_with fail
    (with_reducible refine (arePerms_b A c qs w false h H1.out).mono ?_)
    rintro e w1 ⟨rfl, hb1⟩
    go_wp2_with fail
    go_ret
    rw [HG.out]
    exact ⟨none, 0, [], rfl, rfl, Own.nil_list _ _ _, hb1⟩
end Go.Proofs.YtodloeonlaljpaaGreatDoor

/- UnionUpTo, program and reference. -/
namespace Go.Proofs.YtodloeonlaljpaaGreatDoor
set_option maxRecDepth 100000
open Go Go.RowKit

/-- In one of two classes. -/
def unH (X Y : List (List Int)) (p : List Int) : Bool := avoidB X p || avoidB Y p
def unI (X Y : List (List Int)) (m : Nat) : List (List Int) := (List.range m).flatMap fun k => (permsL k).filter (unH X Y)
def unS (X Y : List (List Int)) (m : Nat) : List (List Int) := (List.range m).flatMap fun k => clsL X k ++ clsL Y k
theorem unI_succ (X Y : List (List Int)) (m : Nat) : unI X Y (m + 1) = unI X Y m ++ (permsL m).filter (unH X Y) := by simp [unI, List.range_succ]
theorem unS_succ (X Y : List (List Int)) (m : Nat) : unS X Y (m + 1) = unS X Y m ++ (clsL X m ++ clsL Y m) := by simp [unS, List.range_succ]
theorem un_mem (X Y : List (List Int)) (m : Nat) (p : List Int) : p ∈ unI X Y m ↔ p ∈ unS X Y m := by
  unfold unI unS
  rw [List.mem_flatMap, List.mem_flatMap]
  constructor
  · rintro ⟨k, hk, h⟩
    refine ⟨k, hk, ?_⟩
    rw [List.mem_filter] at h
    unfold unH at h
    rw [Bool.or_eq_true] at h
    rw [List.mem_append]
    unfold clsL
    rw [List.mem_filter, List.mem_filter]
    rcases h.2 with h2 | h2
    · exact .inl ⟨h.1, h2⟩
    · exact .inr ⟨h.1, h2⟩
  · rintro ⟨k, hk, h⟩
    refine ⟨k, hk, ?_⟩
    rw [List.mem_append] at h
    unfold clsL at h
    rw [List.mem_filter, List.mem_filter] at h
    rw [List.mem_filter]
    unfold unH
    rw [Bool.or_eq_true]
    rcases h with h | h
    · exact ⟨h.1, .inl h.2⟩
    · exact ⟨h.1, .inr h.2⟩
theorem bupK_congr {L L' : List (List Int)} (h : ∀ p, p ∈ L ↔ p ∈ L') (p : List Int) : bupK L p = bupK L' p := by
  have hd : ∀ q, decide (q ∈ L) = decide (q ∈ L') := fun q => decide_eq_decide.2 (h q)
  unfold bupK
  rw [hd p]
  congr 1
  have : bupP L = bupP L' := by
    funext q
    unfold bupP
    rw [hd q]
  rw [this]
theorem bupL_congr {L L' : List (List Int)} (h : ∀ p, p ∈ L ↔ p ∈ L') (n : Nat) : bupL L n = bupL L' n := by
  unfold bupL
  rw [show bupK L = bupK L' from funext (bupK_congr h)]
theorem pow_le5 {m : Nat} (hm : m ≤ 5) : m ^ m ≤ 3125 := by
  rcases (show m = 0 ∨ m = 1 ∨ m = 2 ∨ m = 3 ∨ m = 4 ∨ m = 5 by omega) with rfl | rfl | rfl | rfl | rfl | rfl <;> decide
theorem permsL_le5 {m : Nat} (hm : m ≤ 5) : (permsL m).length ≤ 3125 := Nat.le_trans (permsI_le m m) (pow_le5 hm)
theorem unI_le (X Y : List (List Int)) {m : Nat} (hm : m ≤ 6) : (unI X Y m).length ≤ m * 3125 := by
  induction m with
  | zero => simp [unI]
  | succ m ih =>
    have h1 := ih (by omega)
    have h2 := List.length_filter_le (unH X Y) (permsL m)
    have h3 := permsL_le5 (m := m) (by omega)
    rw [unI_succ, List.length_append]
    omega
theorem unS_le (X Y : List (List Int)) {m : Nat} (hm : m ≤ 6) : (unS X Y m).length ≤ m * 6250 := by
  induction m with
  | zero => simp [unS]
  | succ m ih =>
    have h1 := ih (by omega)
    have h2 := List.length_filter_le (avoidB X) (permsL m)
    have h4 := List.length_filter_le (avoidB Y) (permsL m)
    have h3 := permsL_le5 (m := m) (by omega)
    rw [unS_succ, List.length_append, List.length_append]
    unfold clsL
    omega
theorem unI_perm {X Y : List (List Int)} {m : Nat} (hm : m ≤ 6) {p : List Int} (h : p ∈ unI X Y m) : permB p = true ∧ p.length ≤ 5 := by
  unfold unI at h
  obtain ⟨k, hk, hp⟩ := List.mem_flatMap.1 h
  have hk := List.mem_range.1 hk
  have h1 := permsL_perm (n := k) (by omega) (List.mem_filter.1 hp).1
  exact ⟨h1.1, by omega⟩
def unOk (X Y : List (List Int)) (n : Int) : Bool := basisB X && basisB Y && decide (0 ≤ n ∧ n ≤ 5)
def unG (X Y : List (List Int)) (n : Int) : List (List Int) := if unOk X Y n = true then bupL (unI X Y (n.toNat + 1)) n.toNat else []
theorem unG_le (X Y : List (List Int)) (n : Int) : (unG X Y n).length + sizeX (unG X Y n) ≤ 1048576 := by
  unfold unG
  by_cases h : unOk X Y n = true
  · rw [if_pos h]
    unfold unOk at h
    rw [Bool.and_eq_true, decide_eq_true_eq] at h
    have h1 := bupL_le (unI X Y (n.toNat + 1)) n.toNat (by omega)
    have h2 := sizeX_of (X := bupL (unI X Y (n.toNat + 1)) n.toNat) (m := 6) (fun s hs => by have := bupL_mem hs; omega)
    omega
  · rw [if_neg h]; simp [sizeX]
theorem unS_in {X Y : List (List Int)} {m : Nat} (hm : m ≤ 6) {rs : List Row} (h : rs.map Row.xs = unS X Y m) : rs.length + sizeR rs ≤ 1048576 := by
  have h1 := congrArg List.length h
  have h2 := unS_le X Y hm
  have h3 := sizeX_of (X := rs.map Row.xs) (m := 5) (fun s hs => by rw [h, ← un_mem] at hs; exact (unI_perm hm hs).2)
  rw [sizeR_eq]
  rw [List.length_map] at h1 h3
  omega
theorem unI_in {X Y : List (List Int)} {m : Nat} (hm : m ≤ 6) {rs : List Row} (h : rs.map Row.xs = unI X Y m) : rs.length + sizeR rs ≤ 1048576 := by
  have h1 := congrArg List.length h
  have h2 := unI_le X Y hm
  have h3 := sizeX_of (X := rs.map Row.xs) (m := 5) (fun s hs => by rw [h] at hs; exact (unI_perm hm hs).2)
  rw [sizeR_eq]
  rw [List.length_map] at h1 h3
  omega
/-- A list's rows that were made just now go behind the rows of another list. -/
theorem own_join {w w1 w2 : World} {lo : Nat} {prior ns : List Row} {A A3 : Option Addr} {c c3 n : Nat} {v : Value} (hlo : lo ≤ w.heap.size) (hO : Own w lo w.heap.size prior [⟨A, c, prior.map Row.v⟩]) (hN : Own w1 w.heap.size w1.heap.size ns [⟨A3, c3, ns.map Row.v⟩]) (hb : Below w.heap.size w w1)
    (hn : prior.length = n) (h1 : w2.ownsRow lo 27 1 v (n + ns.length) (prior.map Row.v ++ ns.map Row.v)) (hg : w1.grownBy w2 (Value.slice A n c).ownBlock) :
    ∃ A5 c5, v = .slice A5 (n + ns.length) c5 ∧ Own w2 lo w2.heap.size (prior ++ ns) [⟨A5, c5, (prior ++ ns).map Row.v⟩] := by
  subst hn
  obtain ⟨A5, c5, rfl, _, _⟩ := own_shape h1
  have hr : Own w1 lo w1.heap.size (prior ++ ns) [] := (hO.below hb).bare.app hN.bare hlo hb.size
  have h2 := (hr.with_ (A := A) (c := c) (vs := prior.map Row.v) (own_below hO.out hb) (Nat.le_refl _)).kept (Nat.le_refl _) (show (prior.map Row.v).length = prior.length by simp) hg
  refine ⟨A5, c5, rfl, h2.with_ (A := A5) (c := c5) ?_ (Nat.le_refl _)⟩
  have e : ((prior ++ ns).map Row.v).length = prior.length + ns.length := by simp
  rw [e, List.map_append]
  exact h1
end Go.Proofs.YtodloeonlaljpaaGreatDoor

/- Plain maths of FnClasses: the basis of a class is found again among the least lists outside it. -/
namespace Go.Proofs.YtodloeonlaljpaaGreatDoor
set_option maxRecDepth 100000

theorem cmpL_snoc_lt {p q : List Int} (hl : p.length = q.length) (h : cmpL p q < 0) (u v : Int) : cmpL (p ++ [u]) (q ++ [v]) < 0 := by
  induction p generalizing q with
  | nil => cases q with
    | nil => simp [cmpL] at h
    | cons b s => simp at hl
  | cons a t ih => cases q with
    | nil => simp at hl
    | cons b s =>
      rw [List.cons_append, List.cons_append]
      simp only [cmpL] at h ⊢
      split
      · omega
      · rename_i h1
        rw [if_neg h1] at h
        split
        · rename_i h2; rw [if_pos h2] at h; omega
        · rename_i h2; rw [if_neg h2] at h; exact ih (by simpa using hl) h
theorem cmpL_snoc_same (p : List Int) {u v : Int} (h : u < v) : cmpL (p ++ [u]) (p ++ [v]) < 0 := by
  induction p with
  | nil => simp [cmpL, h]
  | cons a t ih =>
    rw [List.cons_append, List.cons_append]
    simp only [cmpL, Int.lt_irrefl, if_false]
    exact ih
theorem nums_inc (n : Nat) : (nums n).Pairwise (· < ·) := by
  unfold nums
  rw [List.pairwise_map]
  exact List.pairwise_lt_range.imp fun {a b} h => by omega
theorem before_len {x y : List Int} (hl : x.length = y.length) (h : cmpL x y < 0) : before x y = true := by
  unfold before
  rw [if_pos hl]
  exact decide_eq_true h
theorem permsI_lex (n : Nat) : ∀ i, (permsI n i).Pairwise fun x y => cmpL x y < 0 := by
  intro i
  induction i with
  | zero => simp [permsI]
  | succ i ih =>
    show (ext n (permsI n i)).Pairwise _
    unfold ext
    have hlen : ∀ p ∈ permsI n i, p.length = i := fun p hp => (permsI_mem hp).1
    generalize permsI n i = L at ih hlen
    induction L with
    | nil => simp
    | cons a t iht =>
      rw [List.flatMap_cons, List.pairwise_append]
      rw [List.pairwise_cons] at ih
      refine ⟨?_, iht ih.2 fun p hp => hlen p (by simp [hp]), fun x hx y hy => ?_⟩
      · unfold ext1
        rw [List.pairwise_map]
        exact ((nums_inc n).sublist List.filter_sublist).imp fun {u v} h => cmpL_snoc_same a h
      · obtain ⟨u, _, rfl⟩ := List.mem_map.1 hx
        obtain ⟨q, hq, hy⟩ := List.mem_flatMap.1 hy
        obtain ⟨v, _, rfl⟩ := List.mem_map.1 hy
        exact cmpL_snoc_lt (by rw [hlen a (by simp), hlen q (by simp [hq])]) (ih.1 q hq) u v
theorem permsL_srt (n : Nat) : Srt (permsL n) := by
  unfold Srt
  have h := permsI_lex n n
  have hlen : ∀ p ∈ permsI n n, p.length = n := fun p hp => (permsI_mem hp).1
  unfold permsL
  refine h.imp_of_mem fun {a b} ha hb hab => before_len (by rw [hlen a ha, hlen b hb]) hab
theorem bupL_srt (L : List (List Int)) (n : Nat) : Srt (bupL L n) := by
  induction n with
  | zero => unfold Srt bupL; simp
  | succ n ih =>
    rw [bupL_succ]
    unfold Srt
    rw [List.pairwise_append]
    refine ⟨ih, (permsL_srt (n + 1)).sublist List.filter_sublist, fun a ha b hb => ?_⟩
    have h1 := bupL_mem ha
    have h2 := (permsI_mem (List.mem_filter.1 hb).1).1
    unfold before
    rw [if_neg (by omega)]
    exact decide_eq_true (by omega)
/-- All lists of the class up to a length. -/
def clsTo (X : List (List Int)) (m : Nat) : List (List Int) := (List.range m).flatMap fun k => clsL X k
theorem clsTo_succ (X : List (List Int)) (m : Nat) : clsTo X (m + 1) = clsTo X m ++ clsL X m := by simp [clsTo, List.range_succ]
theorem clsTo_mem {X : List (List Int)} {m : Nat} (hm : m ≤ 8) {p : List Int} : p ∈ clsTo X (m + 1) ↔ p.length ≤ m ∧ permB p = true ∧ avoidB X p = true := by
  unfold clsTo
  rw [List.mem_flatMap]
  constructor
  · rintro ⟨k, hk, hp⟩
    have hk := List.mem_range.1 hk
    obtain ⟨h1, h2⟩ := List.mem_filter.1 hp
    obtain ⟨h3, h4⟩ := permsL_perm (by omega) h1
    exact ⟨by omega, h3, h2⟩
  · rintro ⟨h1, h2, h3⟩
    exact ⟨p.length, List.mem_range.2 (by omega), List.mem_filter.2 ⟨permB_mem h2, h3⟩⟩
def shortL (X : List (List Int)) (n : Nat) : List (List Int) := X.filter fun q => decide (q.length ≤ n)
/-- The basis is found again. -/
theorem basis_again {X : List (List Int)} (hX : basisB X = true) {n : Nat} (hn : n ≤ 6) : bupL (clsTo X (n + 1)) n = shortL X n := by
  have hperm : ∀ q ∈ X, permB q = true := basis_perm hX
  refine srt_ext (bupL_srt _ _) ((basis_srt hX).sublist List.filter_sublist) fun p => ?_
  have hnot : ∀ t : List Int, t.length ≤ n → permB t = true → (t ∈ clsTo X (n + 1) ↔ avoidB X t = true) := fun t h1 h2 => by
    rw [clsTo_mem (by omega)]
    exact ⟨fun h => h.2.2, fun h => ⟨h1, h2, h⟩⟩
  unfold bupL shortL
  rw [List.mem_flatMap, List.mem_filter]
  constructor
  · rintro ⟨k, hk, hp⟩
    have hk := List.mem_range.1 hk
    obtain ⟨h1, h2⟩ := List.mem_filter.1 hp
    obtain ⟨h3, h4⟩ := permsL_perm (by omega) h1
    unfold bupK at h2
    rw [Bool.and_eq_true] at h2
    have ha : avoidB X p = false := by
      cases h : avoidB X p with
      | false => rfl
      | true => have := (hnot p (by omega) h3).2 h; simp [this] at h2
    obtain ⟨b, hb, hh⟩ := not_avoid.1 ha
    have hle := has_len h3 (hperm b hb) hh
    have hlen : b.length = p.length := by
      apply Classical.byContradiction
      intro hne
      obtain ⟨t, ht, hth⟩ := has_lower h3 (hperm b hb) (by omega) hh
      obtain ⟨ht1, ht2, ht3⟩ := low_mem h3 ht
      have hl := List.all_eq_true.1 h2.2 t ht
      unfold bupP at hl
      have hb0 : b.length ≠ 0 := by
        obtain ⟨i, hi, e⟩ := List.mem_iff_getElem.1 hb
        rw [← e]
        exact (basis_at hX i hi).2.1
      have hle2 := has_len ht1 (hperm b hb) hth
      rw [Bool.or_eq_true, decide_eq_true_eq, decide_eq_true_eq] at hl
      rcases hl with hl | hl
      · omega
      · have := (hnot t (by omega) ht1).1 hl
        rw [avoid_iff] at this
        rw [this b hb] at hth
        cases hth
    rw [has_same h3 (hperm b hb) hlen.symm hh]
    exact ⟨hb, decide_eq_true (by omega)⟩
  · rintro ⟨hpX, hl⟩
    have hl := of_decide_eq_true hl
    have hp := hperm p hpX
    have hp0 : p.length ≠ 0 := by
      obtain ⟨i, hi, e⟩ := List.mem_iff_getElem.1 hpX
      rw [← e]
      exact (basis_at hX i hi).2.1
    refine ⟨p.length - 1, List.mem_range.2 (by omega), List.mem_filter.2 ⟨?_, ?_⟩⟩
    · rw [show p.length - 1 + 1 = p.length by omega]
      exact permB_mem hp
    · unfold bupK
      rw [Bool.and_eq_true]
      constructor
      · have : p ∉ clsTo X (n + 1) := fun h => by
          have := (hnot p hl hp).1 h
          rw [avoid_iff] at this
          have h2 := this p hpX
          rw [has_self hp] at h2
          cases h2
        simp [this]
      · rw [List.all_eq_true]
        intro t ht
        obtain ⟨ht1, ht2, ht3⟩ := low_mem hp ht
        unfold bupP
        rw [Bool.or_eq_true, decide_eq_true_eq, decide_eq_true_eq]
        right
        refine (hnot t (by omega) ht1).2 (avoid_iff.2 fun b hb => ?_)
        cases hc : hasB t b with
        | false => rfl
        | true =>
          have h1 := has_trans hp ht1 (hperm b hb) ht2 hc
          have h2 := basis_anti hX hpX hb h1
          have h3 := has_len ht1 (hperm b hb) hc
          rw [← h2] at h3
          omega
theorem clsTo_perm {X : List (List Int)} {m : Nat} (hm : m ≤ 8) : allPermB (clsTo X (m + 1)) = true := allPerm_ofU fun q hq => ((clsTo_mem hm).1 hq).2.1
theorem bup_again {X : List (List Int)} (hX : basisB X = true) {n : Nat} (hn : n ≤ 6) : bupG (clsTo X (n + 1)) (n : Int) = shortL X n := by
  unfold bupG
  rw [if_pos ⟨clsTo_perm (by omega), by unfold sixB; exact decide_eq_true (by omega)⟩]
  exact basis_again hX hn
/-- A class has every lower list of its lists. -/
theorem lower_avoid {X : List (List Int)} (hX : ∀ q ∈ X, permB q = true) {p t : List Int} (hp : permB p = true) (ha : avoidB X p = true) (ht : t ∈ lowL p) : permB t = true ∧ avoidB X t = true := by
  obtain ⟨h1, h2, _⟩ := low_mem hp ht
  exact ⟨h1, avoid_mono hX hp h1 h2 ha⟩
end Go.Proofs.YtodloeonlaljpaaGreatDoor

/- The last draws of FnClasses and FnMeets. -/
namespace Go.Proofs.YtodloeonlaljpaaGreatDoor
set_option maxRecDepth 100000
open Go Go.RowKit

/-- The first row of a list is put anew. -/
theorem Own.put_first {w w1 : World} {lo g cap : Nat} {r0 r : Row} {t : List Row} (h : Own w1 lo w.heap.size (r0 :: t) [⟨some ⟨g, 0, none⟩, cap, (r0 :: t).map Row.v⟩]) (hs : w.heap.size ≤ w1.heap.size) (hl : lo ≤ w.heap.size)
    (hr : w1.ownsRow w.heap.size 3 1 r.v r.xs.length (r.xs.map (Value.int .i64))) :
    Own (w1.setCell ⟨g, 0, none⟩ r.v) lo (w1.setCell ⟨g, 0, none⟩ r.v).heap.size (r :: t) [⟨some ⟨g, 0, none⟩, cap, (r :: t).map Row.v⟩] ∧ w1.grownBy (w1.setCell ⟨g, 0, none⟩ r.v) (some g) := by
  have h1 := h.add (r := r) hr hs hl
  have hg := grown_set w1 g 0 r.v
  have hn : ((r0 :: t).map Row.v).length = (r0 :: t).length := by simp
  have h2 := h1.kept (Nat.le_refl _) hn hg
  have h3 : Own (w1.setCell ⟨g, 0, none⟩ r.v) lo (w1.setCell ⟨g, 0, none⟩ r.v).heap.size (r :: t) [] := by
    have hp : ((r0 :: t) ++ [r]).Perm (r0 :: r :: t) := by
      rw [List.cons_append]
      exact (List.perm_append_singleton r t).cons r0
    exact (h2.perm hp).sub (List.sublist_cons_self _ _)
  have h4 := own_set_at (h.outN hn) (j := 0) (by simp) r.v
  refine ⟨h3.with_ ?_ (Nat.le_refl _), hg⟩
  have e : ((r0 :: t).map Row.v).set 0 r.v = (r :: t).map Row.v := rfl
  rw [e] at h4
  rw [List.length_map]
  exact h4
theorem own_someD {w : World} {base e n : Nat} {v : Value} {vs : List Value} (h : w.ownsRow base e 1 v n vs) (hne : v ≠ .slice none 0 0) : ∃ g c, v = .slice (some ⟨g, 0, none⟩) n c := by
  rcases h.2 with ⟨rfl, _⟩ | ⟨g, cap, cur, rfl, _⟩
  · exact absurd rfl hne
  · exact ⟨g, cap, rfl⟩
theorem own_first {w : World} {base e n g cap : Nat} {vs : List Value} (h : w.ownsRow base e 1 (.slice (some ⟨g, 0, none⟩) n cap) n vs) (hn : 0 < n) : (∃ u, w.cell? ⟨g, 0, none⟩ = some u) ∧ w.frozen? ⟨g, 0, none⟩ = false := by
  have hl := own_len h
  rcases h.2 with ⟨e1, _⟩ | ⟨g1, cap1, cur, e1, _, hh, _, _, hcs, ht⟩
  · cases e1
  · injection e1 with e1 _ _
    injection e1 with e1
    injection e1 with e1 _ _
    subst e1
    refine ⟨⟨vs[0]'(by omega), (obj_cell hh).trans ?_⟩, obj_frozen hh⟩
    have h0 : cur.toList[0]? = some (vs[0]'(by omega)) := by
      rw [← List.getElem?_eq_getElem (by omega : 0 < vs.length), ← ht, List.getElem?_take_of_lt (by omega)]
    simpa using h0
set_option maxHeartbeats 2000000 in
theorem l3List_any (w : World) (q : Nat) (A : Option Addr) (c : Nat) (bs : List Int) (hc : Cur w q A c bs) :
    Calls Tryz.prog 38 #[.pointer (some ⟨q, 0, none⟩)] w (RetLC w q A c bs fun X => X.length ≤ 4 ∧ ∀ p ∈ X, p.length ≤ 9) := by
  obtain ⟨j0, hj, hy0, hy1, hy2⟩ := info_parts infoL
  have hq := hc.lt
  have hbA := (Below.refl w.heap.size w).alloc (Nat.le_refl _) (.cells #[] 27)
  have hO0 := Own.lit (lo := w.heap.size) w (Nat.le_refl _)
  have kA := (Drawn.refl hc).next hbA hq
  have HP := Lib.hid (l1Below_any _ q A c bs 5 (by omega) kA.cur)
  clear hbA
  go_enter Tryz.func38, Tryz.ntmps38
  go_wp2_with fail
  (with_reducible refine HP.out.mono ?_)
  rintro e w1 ⟨x, rfl, hx, k1⟩
  have hx8 : 0 ≤ x ∧ x ≤ 4 := by have := hx.2.1 (by omega); omega
  obtain ⟨n, rfl⟩ := Int.eq_ofNat_of_zero_le hx8.1
  have hn3 : n ≤ 4 := by omega
  have hO1 := (hO0.drawn k1 hq).wider (Nat.le_refl _) k1.span.size
  have k1 := kA.trans k1
  clear HP hx hO0 kA
  go_wp2_with fail
  go_loopw [3, 5] (fun v i wr => ∃ (k : Nat) (A1 : Option Addr) (c1 : Nat) (ds : List Row), k ≤ n ∧ i = .int .i64 k ∧ v = .slice A1 ds.length c1 ∧ ds.length = k ∧ Hid (∀ p ∈ ds.map Row.xs, p.length ≤ 4) ∧ Own wr w.heap.size wr.heap.size ds [⟨A1, c1, ds.map Row.v⟩] ∧ Drawn w wr q A c bs) (fun _ i _ => n - (intOf i).toNat)
  case atStart => exact ⟨0, _, _, [], Nat.zero_le _, rfl, rfl, rfl, Lib.hid (fun p hp => (List.not_mem_nil hp).elim), hO1, k1⟩
  case round =>
    clear hO1 k1
    obtain ⟨k, A1, c1, ds, hk, rfl, rfl, hdl, HR, hO, k2⟩ := hrel
    have hsz := k2.span.size
    have hq2 := k2.cur.lt
    rcases Nat.lt_or_ge k n with hlt | hge
    · have HP := Lib.hid (l1Below_any wr q A c bs 5 (by omega) k2.cur)
      have HDL := Lib.hid hdl
      clear hdl
      go_wp2_with fail
      (with_reducible refine HP.out.mono ?_)
      rintro e w2 ⟨x, rfl, hx, k4⟩
      have hx8 : 0 ≤ x ∧ x ≤ 4 := by have := hx.2.1 (by omega); omega
      obtain ⟨m, rfl⟩ := Int.eq_ofNat_of_zero_le hx8.1
      have hm4 : m ≤ 4 := by omega
      have hO3 := (hO.drawn k4 hq).wider (hi' := w2.heap.size) (Nat.le_refl _) k4.span.size
      have k5 := k2.trans k4
      have HD := Lib.hid (l2Draw_any w2 q A c bs m (by omega) k5.cur)
      have hs2 := k5.span.size
      clear HP hx k4 k2 hO
      go_wp2_with fail
      (with_reducible refine HD.out.mono ?_)
      rintro e w3 ⟨D, dk, d, rfl, hp, hod, k6⟩
      have hdm : d.length = m := by rw [hp.length_eq, upToL_length]
      have k7 := k5.trans k6
      have hs3 := k7.span.size
      have hO6 := (hO3.drawn k6 hq).add (r := ⟨D, dk, d⟩) hod k6.span.size hs2
      have hown2 := hO6.outN (n := ds.length) (by simp)
      have hol := hO6.olim (n := ds.length) (by simp)
      have hds : ds.length ≤ 4 := by have := HDL.out; omega
      have HR2 := Lib.hid (show ∀ p ∈ (ds ++ [(⟨D, dk, d⟩ : Row)]).map Row.xs, p.length ≤ 4 from fun p hp => by
        rw [List.map_append, List.mem_append] at hp
        rcases hp with hp | hp
        · exact HR.out p hp
        · rw [List.map_singleton, List.mem_singleton] at hp
          have hpe : p = d := hp
          rw [hpe]
          omega)
      clear HD hp hdm hO3 hod k6 k5 hs2
      go_wp2_with (at_builtin; refine wpList_append_own _ rfl _ _ 24 rfl (w.heap.size) 27 j0 (.slice none 0 0) 1 24 Tryz.underlying24 hj hy0 hy1 hy2 rfl (by decide) _ _ _ rfl (World.ownsRow.alloc hown2 _) ⟨w3.heap.size, 0, none⟩ 1 1 [Value.slice D d.length dk] rfl rfl (cell_one_at _ _ (by simp)) (by intro u hu; simp at hu; subst hu; rfl) (by unfold maxLen; omega) (by omega) (by simp; omega) ?_; intro v9 w9 hown9 hgrow9 _)
      obtain ⟨A5, c5, rfl, hO7, hg3⟩ := hO6.grow (Nat.le_refl _) (by simp) hown9 hgrow9
      have k8 := k7.next ((Below.refl w.heap.size w3).grown hg3 hs3 fun g hg => (hol g hg).1) hq
      have K := Lib.hid (And.intro hO7 k8)
      clear hO7 k8 hown9 hgrow9 hg3 hO6 hown2 hol k7
      go_wp2_with fail
      go_roundw
      case rel => exact ⟨k + 1, A5, c5, ds ++ [⟨D, dk, d⟩], by omega, by go_num, by rw [List.length_append]; rfl, by rw [List.length_append, HDL.out]; rfl, HR2, by rw [List.map_append]; exact K.out.1, K.out.2⟩
      case measure => simp [intOf]; omega
    · obtain rfl : k = n := by omega
      have HF := Lib.hid (show (ds.map Row.xs).length ≤ 4 ∧ ∀ p ∈ ds.map Row.xs, p.length ≤ 9 from ⟨by rw [List.length_map]; omega, fun p hp => by have := HR.out p hp; omega⟩)
      have HDL := Lib.hid hdl
      clear HR hdl
      rcases Nat.eq_zero_or_pos k with h0 | h0
      · subst h0
        go_wp2_with fail
        go_ret
        exact ⟨A1, c1, ds, rfl, HF.out, hO, k2⟩
      · have HO := Lib.hid (l1Once_any wr q A c bs 12 (by omega) k2.cur)
        have g1 : decide ((k : Int) > 0) = true := decide_eq_true (by omega)
        have g2 : decide (0 < (k : Int)) = true := decide_eq_true (by omega)
        go_wp2_with fail
        (with_reducible refine HO.out.mono ?_)
        rintro e w2 ⟨b, rfl, k4⟩
        have hO3 := (hO.drawn k4 hq).wider (hi' := w2.heap.size) (Nat.le_refl _) k4.span.size
        have k5 := k2.trans k4
        have hs2 := k5.span.size
        clear HO k4 k2 hO
        rcases b with _ | _
        · go_wp2_with fail
          go_ret
          exact ⟨A1, c1, ds, rfl, HF.out, hO3, k5⟩
        · have HD := Lib.hid (l2Bent_any w2 q A c bs k5.cur)
          obtain ⟨g, cg, hv⟩ := own_someD (hO3.outN (n := ds.length) (by simp)) (fun he => by injection he with _ he; have := HDL.out; omega)
          injection hv with hv1 hv2 hv3
          subst hv1 hv3
          obtain ⟨r0, t, rfl⟩ : ∃ r0 t, ds = r0 :: t := by
            cases ds with
            | nil => have := HDL.out; simp at this; omega
            | cons r0 t => exact ⟨r0, t, rfl⟩
          go_wp2_with fail
          (with_reducible refine HD.out.mono ?_)
          rintro e w3 ⟨D, dk, d, rfl, hp9, hod, k6⟩
          have k7 := k5.trans k6
          have hs3 := k7.span.size
          obtain ⟨hO7, hg7⟩ := Own.put_first (w := w2) (w1 := w3) (r := ⟨D, dk, d⟩) (hO3.drawn k6 hq) k6.span.size hs2 hod
          have hgl : ∀ g', some g = some g' → w.heap.size ≤ g' := fun g' hg' => by
            have := (hO3.olim (n := (r0 :: t).length) (by simp) g' (by rw [← hg']; rfl)).1
            exact this
          have k8 := k7.next ((Below.refl w.heap.size w3).grown hg7 hs3 hgl) hq
          have HF2 := Lib.hid (show (((⟨D, dk, d⟩ : Row) :: t).map Row.xs).length ≤ 4 ∧ ∀ p ∈ ((⟨D, dk, d⟩ : Row) :: t).map Row.xs, p.length ≤ 9 from ⟨by have := HF.out.1; simpa using this, fun p hp => by
            rw [List.map_cons, List.mem_cons] at hp
            rcases hp with rfl | hp
            · exact hp9
            · exact HF.out.2 p (by rw [List.map_cons]; exact List.mem_cons_of_mem _ hp)⟩)
          have K := Lib.hid (And.intro hO7 k8)
          obtain ⟨⟨u0, fc0⟩, ff0⟩ := own_first ((hO3.drawn k6 hq).outN (n := (r0 :: t).length) (by simp)) (by simp)
          clear hO7 k8 hg7 hgl hO3 hod k6 k5
          go_wp2_with fail
          go_ret
          exact ⟨some ⟨g, 0, none⟩, c1, ⟨D, dk, d⟩ :: t, rfl, HF2.out, K.out.1, K.out.2⟩
set_option maxHeartbeats 800000 in
theorem drawMakeBasis (A : Option Addr) (c : Nat) (bs : List Int) (w : World) (h : InY w A c bs) :
    Calls Tryz.prog 10 #[.slice A bs.length c] w (RetL1 w) := by
  have HC := Lib.hid (l1New_any A c bs w h.len h.rd)
  go_enter Tryz.func10, Tryz.ntmps10
  go_wp2_with fail
  (with_reducible refine HC.out.mono ?_)
  rintro e w1 ⟨q, rfl, hq, hc, hb⟩
  have HD := Lib.hid (l3List_any w1 q A c bs hc)
  clear HC
  go_wp2_with fail
  (with_reducible refine HD.out.mono ?_)
  rintro e w2 ⟨P, pk, ps, rfl, ⟨hp4, hp9⟩, hO1, k1⟩
  go_wp2_with fail
  go_ret
  exact ⟨P, pk, ps, rfl, few_inL hO1 (Nat.le_refl _) (by have := few_size hp4 hp9; omega), hb.trans (k1.below hq hb.size)⟩
theorem run_append_rd_at {P : Program} (w : World) {α : Type} {f : α → Value} (base : Nat) (t ty e : TypeId) (i : TypeInfo) (z : Value) (bytes : Nat) (ht : P.underlying t = some (.slice e)) (hi : P.info? e = some i) (hz : i.zero = some z)
    (hsize : i.size = 1) (hby : i.bytes = bytes) (hzs : z.cells.size = 1)
    (v : Value) (n : Nat) (xs : List Value) (hown : w.ownsRow base e 1 v n xs)
    (B : Nat) (A : Option Addr) (c m : Nat) (ys : List α) (hm : ys.length = m) (hr : Rd f w B A ys) (h1 : ∀ y, (f y).oneCell' = true)
    (h63 : n + m ≤ maxLen) (hbytes : (n + m) * bytes ≤ 140737488355328) (hbase : base ≤ w.heap.size) :
    ∃ v' w', (Builtin.append_ #[t, t] ty #[v, .slice A m c]).run P w = .ok v' w' ∧ w'.ownsRow base e 1 v' (n + m) (xs ++ ys.map f) ∧ w.grownBy w' v.ownBlock ∧ (v'.ownBlock = v.ownBlock ∨ v'.ownBlock = some w.heap.size) := by
  subst hm
  rcases Nat.eq_zero_or_pos ys.length with h0 | h0
  · have hy : ys = [] := List.eq_nil_of_length_eq_zero h0
    subst hy
    cases A with
    | none => exact ⟨v, w, run_append_of_nil w base t ty e i ht hi v n xs hown c, by simpa using hown, World.grownBy.refl w _, .inl rfl⟩
    | some ad =>
      obtain ⟨v', w', hrun, h2, h3, _, h5⟩ := run_append_own_at (P := P) w base t ty e i z 1 bytes ht hi hz hsize hby hzs (by omega) v n xs hown ad 0 c [] rfl (by intro j u h; simp at h) (by simp) (by simpa using h63) (by simpa using hbytes) hbase
      exact ⟨v', w', hrun, by simpa using h2, h3, h5⟩
  · obtain ⟨b, off, rfl, _, hc⟩ := hr h0
    obtain ⟨v', w', hrun, h2, h3, _, h5⟩ := run_append_own_at (P := P) w base t ty e i z 1 bytes ht hi hz hsize hby hzs (by omega) v n xs hown ⟨b, off, none⟩ ys.length c (ys.map f) (by simp) (fun j u hu => by
      rw [List.getElem?_map] at hu
      obtain ⟨y, hy, rfl⟩ := Option.map_eq_some_iff.1 hu
      obtain ⟨hj, rfl⟩ := List.getElem?_eq_some_iff.1 hy
      rw [Addr.add_lit]
      exact hc j hj) (by intro u hu; obtain ⟨y, _, rfl⟩ := List.mem_map.1 hu; exact h1 y) h63 hbytes hbase
    exact ⟨v', w', hrun, h2, h3, h5⟩
theorem wpList_append_rd_at {P : Program} (w : World) {α : Type} {f : α → Value} {ops : Array Oper} {rest : List Oper} {o : Oper} {a : Act} {Q : Exit → Act → World → Prop} (hgd : o.guard = none) (s x : Operand) (t : TypeId)
    (ho : o.op = .call { callee := .builtin .append, args := #[s, x], argTypes := #[t, t] })
    (base : Nat) (e : TypeId) (i : TypeInfo) (z : Value) (bytes : Nat) (ht : P.underlying t = some (.slice e)) (hi : P.info? e = some i) (hz : i.zero = some z)
    (hsize : i.size = 1) (hby : i.bytes = bytes) (hzs : z.cells.size = 1)
    (v : Value) (n : Nat) (xs : List Value) (hs : a.eval s = v) (hown : w.ownsRow base e 1 v n xs)
    (B : Nat) (A : Option Addr) (c m : Nat) (ys : List α) (hx : a.eval x = .slice A m c) (hm : ys.length = m) (hr : Rd f w B A ys) (h1 : ∀ y, (f y).oneCell' = true)
    (h63 : n + m ≤ maxLen) (hbytes : (n + m) * bytes ≤ 140737488355328) (hbase : base ≤ w.heap.size)
    (h : ∀ v' w', w'.ownsRow base e 1 v' (n + m) (xs ++ ys.map f) → w.grownBy w' v.ownBlock → (v'.ownBlock = v.ownBlock ∨ v'.ownBlock = some w.heap.size) → wpList P ops Q rest (a.put o.dst v') w') : wpList P ops Q (o :: rest) a w := by
  refine wpList_plain hgd fun K hK => ?_
  obtain ⟨v', w', hr2, h2, h3, h5⟩ := run_append_rd_at (P := P) w base t o.type e i z bytes ht hi hz hsize hby hzs v n xs hown B A c m ys hm hr h1 h63 hbytes hbase
  unfold Oper.wp execOp
  simp only [ho, resolve, invoke, builtin, Sem.run_bind, Sem.run_pure, Result.andThen_ok, List.map_toArray, List.map_cons, List.map_nil, hs, hx, hr2]
  exact hK _ _ (h v' w' h2 h3 h5)
theorem Own.by_ {w w' : World} {lo hi : Nat} {rs : List Row} {os : List Outer} {row : Option Nat} (h : Own w lo hi rs os) (hg : w.grownBy w' row) (hr : ∀ g, row = some g → g < lo ∨ hi ≤ g) : Own w' lo hi rs os := by
  rcases row with _ | g
  · exact h.span (Span.of_grown (lo := lo) (hi := lo) hg fun g h => by cases h) (.inr (Nat.le_refl _))
  · refine h.span (Span.of_grown (lo := g) (hi := g + 1) hg fun g' h => by injection h with h; omega) ?_
    have := hr g rfl
    omega
theorem clsL_few {X : List (List Int)} {n : Nat} (hn : n ≤ 5) : (clsL X n).length ≤ 3125 := Nat.le_trans (List.length_filter_le _ _) (permsL_le5 hn)
theorem clsL_len {X : List (List Int)} {n : Nat} (hn : n ≤ 5) : ∀ p ∈ clsL X n, p.length ≤ 5 := fun p hp => by
  have := (permsL_perm (by omega) (List.mem_filter.1 hp).1).2
  omega
theorem clG_few {X : List (List Int)} {n : Nat} (hn : n ≤ 5) : (clG X n).length ≤ 3125 ∧ ∀ p ∈ clG X n, p.length ≤ 5 := by
  unfold clG
  rw [Int.toNat_natCast]
  split
  · exact ⟨clsL_few hn, clsL_len hn⟩
  · exact ⟨by simp, fun p hp => (List.not_mem_nil hp).elim⟩
/-- Rows of the call's own that were made just now go behind the rows of another list. -/
theorem own_joinB {w1 w2 : World} {lo m : Nat} {prior ns : List Row} {A : Option Addr} {c n k : Nat} {v : Value} (hlo : lo ≤ m) (hO : Own w1 lo m prior [⟨A, c, prior.map Row.v⟩]) (hN : Own w1 m w1.heap.size ns []) (hm : m ≤ w1.heap.size)
    (hn : prior.length = n) (hk : ns.length = k) (h1 : w2.ownsRow lo 27 1 v (n + k) (prior.map Row.v ++ ns.map Row.v)) (hg : w1.grownBy w2 (Value.slice A n c).ownBlock) :
    ∃ A5 c5, v = .slice A5 (n + k) c5 ∧ Own w2 lo w2.heap.size (prior ++ ns) [⟨A5, c5, (prior ++ ns).map Row.v⟩] := by
  subst hn hk
  obtain ⟨A5, c5, rfl, _, _⟩ := own_shape h1
  have hr : Own w1 lo w1.heap.size (prior ++ ns) [] := hO.bare.app hN hlo hm
  have h2 := (hr.with_ (A := A) (c := c) (vs := prior.map Row.v) hO.out (Nat.le_refl _)).kept (Nat.le_refl _) (show (prior.map Row.v).length = prior.length by simp) hg
  refine ⟨A5, c5, rfl, h2.with_ (A := A5) (c := c5) ?_ (Nat.le_refl _)⟩
  have e : ((prior ++ ns).map Row.v).length = prior.length + ns.length := by simp
  rw [e, List.map_append]
  exact h1
theorem cell_two_at {w : World} {H : Nat} (a b : Value) (t : TypeId) (h : w.heap.size = H) : ∀ (j : Nat) (u : Value), [a, b][j]? = some u → (w.alloc (.cells #[a, b] t)).cell? ((⟨H, 0, none⟩ : Addr).add j) = some u := by
  subst h
  intro j u hu
  rw [Addr.add_lit]
  refine (obj_cell (obj_new w _)).trans ?_
  rcases j with _ | _ | j
  · simpa using hu
  · simpa using hu
  · simp at hu
set_option maxHeartbeats 4000000 in
theorem drawBasisUpTo (A : Option Addr) (c : Nat) (bs : List Int) (w : World) (h : InY w A c bs) :
    Calls Tryz.prog 14 #[.slice A bs.length c] w (RetLX w (-1) 4) := by
  obtain ⟨j0, hj, hy0, hy1, hy2⟩ := info_parts infoL
  have HC := Lib.hid (l1New_any A c bs w h.len h.rd)
  go_enter Tryz.func14, Tryz.ntmps14
  go_wp2_with fail
  (with_reducible refine HC.out.mono ?_)
  rintro e wA ⟨q, rfl, hq, hc, hb⟩
  have hq1 := hc.lt
  have HO := Lib.hid (l1Below_any wA q A c bs 5 (by omega) hc)
  clear HC
  go_wp2_with fail
  (with_reducible refine HO.out.mono ?_)
  rintro e w2 ⟨x, rfl, hx, k1⟩
  have hx4 : 0 ≤ x ∧ x ≤ 4 := by have := hx.2.1 (by omega); omega
  obtain ⟨N, rfl⟩ := Int.eq_ofNat_of_zero_le hx4.1
  have hN : N ≤ 4 := by omega
  have hs1 := k1.span.size
  have hbA := (Below.refl w2.heap.size w2).alloc (Nat.le_refl _) (.cells #[] 27)
  have hlit := Own.lit (lo := w2.heap.size) w2 (Nat.le_refl _)
  have kA := k1.next (hbA.mono hs1) hq1
  have HE := Lib.hid (l12Draw_any _ q A c bs kA.cur)
  clear HO hx k1 hbA
  go_wp2_with fail
  (with_reducible refine HE.out.mono ?_)
  rintro e w3 ⟨B, bk, ds, rfl, ⟨hq3, hq4⟩, hOb, k2⟩
  have HQ := Lib.hid (show (ds.map Row.xs).length + sizeX (ds.map Row.xs) ≤ 1048576 by have := few_size hq3 hq4; omega)
  have hs2 := k2.span.size
  have hq2 : q < w2.heap.size := by omega
  have hlit := (hlit.drawn k2 hq2).wider (hi' := w3.heap.size) (Nat.le_refl _) hs2
  have hsA : w2.heap.size + 1 ≤ w3.heap.size := by simpa using hs2
  have hOb : Own w3 (w2.heap.size + 1) w3.heap.size ds [⟨B, bk, ds.map Row.v⟩] := by simpa using hOb
  have k3 := kA.trans k2
  clear HE hq3 hq4 kA k2 hs2
  go_wp2_with fail
  go_loopw [6, 8] (fun v i wr => ∃ (m : Nat) (A2 : Option Addr) (c2 : Nat) (ks : List Row), m ≤ N + 1 ∧ i = .int .i64 (m : Int) ∧ v = .slice A2 ks.length c2 ∧ Hid ((ks.map Row.xs).length ≤ m * 3125 ∧ ∀ p ∈ ks.map Row.xs, p.length ≤ 9) ∧ Own wr w2.heap.size wr.heap.size ks [⟨A2, c2, ks.map Row.v⟩] ∧ Own wr (w2.heap.size + 1) w3.heap.size ds [⟨B, bk, ds.map Row.v⟩] ∧ Hid (∀ g, (Value.slice A2 ks.length c2).ownBlock = some g → g < w2.heap.size + 1 ∨ w3.heap.size ≤ g) ∧ w3.heap.size ≤ wr.heap.size ∧ Drawn wA wr q A c bs) (fun _ i _ => N + 1 - (intOf i).toNat)
  case atStart => exact ⟨0, _, _, [], Nat.zero_le _, rfl, rfl, Lib.hid ⟨Nat.zero_le _, fun p hp => (List.not_mem_nil hp).elim⟩, hlit, hOb, Lib.hid (fun g hg => by have h : some w2.heap.size = some g := hg; injection h with h; omega), Nat.le_refl _, k3⟩
  case round =>
    clear hlit hOb k3
    obtain ⟨m, A2, c2, ks, hm, rfl, rfl, HX, hO, hOb, HBL, h3r, k3⟩ := hrel
    have hkl : ks.length ≤ 15625 := by
      have h1 := HX.out.1
      rw [List.length_map] at h1
      omega
    have hsz := k3.span.size
    rcases Nat.lt_or_ge m (N + 1) with hlt | hge
    · have d1 : decide ((m : Int) ≤ (N : Int)) = true := decide_eq_true (by omega)
      have HC1 := Lib.hid (classOf_spec B bk ds (m : Int) (by omega) wr (few_inL hOb h3r HQ.out))
      have HFW := Lib.hid (clG_few (X := ds.map Row.xs) (n := m) (by omega))
      go_wp2_with fail
      (with_reducible refine HC1.out.mono ?_)
      rintro e w4 ⟨A3, c3, xs, rfl, hX3, hO3, hb3⟩
      have hxl : xs.length ≤ 3125 := by have h1 := congrArg List.length hX3; rw [List.length_map] at h1; have := HFW.out.1; omega
      have ho3 := own_below (hO.outN (n := ks.length) (by simp)) hb3
      have hx3 := read_rows hO3.read
      have hs3 := hb3.size
      have h2w : w2.heap.size ≤ w4.heap.size := by omega
      go_wp2_with (at_builtin; refine wpList_append_rd_at _ rfl _ _ 24 rfl (w2.heap.size) 27 j0 (.slice none 0 0) 24 Tryz.underlying24 hj hy0 hy1 hy2 rfl _ _ _ rfl ho3 _ _ _ _ (xs) rfl rfl hx3 (fun _ => rfl) (by unfold maxLen; omega) (by omega) (by first | omega | (simp; done) | (simp; omega)) ?_; intro v1 w1 hown1 hgrow1 hat1)
      obtain ⟨A5, c5, rfl, hO5⟩ := own_join (by omega) hO hO3 hb3 rfl hown1 hgrow1
      have hOb5 := (hOb.below hb3).by_ hgrow1 HBL.out
      have hs5 := hgrow1.size
      have k5 := (k3.next (hb3.mono hsz) hq1).next ((Below.refl wA.heap.size w4).grown hgrow1 (by omega) (fun g hg => by have := (hO.olim (n := ks.length) (by simp) g hg).1; omega)) hq1
      have HBL5 := Lib.hid (show ∀ g, (Value.slice A5 (ks ++ xs).length c5).ownBlock = some g → g < w2.heap.size + 1 ∨ w3.heap.size ≤ g from fun g hg => by
        rw [ownBlock_len A5 _ (ks.length + xs.length) c5 c5] at hg
        rcases hat1 with h | h
        · rw [h] at hg; exact HBL.out g hg
        · rw [h] at hg; injection hg with hg; omega)
      have HX5 := Lib.hid (show ((ks ++ xs).map Row.xs).length ≤ (m + 1) * 3125 ∧ ∀ p ∈ (ks ++ xs).map Row.xs, p.length ≤ 9 from ⟨by have := HX.out.1; rw [List.length_map] at this ⊢; rw [List.length_append]; omega, fun p hp => by
        rw [List.map_append, List.mem_append] at hp
        rcases hp with hp | hp
        · exact HX.out.2 p hp
        · rw [hX3] at hp; have := HFW.out.2 p hp; omega⟩)
      have K := Lib.hid (And.intro hO5 (And.intro hOb5 k5))
      have h5r := Nat.le_trans h3r (Nat.le_trans hs3 hs5)
      clear hown1 hgrow1 ho3 hx3 hO hO3 hb3 hX3 hO5 hOb5 k5 k3 hOb hat1 hs5
      go_wp2_with fail
      go_roundw
      case rel => exact ⟨m + 1, A5, c5, ks ++ xs, by omega, by go_num, by rw [List.length_append], HX5, K.out.1, K.out.2.1, HBL5, h5r, K.out.2.2⟩
      case measure => simp [intOf]; omega
    · obtain rfl : m = N + 1 := by omega
      have d1 : decide (((N + 1 : Nat) : Int) ≤ (N : Int)) = false := decide_eq_false (by omega)
      have d2 : decide ((N : Int) + 1 ≤ (N : Int)) = false := decide_eq_false (by omega)
      have HO := Lib.hid (l1Once_any wr q A c bs 8 (by omega) k3.cur)
      clear hOb HBL
      go_wp2_with fail
      (with_reducible refine HO.out.mono ?_)
      rintro e w4 ⟨b, rfl, k4⟩
      have hO4 := (hO.drawn k4 hq2).wider (hi' := w4.heap.size) (Nat.le_refl _) k4.span.size
      have h24 : w2.heap.size ≤ w4.heap.size := by have := k4.span.size; omega
      have k4 := k3.trans k4
      have hs4 := k4.span.size
      clear HO hO k3
      rcases b with _ | _
      · obtain ⟨Az, cz, zs, hAz, hcz, hzs⟩ : ∃ Az cz zs, Az = A2 ∧ cz = c2 ∧ zs = ks := ⟨_, _, _, rfl, rfl, rfl⟩
        subst hAz hcz hzs
        have hOz := hO4
        have kz := k4
        have HZ := Lib.hid (show (zs.map Row.xs).length ≤ 15626 ∧ ∀ p ∈ zs.map Row.xs, p.length ≤ 9 from ⟨by rw [List.length_map]; omega, HX.out.2⟩)
        clear hO4 k4 HX
        have HO := Lib.hid (l1Once_any w4 q A c bs 12 (by omega) kz.cur)
        go_wp2_with fail
        (with_reducible refine HO.out.mono ?_)
        rintro e wy ⟨b, rfl, ky⟩
        have hOy := (hOz.drawn ky hq2).wider (hi' := wy.heap.size) (Nat.le_refl _) ky.span.size
        have ky := kz.trans ky
        obtain ⟨t, ht⟩ : ∃ y : Int, (if b = true then (1 : Int) else 0) = y := ⟨_, rfl⟩
        have htb : 0 ≤ t ∧ t ≤ 1 := by rcases b with _ | _ <;> simp at ht <;> omega
        have HB := Lib.hid (l1Bit_b b t wy ht)
        clear HO ht hOz kz
        go_wp2_with fail
        (with_reducible refine HB.out.mono ?_)
        rintro e w7 ⟨rfl, rfl⟩
        have e2 : IntKind.i64.wrap ((N : Int) - t) = (N : Int) - t := IntWalk.i64_in _ (by omega)
        have hbk := hb.trans (ky.below hq hb.size)
        go_wp2_with fail
        go_ret2
        exact ⟨Az, cz, zs, (N : Int) - t, by first | rfl | (simp only [e2]), by omega, by omega, few_inL hOy (Nat.le_refl _) (by have := few_size HZ.out.1 HZ.out.2; omega), hbk⟩
      · have HD := Lib.hid (l2Bent_any w4 q A c bs k4.cur)
        go_wp2_with fail
        (with_reducible refine HD.out.mono ?_)
        rintro e w5 ⟨D, dk, d, rfl, hp9, hod, k6⟩
        have k7 := k4.trans k6
        have hs5 := k7.span.size
        have hO6 := (hO4.drawn k6 hq2).add (r := ⟨D, dk, d⟩) hod k6.span.size (by omega)
        have hown2 := hO6.outN (n := ks.length) (by simp)
        have hol := hO6.olim (n := ks.length) (by simp)
        have HZ := Lib.hid (show ((ks ++ [(⟨D, dk, d⟩ : Row)]).map Row.xs).length ≤ 15626 ∧ ∀ p ∈ (ks ++ [(⟨D, dk, d⟩ : Row)]).map Row.xs, p.length ≤ 9 from ⟨by rw [List.length_map, List.length_append]; simp; omega, fun p hp => by
          rw [List.map_append, List.mem_append] at hp
          rcases hp with hp | hp
          · exact HX.out.2 p hp
          · rw [List.map_singleton, List.mem_singleton] at hp
            subst hp
            exact hp9⟩)
        have h25 : w2.heap.size ≤ w5.heap.size := by have := k6.span.size; omega
        clear HD hp9 hO4 hod k4 HX
        go_wp2_with (at_builtin; refine wpList_append_own _ rfl _ _ 24 rfl (w2.heap.size) 27 j0 (.slice none 0 0) 1 24 Tryz.underlying24 hj hy0 hy1 hy2 rfl (by decide) _ _ _ rfl (World.ownsRow.alloc hown2 _) ⟨w5.heap.size, 0, none⟩ 1 1 [Value.slice D d.length dk] rfl rfl (cell_one_at _ _ (by simp)) (by intro u hu; simp at hu; subst hu; rfl) (by unfold maxLen; omega) (by omega) (by simp; omega) ?_; intro v9 w9 hown9 hgrow9 _)
        obtain ⟨Az, cz, rfl, hO7, hg3⟩ := hO6.grow (Nat.le_refl _) (by simp) hown9 hgrow9
        have kz := k7.next ((Below.refl wA.heap.size w5).grown hg3 hs5 fun g hg => by have := (hol g hg).1; omega) hq1
        obtain ⟨zs, hzs⟩ : ∃ zs, zs = ks ++ [(⟨D, dk, d⟩ : Row)] := ⟨_, rfl⟩
        have hzl : ks.length + 1 = zs.length := by rw [hzs]; simp
        have hOz : Own w9 w2.heap.size w9.heap.size zs [⟨Az, cz, zs.map Row.v⟩] := by
          have h0 : (ks ++ [(⟨D, dk, d⟩ : Row)]).map Row.v = ks.map Row.v ++ [Row.v ⟨D, dk, d⟩] := by simp
          rw [hzs, h0]
          exact hO7
        rw [← hzs] at HZ
        rw [hzl]
        clear hO7 hown9 hgrow9 hg3 hO6 hown2 hol k7 hzs hzl
        have HO := Lib.hid (l1Once_any w9 q A c bs 12 (by omega) kz.cur)
        go_wp2_with fail
        (with_reducible refine HO.out.mono ?_)
        rintro e wy ⟨b, rfl, ky⟩
        have hOy := (hOz.drawn ky hq2).wider (hi' := wy.heap.size) (Nat.le_refl _) ky.span.size
        have ky := kz.trans ky
        obtain ⟨t, ht⟩ : ∃ y : Int, (if b = true then (1 : Int) else 0) = y := ⟨_, rfl⟩
        have htb : 0 ≤ t ∧ t ≤ 1 := by rcases b with _ | _ <;> simp at ht <;> omega
        have HB := Lib.hid (l1Bit_b b t wy ht)
        clear HO ht hOz kz
        go_wp2_with fail
        (with_reducible refine HB.out.mono ?_)
        rintro e w7 ⟨rfl, rfl⟩
        have e2 : IntKind.i64.wrap ((N : Int) - t) = (N : Int) - t := IntWalk.i64_in _ (by omega)
        have hbk := hb.trans (ky.below hq hb.size)
        go_wp2_with fail
        go_ret2
        exact ⟨Az, cz, zs, (N : Int) - t, by first | rfl | (simp only [e2]), by omega, by omega, few_inL hOy (Nat.le_refl _) (by have := few_size HZ.out.1 HZ.out.2; omega), hbk⟩
end Go.Proofs.YtodloeonlaljpaaGreatDoor
