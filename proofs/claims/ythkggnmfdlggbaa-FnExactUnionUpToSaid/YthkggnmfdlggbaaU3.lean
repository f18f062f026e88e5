/- basisUpTo of the program: a map of texts. -/
import Derived.Test.YthkggnmfdlggbaaU2
import Derived.Test.YthkggnmfdlggbaaM3
import Derived.Test.YthkggnmfdlggbaaT1
import Derived.Test.YthkggnmfdlggbaaR3
import Derived.Test.YthkggnmfdlggbaaG1
import Derived.Maps.OwnOps
import Derived.Maps.OwnSet
import Derived.Maps.Views
import Derived.Deep.RegionLaw
namespace Go.Proofs.Ythkggnmfdlggbaa
set_option maxRecDepth 100000
open Go Go.RowKit

theorem patL_perm {L : List Int} (hn : L.Nodup) (h8 : L.length ≤ 8) : permB (patL L) = true := by
  have hlen := patL_length L
  unfold permB
  rw [decide_eq_true_eq, hlen]
  refine ⟨h8, fun v hv => ?_, ?_⟩
  · unfold patL at hv
    obtain ⟨x, hx, rfl⟩ := List.mem_map.1 hv
    have h1 : belowN L x < L.length := by
      unfold belowN
      exact List.length_filter_lt_length_iff_exists.2 ⟨x, hx, by simp⟩
    omega
  · unfold patL List.Nodup
    rw [List.pairwise_map]
    refine List.Pairwise.imp_of_mem ?_ hn
    intro a b ha hb hab he
    rcases Int.lt_trichotomy a b with h | h | h
    · have := belowN_lt ha h; omega
    · exact hab h
    · have := belowN_lt hb h; omega
theorem cutAt_sub {xs : List Int} {i : Nat} (h : i < xs.length) : (cutAt xs i).Sublist xs := by
  have h1 := cutAt_split h
  have h2 : (xs.take i ++ xs.drop (i + 1)).Sublist (xs.take i ++ (xs[i] :: xs.drop (i + 1))) := (List.Sublist.refl _).append (List.sublist_cons_self _ _)
  rw [← h1] at h2
  exact h2
theorem lowL_perm {p : List Int} (h : permB p = true) : ∀ q ∈ lowL p, permB q = true := fun q hq => by
  have hp := permB_true h
  have h1 := (ordL_mem _ q).1 hq
  unfold lowM at h1
  obtain ⟨i, hi, rfl⟩ := List.mem_map.1 h1
  have hi := List.mem_range.1 hi
  refine patL_perm (hp.2.2.sublist (cutAt_sub hi)) ?_
  rw [cutAt_length p i hi]
  omega
theorem dig_inj {x y : Int} (hx : 1 ≤ x ∧ x ≤ 8) (hy : 1 ≤ y ∧ y ≤ 8) (h : dig x = dig y) : x = y := by
  unfold dig at h
  have h1 := congrArg UInt8.toNat h
  rw [UInt8.toNat_ofNat', UInt8.toNat_ofNat'] at h1
  omega
theorem dig_min {x : Int} (hx : 1 ≤ x ∧ x ≤ 8) : dig x ≠ 45 := by
  intro h
  unfold dig at h
  have h1 := congrArg UInt8.toNat h
  rw [UInt8.toNat_ofNat'] at h1
  have h2 : (45 : UInt8).toNat = 45 := rfl
  omega
theorem map_dig_inj : ∀ {p q : List Int}, (∀ x ∈ p, 1 ≤ x ∧ x ≤ 8) → (∀ x ∈ q, 1 ≤ x ∧ x ≤ 8) → p.map dig = q.map dig → p = q
  | [], [], _, _, _ => rfl
  | [], _ :: _, _, _, h => by simp at h
  | _ :: _, [], _, _, h => by simp at h
  | a :: s, b :: t, hp, hq, h => by
    simp only [List.map_cons, List.cons.injEq] at h
    rw [dig_inj (hp a (by simp)) (hq b (by simp)) h.1, map_dig_inj (fun x hx => hp x (by simp [hx])) (fun x hx => hq x (by simp [hx])) h.2]
theorem perm_18 {p : List Int} (h : permB p = true) : ∀ x ∈ p, 1 ≤ x ∧ x ≤ 8 := fun x hx => by
  have h1 := permB_true h
  have h2 := h1.2.1 x hx
  omega
theorem textD_inj {p q : List Int} (hp : permB p = true) (hq : permB q = true) (h : textD p = textD q) : p = q := by
  unfold textD at h
  by_cases h1 : p = []
  · by_cases h2 : q = []
    · rw [h1, h2]
    · rw [if_pos h1, if_neg h2] at h
      match q, h2, hq with
      | b :: t, _, hq =>
        simp only [List.map_cons, List.cons.injEq] at h
        exact absurd h.1.symm (dig_min (perm_18 hq b (by simp)))
  · by_cases h2 : q = []
    · rw [if_neg h1, if_pos h2] at h
      match p, h1, hp with
      | b :: t, _, hp =>
        simp only [List.map_cons, List.cons.injEq] at h
        exact absurd h.1 (dig_min (perm_18 hp b (by simp)))
    · rw [if_neg h1, if_neg h2] at h
      exact map_dig_inj (perm_18 hp) (perm_18 hq) h
theorem ptext_key {p : List Int} (h : permB p = true) : (ptext p).data.toList = textD p := by
  unfold ptext
  rw [if_pos h]
  rfl
theorem ptext_size {p : List Int} (h : permB p = true) : (ptext p).size ≤ maxLen := by
  unfold ptext
  rw [if_pos h, bs_size]
  have h8 := (permB_true h).1
  unfold textD maxLen
  split
  · simp
  · simp; omega
/-- The keys: the empty permutation's, and those of a list. -/
def keysL (L : List (List Int)) : List (List UInt8) := textD [] :: L.map textD
theorem keysL_mem {L : List (List Int)} {p : List Int} (hL : ∀ q ∈ L, permB q = true) (hp : permB p = true) : textD p ∈ keysL L ↔ p.length = 0 ∨ p ∈ L := by
  unfold keysL
  rw [List.mem_cons, List.mem_map]
  constructor
  · rintro (h | ⟨q, hq, h⟩)
    · left
      rw [textD_inj hp (by decide) h]; rfl
    · right
      rwa [← textD_inj (hL q hq) hp h]
  · rintro (h | h)
    · left
      rw [List.eq_nil_of_length_eq_zero h]
    · exact .inr ⟨p, h, rfl⟩
def mapD (acc : List (List UInt8)) : DataW Unit := acc.foldl (fun m x => m.put (.string x) (.lit (.bool true))) (.map [])
theorem keyLit (k : List UInt8) : WideAt.IsKeyLit (.string k) := trivial
theorem atKey_fold (k : List UInt8) (u z : DataW Unit) : ∀ (acc : List (List UInt8)) (m : DataW Unit), Maps.IsMap m → (acc.foldl (fun m x => m.put (.string x) u) m).atKey (.string k) z = if k ∈ acc then u else m.atKey (.string k) z
  | [], m, _ => by simp
  | x :: t, m, hm => by
    rw [List.foldl_cons, atKey_fold k u z t _ (hm.put (.string x) u)]
    by_cases ht : k ∈ t
    · rw [if_pos ht, if_pos (List.mem_cons_of_mem _ ht)]
    · rw [if_neg ht]
      by_cases hx : k = x
      · subst hx
        rw [if_pos (by simp), Maps.atKey_put_same hm (keyLit k)]
      · rw [if_neg (by simp [hx, ht]), Maps.atKey_put_other (fun e => hx (by injection e))]
theorem mapD_at (acc : List (List UInt8)) (k : List UInt8) : (mapD acc).atKey (.string k) (.lit (.bool false)) = .lit (.bool (decide (k ∈ acc))) := by
  unfold mapD
  rw [atKey_fold k _ _ acc _ Maps.isMap_empty]
  by_cases h : k ∈ acc
  · rw [if_pos h, decide_eq_true h]
  · rw [if_neg h, decide_eq_false h]; rfl
theorem mapD_snoc (acc : List (List UInt8)) (k : List UInt8) : mapD (acc ++ [k]) = (mapD acc).put (.string k) (.lit (.bool true)) := by unfold mapD; rw [List.foldl_append]; rfl
theorem lawS : Maps.Keyed Try.prog 9 := Maps.string_keyed Try.underlying9
theorem zeroB (w : World) : (zeroValue 4).run Try.prog w = .ok (.bool false) w := by kernel_rfl
/-- The map of texts. -/
def TMap (w : World) (b n : Nat) (acc : List (List UInt8)) : Prop := w.ownsMap (H := Unit) Try.prog 9 (plainElem Try.prog 4) b n (mapD acc)
theorem TMap.look {w : World} {b n : Nat} {acc : List (List UInt8)} (h : TMap w b n acc) {p : List Int} (hp : permB p = true) :
    (Instr.lookup 84 (.map (some b)) (.string (ptext p)) false).run Try.prog w = .ok (.bool (decide (textD p ∈ acc))) w := by
  have hkey : keyOf Try.prog 9 (.string (ptext p)) = some (.string (textD p)) := by rw [WideMaps.keyOf_string_mk Try.underlying9 (ptext_size hp), ptext_key hp]
  obtain ⟨v, ps, hrun, hv⟩ := World.ownsMap.lookup h lawS Try.underlying84 (zeroB w) (plainElem_bool Try.underlying4 false) hkey
  rw [mapD_at acc _] at hv
  rw [hrun]
  unfold plainElem at hv
  rw [Try.underlying4] at hv
  cases v <;> simp at hv
  rw [hv.1]
theorem TMap.store {w : World} {b n : Nat} {acc : List (List UInt8)} (h : TMap w b n acc) (hn : n < maxLen) {p : List Int} (hp : permB p = true) :
    ∃ w', (Instr.mapUpdate 84 (.map (some b)) (.string (ptext p)) (.bool true)).run Try.prog w = .ok () w' ∧ TMap w' b (n + 1) (acc ++ [textD p]) ∧ w.grownBy w' (some b) := by
  have hkey : keyOf Try.prog 9 (.string (ptext p)) = some (.string (textD p)) := by rw [WideMaps.keyOf_string_mk Try.underlying9 (ptext_size hp), ptext_key hp]
  obtain ⟨w', hrun, h1, h2⟩ := World.ownsMap.update h lawS Try.underlying84 hn hkey (plainElem_bool Try.underlying4 true)
  exact ⟨w', hrun, by unfold TMap; rw [mapD_snoc]; exact h1, h2⟩
theorem TMap.below {w w' : World} {b n : Nat} {acc : List (List UInt8)} (h : TMap w b n acc) (hb : Below w.heap.size w w') : TMap w' b n acc := World.ownsMap.kept h (below_grown hb (row := none)) (by simp)
theorem TMap.dr {w w' : World} {b n : Nat} {acc : List (List UInt8)} (h : TMap w b n acc) (hd : Dr w w') : TMap w' b n acc := by obtain ⟨q, rfl⟩ := hd; exact h
theorem TMap.grown {w w' : World} {b n : Nat} {acc : List (List UInt8)} {row : Option Nat} (h : TMap w b n acc) (hg : w.grownBy w' row) (hne : some b ≠ row) : TMap w' b n acc := World.ownsMap.kept h hg hne
theorem ptext_nil : ptext [] = { data := #[45] } := by decide
theorem call_bu (args : Array Value) (w : World) : (callFunc 103 args).run Try.prog w = .ok (.enter 103 args) w := by kernel_rfl
set_option maxHeartbeats 1000000 in
/-- The closure: is a text not in the map? -/
theorem bu_cl (A : Option Addr) (c g b n : Nat) (acc : List (List UInt8)) (p : List Int) (w : World) (h : In w A c p) (hp : permB p = true) (hm : TMap w b n acc) (hg : w.cell? ⟨g, 0, none⟩ = some (.map (some b))) (hgl : g < w.heap.size) :
    Calls Try.prog 103 #[.slice A p.length c, .pointer (some ⟨g, 0, none⟩)] w (Rb w (.bool (!decide (textD p ∈ acc)))) := by
  have HM := Lib.hid hm
  have HC := Lib.hid (fun (W : World) (hd : W = w.drew) => by subst hd; exact permText_impl A c p w.drew (h.dr (Dr.refl _).drew))
  have hgd : w.drew.cell? ⟨g, 0, none⟩ = some (.map (some b)) := hg
  have hsz : w.heap.size = w.drew.heap.size := rfl
  clear hm
  go_enter Try.func103, Try.ntmps103
  go_wp2_with fail
  go_region_held3 (fun v => v.cell? ⟨g, 0, none⟩ = some (.map (some b))) (first | exact hgd | exact hgq | exact hg | fail)
    ((first
      | (go_at_call 101
         refine Calls.mono (HC.out _ (by first | rfl | fail)) ?_
         rintro e wq ⟨rfl, hbq⟩
         have hq : TMap wq b n acc := (HM.out.dr (Dr.refl _).drew).below hbq
         have hrun := hq.look hp
         have hgq : wq.cell? ⟨g, 0, none⟩ = some (.map (some b)) := (hbq.cell (p := ⟨g, 0, none⟩) (by show g < w.drew.heap.size; rw [← hsz]; exact hgl)).trans hgd)
      | fail))
  all_goals
    go_wp2_with fail
    go_ret
    exact ⟨rfl, below_dr (Below.refl _ _) (Dr.refl _).drew |>.trans hbq⟩
set_option maxHeartbeats 8000000 in
theorem basisUpToI (A : Option Addr) (c : Nat) (qs : List Row) (N : Nat) (w : World) (h : InL w A c qs) (hP : ∀ r ∈ qs, permB r.xs = true) (hN : N ≤ 6) :
    Calls Try.prog 76 #[.slice A qs.length c, .int .i64 N] w (RetL w (bupL (qs.map Row.xs) N)) := by
  obtain ⟨j0, hj, hy0, hy1, hy2⟩ := info_parts infoL
  have hmf : ∀ (fn : Fn) (first cap : Array Value) (w : World), (Instr.makeFunc fn first cap).run Try.prog w = .ok (.func fn first cap) w := fun _ _ _ _ => rfl
  have hmm := @run_makeMap Try.prog
  have hqlen := h.len
  have HP := Lib.hid hP
  have hT0 : TMap (w.alloc (.map #[] 0)) w.heap.size 0 [] := World.ownsMap_made _ _ _ _
  obtain ⟨wm, hrun, hT, hgm⟩ := hT0.store (by unfold maxLen; omega) (p := []) (by decide)
  rw [ptext_nil] at hrun
  have hbm : Below w.heap.size w wm := ((Below.refl w.heap.size w).alloc (Nat.le_refl _) (.map #[] 0)).grown hgm (by simp) (fun g hg => by injection hg with hg; omega)
  have hszm : w.heap.size + 1 ≤ wm.heap.size := by have := hgm.size; simp at this; exact this
  clear hP hT0 hgm
  go_enter Try.func76, Try.ntmps76
  go_wp2_with fail
  -- LOOPS
  obtain ⟨G, hG⟩ : ∃ G, G = wm.heap.size := ⟨_, rfl⟩
  have og0 := obj_new wm (Obj.cells #[Value.map (some w.heap.size)] 84)
  have hb1 := hbm.alloc (by omega) (Obj.cells #[Value.map (some w.heap.size)] 84)
  have hT1 := hT.below ((Below.refl wm.heap.size wm).alloc (Nat.le_refl _) (Obj.cells #[Value.map (some w.heap.size)] 84))
  have hz1 : (wm.alloc (Obj.cells #[Value.map (some w.heap.size)] 84)).heap.size = wm.heap.size + 1 := by simp
  generalize (wm.alloc (Obj.cells #[Value.map (some w.heap.size)] 84)) = w1 at og0 hb1 hT1 hz1 ⊢
  rw [← hG] at og0 hz1 hszm ⊢
  clear hrun hT hbm hG
  go_loopw [16] (fun i wr => ∃ k : Nat, k ≤ qs.length ∧ i = .int .i64 k ∧ TMap wr w.heap.size (k + 1) (keysL ((qs.map Row.xs).take k)) ∧ wr.heap[G]? = some (Obj.cells #[Value.map (some w.heap.size)] 84) ∧ Below w.heap.size w wr ∧ G + 1 ≤ wr.heap.size) (fun i _ => qs.length - (intOf i).toNat)
  case atStart => exact ⟨0, Nat.zero_le _, rfl, hT1, og0, hb1, by omega⟩
  case round =>
    clear hT1 og0 hb1 hz1
    obtain ⟨k, hk, rfl, hT, og, hb, hGs⟩ := hrel
    have fg : wr.cell? ⟨G, 0, none⟩ = some (.map (some w.heap.size)) := (obj_cell og).trans rfl
    rcases Nat.lt_or_ge k qs.length with hlt | hge
    · obtain ⟨bq, off, rfl, _, hc⟩ := (h.next hb).read.at (by omega)
      have cc := hc k hlt
      obtain ⟨r, hr⟩ : ∃ r : Row, r = qs[k] := ⟨_, rfl⟩
      rw [← hr] at cc
      have hmem : r ∈ qs := by rw [hr]; exact List.getElem_mem hlt
      have hin := (h.next hb).row hmem
      have HPR := Lib.hid (HP.out r hmem)
      have HA := Lib.hid (show keysL ((qs.map Row.xs).take (k + 1)) = keysL ((qs.map Row.xs).take k) ++ [textD r.xs] by
        unfold keysL
        rw [List.take_succ_eq_append_getElem (by simpa using hlt), List.map_append]
        simp [hr])
      have HC := Lib.hid (fun (W : World) (hd : W = wr.drew) => by subst hd; exact permText_impl r.A r.c r.xs wr.drew (hin.dr (Dr.refl _).drew))
      have HT := Lib.hid hT
      have hgd : wr.drew.cell? ⟨G, 0, none⟩ = some (.map (some w.heap.size)) := fg
      have HSZ := Lib.hid (show wr.heap.size = wr.drew.heap.size from rfl)
      have HB := Lib.hid hb
      have HOG := Lib.hid og
      have hgw : w.heap.size < G := by omega
      have hkm : k + 1 < maxLen := by unfold maxLen; omega
      clear hc hr hmem hin hT hb og
      go_wp2_with fail
      go_region_held3 (fun v => v.cell? ⟨G, 0, none⟩ = some (.map (some w.heap.size))) (first | exact hgd | exact hgq | exact hgu | fail)
        ((first
          | (go_at_call 101
             refine Calls.mono (HC.out _ (by first | rfl | fail)) ?_
             rintro e wq ⟨rfl, hbq⟩
             have hq := (HT.out.dr (Dr.refl _).drew).below hbq
             have oq := obj_below (show wr.drew.heap[G]? = _ from HOG.out) hbq (by show G < wr.heap.size; omega)
             have hgq : wq.cell? ⟨G, 0, none⟩ = some (.map (some w.heap.size)) := (obj_cell oq).trans rfl
             obtain ⟨wu, hrun, hTu, hgu0⟩ := hq.store hkm HPR.out
             have ou := (hgu0.block G (obj_lt oq) (by intro he; injection he with he; omega)).trans oq
             have hgu : wu.cell? ⟨G, 0, none⟩ = some (.map (some w.heap.size)) := (obj_cell ou).trans rfl
             have hbu : Below w.heap.size w wu := ((below_dr HB.out (Dr.refl _).drew).trans (hbq.mono HB.out.size)).grown hgu0 (by have h1 := hbq.size; have h2 := HB.out.size; have h3 := HSZ.out; omega) (fun q hq => by injection hq with hq; omega)
             have hsu : G + 1 ≤ wu.heap.size := by have h1 := hbq.size; have h2 := hgu0.size; have h3 := HSZ.out; omega
             have K := Lib.hid (And.intro hTu (And.intro ou (And.intro hbu hsu))))
          | fail))
      all_goals
        go_wp2_with fail
        go_roundw
        case rel => exact ⟨k + 1, by omega, by go_num, by rw [HA.out]; exact K.out.1, K.out.2.1, K.out.2.2.1, K.out.2.2.2⟩
        case measure => simp [intOf]; omega
    · obtain rfl : k = qs.length := by omega
      rw [List.take_of_length_le (by simp)] at hT
      obtain ⟨nT, hnT⟩ : ∃ nT, nT = qs.length + 1 := ⟨_, rfl⟩
      rw [← hnT] at hT
      have hlit := Own.lit (lo := w.heap.size) wr hb.size
      have hbl := (Below.refl wr.heap.size wr).alloc (Nat.le_refl _) (.cells #[] 22)
      have hT2 := hT.below hbl
      have og2 := obj_alloc og (.cells #[] 22)
      have hb2 := hb.alloc hb.size (.cells #[] 22)
      have hG2 : G + 1 ≤ (wr.alloc (.cells #[] 22)).heap.size := by simp; omega
      have HACC := Lib.hid (fun (p : List Int) (hp : permB p = true) => keysL_mem (L := qs.map Row.xs) (p := p) (fun q hq => by obtain ⟨r, hr, rfl⟩ := List.mem_map.1 hq; exact HP.out r hr) hp)
      obtain ⟨acc, hacc⟩ : ∃ acc, acc = keysL (qs.map Row.xs) := ⟨_, rfl⟩
      rw [← hacc] at hT2 HACC
      clear hT hbl og hb hnT fg hacc
      go_wp2_with fail
      go_loopw [8, 9] (fun v i wr => ∃ (m : Nat) (A2 : Option Addr) (c2 : Nat) (kept : List Row), m ≤ N ∧ i = .int .i64 ((m : Int) + 1) ∧ v = .slice A2 kept.length c2 ∧ Hid (kept.map Row.xs = bupL (qs.map Row.xs) m) ∧ Own wr w.heap.size wr.heap.size kept [⟨A2, c2, kept.map Row.v⟩] ∧
        TMap wr w.heap.size nT acc ∧ wr.heap[G]? = some (Obj.cells #[Value.map (some w.heap.size)] 84) ∧ Below w.heap.size w wr ∧ G + 1 ≤ wr.heap.size) (fun _ i _ => N + 1 - (intOf i).toNat)
      case atStart => exact ⟨0, _, _, [], Nat.zero_le _, rfl, rfl, Lib.hid rfl, hlit, hT2, og2, hb2, hG2⟩
      case round =>
        clear hlit hT2 og2 hb2 hG2
        obtain ⟨m, A2, c2, kept, hm, rfl, rfl, HX, hO, hT, og, hb, hGs⟩ := hrel
        have hkl : kept.length ≤ 50069 := by
          have h1 := congrArg List.length HX.out
          have h2 := bupL_le (qs.map Row.xs) m (by omega)
          rw [List.length_map] at h1
          omega
        have hsz := hb.size
        rcases Nat.lt_or_ge m N with hlt | hge
        · have d1 : decide ((m : Int) + 1 ≤ (N : Int)) = true := decide_eq_true (by omega)
          obtain ⟨wo, rfl⟩ : ∃ wo : World, wo = wr := ⟨_, rfl⟩
          have HPC := Lib.hid (show Calls Try.prog 78 #[.int .i64 ((m : Int) + 1)] wo (RetL wo (permsL (m + 1))) from perms_impl (m + 1) wo (by omega))
          go_wp2_with fail
          (with_reducible refine HPC.out.mono ?_)
          rintro e w2 ⟨A1, c1, rs, rfl, hX, hOr, hb2⟩
          have hbw2 := hb.trans (hb2.mono hsz)
          have hs2 := hb2.size
          have hlen : rs.length ≤ 46656 := by have h1 := permsL_le7 (m := m) (by omega); rw [← hX, List.length_map] at h1; exact h1
          have HXR := Lib.hid hX
          have HPL := Lib.hid (show ∀ r ∈ kept, ∀ g, r.v.ownBlock = some g → g < wo.heap.size from hO.lt)
          have hO2 := (hO.below hb2).wider (Nat.le_refl _) hs2
          have hS2 : Sift w2 w.heap.size wo.heap.size w2.heap.size rs ⟨A1, c1, rs.map Row.v⟩ A2 c2 (kept.map Row.v) :=
            ⟨hOr, own_below hO.out hb2, fun g hg => .inl (hO.out.lt g hg).2⟩
          have hT2 := hT.below hb2
          have og2 := obj_below og hb2 (by omega)
          clear hX hOr hb2 hO hb hT og
          go_wp2_with fail
          go_loopw [8, 33] (fun v i wr => ∃ (j : Nat) (A2 : Option Addr) (c2 : Nat) (vs : List Value), j ≤ rs.length ∧ i = .int .i64 j ∧ v = .slice A2 vs.length c2 ∧ Hid (vs = (kept ++ keptR (bupK (qs.map Row.xs)) rs j).map Row.v) ∧
            Own wr w.heap.size wr.heap.size kept [⟨A2, c2, vs⟩] ∧ Sift wr w.heap.size wo.heap.size w2.heap.size rs ⟨A1, c1, rs.map Row.v⟩ A2 c2 vs ∧
            TMap wr w.heap.size nT acc ∧ wr.heap[G]? = some (Obj.cells #[Value.map (some w.heap.size)] 84) ∧ Below w.heap.size w wr ∧ w2.heap.size ≤ wr.heap.size) (fun _ i _ => rs.length - (intOf i).toNat)
          case atStart => exact ⟨0, A2, c2, kept.map Row.v, Nat.zero_le _, rfl, by rw [List.length_map], Lib.hid (by simp [keptR]), hO2, hS2, hT2, og2, hbw2, Nat.le_refl _⟩
          case round =>
            clear hO2 hS2 hbw2 hT2 og2
            obtain ⟨j, A2, c2, vs, hjl, rfl, rfl, HV, hO, hS, hT, og, hb, hsw⟩ := hrel
            have hvl : vs.length ≤ 100000 := by
              have h1 := keptR_le (bupK (qs.map Row.xs)) rs j
              have h2 := congrArg List.length HV.out
              rw [List.length_map, List.length_append] at h2
              omega
            rcases Nat.lt_or_ge j rs.length with hltj | hgej
            · obtain ⟨p, hp⟩ : ∃ p : Row, p = rs[j] := ⟨_, rfl⟩
              have hpm : p ∈ rs := by rw [hp]; exact List.getElem_mem hltj
              have hRd := hS.rows.read
              obtain ⟨bk, off, rfl, hbk, hc⟩ := hRd.at (by omega)
              have cc : wr.cell? ⟨bk, off + j, none⟩ = some (Value.slice p.A p.xs.length p.c) := by rw [hp]; exact hc j hltj
              have hpx := permsL_perm (n := m + 1) (by omega) (map_memX HXR.out hpm)
              have hl8 : p.xs.length ≤ 8 := by have := hpx.2; omega
              have HPB := Lib.hid hpx.1
              have hin := row_in hRd hpm (by omega) hsw
              have HK := Lib.hid (show keptR (bupK (qs.map Row.xs)) rs (j + 1) = if bupK (qs.map Row.xs) p.xs = true then keptR (bupK (qs.map Row.xs)) rs j ++ [p] else keptR (bupK (qs.map Row.xs)) rs j by rw [keptR_succ _ rs j hltj, ← hp])
              have fg : wr.cell? ⟨G, 0, none⟩ = some (.map (some w.heap.size)) := (obj_cell og).trans rfl
              have hgd : wr.drew.cell? ⟨G, 0, none⟩ = some (.map (some w.heap.size)) := fg
              have HC := Lib.hid (fun (W : World) (hd : W = wr.drew) => by subst hd; exact permText_impl p.A p.c p.xs wr.drew (hin.dr (Dr.refl _).drew))
              have HIN := Lib.hid (hin.dr (Dr.refl _).drew)
              have HT := Lib.hid hT
              have HB := Lib.hid hb
              have HOG := Lib.hid og
              have HSZ := Lib.hid (show wr.heap.size = wr.drew.heap.size from rfl)
              have HO := Lib.hid hO
              have HS := Lib.hid hS
              have hmm2 : decide (textD p.xs ∈ acc) = decide (p.xs ∈ qs.map Row.xs) := decide_eq_decide.2 ((HACC.out p.xs hpx.1).trans ⟨fun h => h.resolve_left (by have := hpx.2; omega), .inr⟩)
              have HLP := Lib.hid (lowL_perm hpx.1)
              have HLA := Lib.hid (show ∀ lw : List Row, lw.map Row.xs = lowL p.xs → (lw.any fun r : Row => !decide (textD r.xs ∈ acc)) = !((lowL p.xs).all (bupP (qs.map Row.xs))) from fun lw hlw => by
                rw [← hlw, List.all_map, Bool.eq_iff_iff, List.any_eq_true, Bool.not_eq_true', List.all_eq_false]
                constructor
                · rintro ⟨r, hr, hx⟩
                  refine ⟨r, hr, ?_⟩
                  have h1 := HACC.out r.xs (lowL_perm hpx.1 r.xs (map_memX hlw hr))
                  simp only [Bool.not_eq_true', decide_eq_false_iff_not] at hx
                  simp only [Function.comp, bupP, Bool.or_eq_true, decide_eq_true_eq]
                  exact fun h => hx (h1.2 h)
                · rintro ⟨r, hr, hx⟩
                  refine ⟨r, hr, ?_⟩
                  have h1 := HACC.out r.xs (lowL_perm hpx.1 r.xs (map_memX hlw hr))
                  simp only [Function.comp, bupP, Bool.or_eq_true, decide_eq_true_eq] at hx
                  simp only [Bool.not_eq_true', decide_eq_false_iff_not]
                  exact fun h => hx (h1.1 h))
              by_cases hIN : p.xs ∈ qs.map Row.xs
              · have HB0 := Lib.hid (show decide (textD p.xs ∈ acc) = true by rw [hmm2]; exact decide_eq_true hIN)
                have HT2 := Lib.hid (show keptR (bupK (qs.map Row.xs)) rs (j + 1) = keptR (bupK (qs.map Row.xs)) rs j by rw [HK.out, if_neg]; unfold bupK; rw [decide_eq_true hIN]; simp)
                clear hc hp hRd hpx hin hT hb og hO hS hmm2 hIN hpm
                go_wp2_with fail
                refine wp_region_held_drew (S := (fun v => v.cell? ⟨G, 0, none⟩ = some (.map (some w.heap.size)))) (by kernel_rfl) hgd (fun hHeld => ?_)
                refine wpAnyH_take (i := 0) (oi := _) (v := ?_) rfl (by kernel_rfl) (by kernel_rfl) (by kernel_rfl) (fun _ _ _ h => h) (Or.inl ⟨by rfl, ?_⟩) (by assumption) ?_
                rotate_left
                · intro w hSw
                  try dsimp only at hSw
                  go_simp
                  all_goals with_reducible rfl
                try simp only [Act.put, List.setIfInBounds_toArray, List.set_cons_zero, List.set_cons_succ, List.getElem_toArray, List.getElem_cons_zero]
                refine wpAnyH_take (i := 1) (oi := _) (v := ?_) rfl (by kernel_rfl) (by kernel_rfl) (by kernel_rfl) (fun _ _ _ h => h) (Or.inl ⟨by rfl, ?_⟩) (by assumption) ?_
                rotate_left
                · intro w hSw
                  try dsimp only at hSw
                  go_simp
                  all_goals with_reducible rfl
                try simp only [Act.put, List.setIfInBounds_toArray, List.set_cons_zero, List.set_cons_succ, List.getElem_toArray, List.getElem_cons_succ, List.getElem_cons_zero]
                refine wpAnyH_ready (rs := [2]) (by kernel_rfl) (by simp) ?_
                refine AllReadyH.cons (o := _) rfl (fun K hK => ?_) AllReadyH.nil
                go_simp
                refine Calls.mono (HC.out _ (by first | rfl | fail)) ?_
                rintro e wq ⟨rfl, hbq⟩
                have hq := (HT.out.dr (Dr.refl _).drew).below hbq
                have oq := obj_below (show wr.drew.heap[G]? = _ from HOG.out) hbq (by show G < wr.heap.size; omega)
                have hgq : wq.cell? ⟨G, 0, none⟩ = some (.map (some w.heap.size)) := (obj_cell oq).trans rfl
                have hrun := hq.look HPB.out
                rw [HB0.out] at hrun
                have hbu : Below w.heap.size w wq := (below_dr HB.out (Dr.refl _).drew).trans (hbq.mono HB.out.size)
                have hO5 := ((HO.out.dr (Dr.refl _).drew).below hbq).wider (Nat.le_refl _) hbq.size
                have hS5 := (HS.out.dr (Dr.refl _).drew).below hbq
                have hs5 : w2.heap.size ≤ wq.heap.size := by have h1 := hbq.size; have h3 := HSZ.out; omega
                have KK := Lib.hid (And.intro hO5 (And.intro hS5 (And.intro hq (And.intro oq (And.intro hbu hs5)))))
                go_wp2_with fail
                refine hK.out _ _ (hgq) (fun hHeld => ?_)
                clear hK K
                try simp only [Act.put, List.setIfInBounds_toArray, List.set_cons_zero, List.set_cons_succ, List.getElem_toArray, List.getElem_cons_succ, List.getElem_cons_zero]
                refine wpAnyH_ready (rs := [3]) (by kernel_rfl) (by simp) ?_
                refine AllReadyH.cons (o := _) rfl (fun K hK => ?_) AllReadyH.nil
                go_simp
                refine hK.out _ _ (hgq) (fun hHeld => ?_)
                clear hK K
                try simp only [Act.put, List.setIfInBounds_toArray, List.set_cons_zero, List.set_cons_succ, List.getElem_toArray, List.getElem_cons_succ, List.getElem_cons_zero]
                refine wpAnyH_take (i := 4) (oi := _) (v := ?_) rfl (by kernel_rfl) (by kernel_rfl) (by kernel_rfl) (fun _ _ _ h => h) (Or.inl ⟨by rfl, ?_⟩) (by assumption) ?_
                rotate_left
                · intro w hSw
                  try dsimp only at hSw
                  go_simp
                  all_goals with_reducible rfl
                try simp only [Act.put, List.setIfInBounds_toArray, List.set_cons_zero, List.set_cons_succ, List.getElem_toArray, List.getElem_cons_succ, List.getElem_cons_zero]
                refine wpAnyH_take (i := 5) (oi := _) (v := ?_) rfl (by kernel_rfl) (by kernel_rfl) (by kernel_rfl) (fun _ _ _ h => h) (Or.inl ⟨by rfl, ?_⟩) (by assumption) ?_
                rotate_left
                · intro w hSw
                  try dsimp only at hSw
                  go_simp
                  all_goals with_reducible rfl
                try simp only [Act.put, List.setIfInBounds_toArray, List.set_cons_zero, List.set_cons_succ, List.getElem_toArray, List.getElem_cons_succ, List.getElem_cons_zero]
                refine wpAnyH_take (i := 6) (oi := _) (v := undef) rfl (by kernel_rfl) (by kernel_rfl) (by kernel_rfl) (fun _ _ _ h => h) (Or.inr ⟨by rfl, rfl⟩) (by assumption) ?_
                try simp only [Act.put, List.setIfInBounds_toArray, List.set_cons_zero, List.set_cons_succ, List.getElem_toArray, List.getElem_cons_succ, List.getElem_cons_zero]
                refine wpAnyH_take (i := 7) (oi := _) (v := undef) rfl (by kernel_rfl) (by kernel_rfl) (by kernel_rfl) (fun _ _ _ h => h) (Or.inr ⟨by rfl, rfl⟩) (by assumption) ?_
                try simp only [Act.put, List.setIfInBounds_toArray, List.set_cons_zero, List.set_cons_succ, List.getElem_toArray, List.getElem_cons_succ, List.getElem_cons_zero]
                refine wpAnyH_take (i := 8) (oi := _) (v := undef) rfl (by kernel_rfl) (by kernel_rfl) (by kernel_rfl) (fun _ _ _ h => h) (Or.inr ⟨by rfl, rfl⟩) (by assumption) ?_
                try simp only [Act.put, List.setIfInBounds_toArray, List.set_cons_zero, List.set_cons_succ, List.getElem_toArray, List.getElem_cons_succ, List.getElem_cons_zero]
                refine wpAnyH_take (i := 9) (oi := _) (v := undef) rfl (by kernel_rfl) (by kernel_rfl) (by kernel_rfl) (fun _ _ _ h => h) (Or.inr ⟨by rfl, rfl⟩) (by assumption) ?_
                try simp only [Act.put, List.setIfInBounds_toArray, List.set_cons_zero, List.set_cons_succ, List.getElem_toArray, List.getElem_cons_succ, List.getElem_cons_zero]
                refine wpAnyH_take (i := 10) (oi := _) (v := undef) rfl (by kernel_rfl) (by kernel_rfl) (by kernel_rfl) (fun _ _ _ h => h) (Or.inr ⟨by rfl, rfl⟩) (by assumption) ?_
                try simp only [Act.put, List.setIfInBounds_toArray, List.set_cons_zero, List.set_cons_succ, List.getElem_toArray, List.getElem_cons_succ, List.getElem_cons_zero]
                refine wpAnyH_take (i := 11) (oi := _) (v := ?_) rfl (by kernel_rfl) (by kernel_rfl) (by kernel_rfl) (fun _ _ _ h => h) (Or.inl ⟨by rfl, ?_⟩) (by assumption) ?_
                rotate_left
                · intro w hSw
                  try dsimp only at hSw
                  go_simp
                  all_goals with_reducible rfl
                try simp only [Act.put, List.setIfInBounds_toArray, List.set_cons_zero, List.set_cons_succ, List.getElem_toArray, List.getElem_cons_succ, List.getElem_cons_zero]
                refine wpAnyH_done (by kernel_rfl) ?_ _
                go_wp2_with fail
                go_roundw
                case rel => exact ⟨j + 1, A2, c2, vs, by omega, by go_num, rfl, Lib.hid (by rw [HT2.out, HV.out]), KK.out.1, KK.out.2.1, KK.out.2.2.1, KK.out.2.2.2.1, KK.out.2.2.2.2.1, KK.out.2.2.2.2.2⟩
                case measure => simp [intOf]; omega
              · have HB0 := Lib.hid (show decide (textD p.xs ∈ acc) = false by rw [hmm2]; exact decide_eq_false hIN)
                obtain ⟨b1, hb1⟩ : ∃ b1 : Bool, (!((lowL p.xs).all (bupP (qs.map Row.xs)))) = b1 := ⟨_, rfl⟩
                have HKB := Lib.hid (show bupK (qs.map Row.xs) p.xs = !b1 by unfold bupK; rw [decide_eq_false hIN, ← hb1]; simp)
                have HB1 := Lib.hid hb1
                clear hc hp hRd hpx hin hT hb og hO hS hmm2 hIN hb1 hpm
                go_wp2_with fail
                go_region_held3 (fun v => v.cell? ⟨G, 0, none⟩ = some (.map (some w.heap.size))) (first | exact hgd | exact hgz | exact hgl | exact hgq | fail)
                  ((first
                    | (go_at_call 101
                       refine Calls.mono (HC.out _ (by first | rfl | fail)) ?_
                       rintro e wq ⟨rfl, hbq⟩
                       have hq := (HT.out.dr (Dr.refl _).drew).below hbq
                       have oq := obj_below (show wr.drew.heap[G]? = _ from HOG.out) hbq (by show G < wr.heap.size; omega)
                       have hgq : wq.cell? ⟨G, 0, none⟩ = some (.map (some w.heap.size)) := (obj_cell oq).trans rfl
                       have hrun := hq.look HPB.out
                       rw [HB0.out] at hrun
                       have hbu : Below w.heap.size w wq := (below_dr HB.out (Dr.refl _).drew).trans (hbq.mono HB.out.size)
                       have hO5 := ((HO.out.dr (Dr.refl _).drew).below hbq).wider (Nat.le_refl _) hbq.size
                       have hS5 := (HS.out.dr (Dr.refl _).drew).below hbq
                       have hs5 : w2.heap.size ≤ wq.heap.size := by have h1 := hbq.size; have h3 := HSZ.out; omega
                       have Kq := Lib.hid (And.intro hO5 (And.intro hS5 (And.intro hq (And.intro oq (And.intro hbu hs5)))))
                       have HLC := Lib.hid (lowers_impl p.A p.c p.xs wq (HIN.out.next hbq) hl8)
                       clear hO5 hS5 hq oq hbu hs5 hbq)
                    | (go_at_call 102
                       refine Calls.mono HLC.out ?_
                       rintro e wl ⟨A6, c6, lw, rfl, hXl, hOl, hbl⟩
                       have hq := Kq.out.2.2.1.below hbl
                       have oq := obj_below Kq.out.2.2.2.1 hbl (obj_lt Kq.out.2.2.2.1)
                       have hgl : wl.cell? ⟨G, 0, none⟩ = some (.map (some w.heap.size)) := (obj_cell oq).trans rfl
                       have hbu := Kq.out.2.2.2.2.1.trans (hbl.mono Kq.out.2.2.2.2.1.size)
                       have hO5 := (Kq.out.1.below hbl).wider (Nat.le_refl _) hbl.size
                       have hS5 := Kq.out.2.1.below hbl
                       have hs5 : w2.heap.size ≤ wl.heap.size := by have h1 := hbl.size; have h2 := Kq.out.2.2.2.2.2; omega
                       have HRL := Lib.hid hOl.read
                       have HXL := Lib.hid hXl
                       have hll : lw.length ≤ 8 := by have h1 := congrArg List.length hXl; have h2 := lowL_length p.xs; rw [List.length_map] at h1; omega
                       have HL8 := Lib.hid (show ∀ r ∈ lw, r.xs.length ≤ 1048576 from fun r hr => by have := lowL_len r.xs (map_memX hXl hr); omega)
                       have Kl := Lib.hid (And.intro hO5 (And.intro hS5 (And.intro hq (And.intro oq (And.intro hbu hs5)))))
                       clear hO5 hS5 hq oq hbu hs5 hbl hXl hOl)
                    | (go_at_call 62
                       refine Calls.mono (containsFuncL1 A6 c6 lw 103 G (fun q => !decide (textD q ∈ acc)) wl (by omega) HRL.out (fun args w' => call_bu args w') (fun w' q hq hbb => bu_cl _ _ G w.heap.size nT acc _ w' ((row_in HRL.out (List.getElem_mem hq) (HL8.out _ (List.getElem_mem hq)) (Nat.le_refl _)).next hbb) (HLP.out _ (map_memX HXL.out (List.getElem_mem hq))) (Kl.out.2.2.1.below hbb) ((obj_cell (obj_below Kl.out.2.2.2.1 hbb (obj_lt Kl.out.2.2.2.1))).trans rfl) (Nat.lt_of_lt_of_le (obj_lt Kl.out.2.2.2.1) hbb.size)) b1 (by rw [HLA.out lw HXL.out, HB1.out])) ?_
                       rintro e wz ⟨rfl, hbz⟩
                       have hq := Kl.out.2.2.1.below hbz
                       have oq := obj_below Kl.out.2.2.2.1 hbz (obj_lt Kl.out.2.2.2.1)
                       have hgz : wz.cell? ⟨G, 0, none⟩ = some (.map (some w.heap.size)) := (obj_cell oq).trans rfl
                       have hbu := Kl.out.2.2.2.2.1.trans (hbz.mono Kl.out.2.2.2.2.1.size)
                       have hO5 := (Kl.out.1.below hbz).wider (Nat.le_refl _) hbz.size
                       have hS5 := Kl.out.2.1.below hbz
                       have hs5 : w2.heap.size ≤ wz.heap.size := by have h1 := hbz.size; have h2 := Kl.out.2.2.2.2.2; omega
                       have K := Lib.hid (And.intro hO5 (And.intro hS5 (And.intro hq (And.intro oq (And.intro hbu hs5)))))
                       clear hO5 hS5 hq oq hbu hs5 hbz)
                    | fail))
                all_goals
                  have hbz := K.out.2.2.2.2.1
                  have hwz5 : w.heap.size ≤ wz.heap.size := hbz.size
                  have hsw5 := K.out.2.2.2.2.2
                  have hT5 := K.out.2.2.1
                  have oz := K.out.2.2.2.1
                  have hO5 := K.out.1
                  have hS5 := K.out.2.1
                  clear hgd hgq hgl hgz fg
                  cases b1 with
                  | true =>
                    have HT2 := Lib.hid (show keptR (bupK (qs.map Row.xs)) rs (j + 1) = keptR (bupK (qs.map Row.xs)) rs j by rw [HK.out, HKB.out]; rfl)
                    go_wp2_with fail
                    go_roundw
                    case rel => exact ⟨j + 1, A2, c2, vs, by omega, by go_num, rfl, Lib.hid (by rw [HT2.out, HV.out]), hO5, hS5, hT5, oz, hbz, hsw5⟩
                    case measure => simp [intOf]; omega
                  | false =>
                    have HT2 := Lib.hid (show keptR (bupK (qs.map Row.xs)) rs (j + 1) = keptR (bupK (qs.map Row.xs)) rs j ++ [p] by rw [HK.out, HKB.out]; rfl)
                    have ho2 := hS5.outN (n := vs.length) rfl
                    have hol := hS5.olim (n := vs.length) rfl
                    have HOW := Lib.hid (show ∀ q, (Value.slice A2 vs.length c2).ownBlock = some q → q ≠ G ∧ q ≠ w.heap.size from fun q hq => by
                      obtain ⟨g', cap', cur', hv', _, hcur, _⟩ := ho2.2.resolve_left (fun hn => by rw [hn.1] at hq; cases hq)
                      injection hv' with hv1 _ _
                      subst hv1
                      injection hq with hq
                      subst hq
                      constructor
                      · intro e
                        subst e
                        rw [oz] at hcur
                        injection hcur with hcur
                        injection hcur with _ h2
                        exact absurd h2 (by decide)
                      · intro e
                        subst e
                        obtain ⟨es, clock, hes, _⟩ := hT5
                        rw [hes] at hcur
                        injection hcur with hcur
                        cases hcur)
                    go_wp2_with (at_builtin; refine wpList_append_own_at _ rfl _ _ 33 rfl (w.heap.size) 22 j0 (.slice none 0 0) 1 24 Try.underlying33 hj hy0 hy1 hy2 rfl (by decide) _ _ _ rfl (World.ownsRow.alloc ho2 _) ⟨wz.heap.size, 0, none⟩ 1 1 [Value.slice p.A p.xs.length p.c] rfl rfl (cell_one_at _ _ (by simp)) (by intro u hu; simp at hu; subst hu; rfl) (by unfold maxLen; omega) (by omega) (by simp; omega) ?_; intro v9 w9 hown9 hgrow9 _ hat9)
                    obtain ⟨A5, c5, hv5, hS6, hg6⟩ := hS5.grow hsw5 rfl hown9 hgrow9 hat9
                    obtain ⟨A7, c7, hv7, hO6, _⟩ := hO5.grow (Nat.le_refl _) rfl hown9 hgrow9
                    have hE := hv5.symm.trans hv7
                    injection hE with hE1 _ hE2
                    subst hE1 hE2
                    subst hv5
                    have hb6 := hbz.grown hg6 hwz5 hol
                    have hsz6 : w2.heap.size ≤ w9.heap.size := by have := hg6.size; omega
                    have hT6 := hT5.grown hg6 (fun e => (HOW.out _ e.symm).2 rfl)
                    have o6 := (hg6.block G (obj_lt oz) (fun e => (HOW.out _ e.symm).1 rfl)).trans oz
                    have K := Lib.hid (And.intro hO6 (And.intro hS6 (And.intro hT6 (And.intro o6 (And.intro hb6 hsz6)))))
                    clear hS6 hO6 hb6 hT6 o6 hown9 hgrow9 hat9 hg6 hS5 hO5 ho2 hol hbz hT5 oz hv7 hsz6
                    go_wp2_with fail
                    go_roundw
                    case rel => exact ⟨j + 1, A5, c5, vs ++ [Value.slice p.A p.xs.length p.c], by omega, by go_num, by rw [List.length_append]; rfl, Lib.hid (by rw [HT2.out, HV.out]; simp [Row.v]), K.out.1, K.out.2.1, K.out.2.2.1, K.out.2.2.2.1, K.out.2.2.2.2.1, K.out.2.2.2.2.2⟩
                    case measure => simp [intOf]; omega
            · obtain rfl : j = rs.length := by omega
              have hfin := sift_end (kept := keptR (bupK (qs.map Row.xs)) rs rs.length) hO HPL.out hS (keptR_sub _ _) HV.out hsz hs2 hsw
              have HLE := Lib.hid (show vs.length = (kept ++ keptR (bupK (qs.map Row.xs)) rs rs.length).length by rw [HV.out, List.length_map])
              have HXN := Lib.hid (show (kept ++ keptR (bupK (qs.map Row.xs)) rs rs.length).map Row.xs = bupL (qs.map Row.xs) (m + 1) by rw [List.map_append, keptR_all, HX.out, HXR.out, bupL_succ])
              have hG9 : G + 1 ≤ wr.heap.size := obj_lt og
              have K := Lib.hid (And.intro hfin (And.intro hT (And.intro og (And.intro hb hG9))))
              clear hfin hO hS hT og hb
              go_wp2_with fail
              go_roundw
              case rel => exact ⟨m + 1, A2, c2, kept ++ keptR (bupK (qs.map Row.xs)) rs rs.length, by omega, by go_num, by rw [← HLE.out], HXN, K.out.1, K.out.2.1, K.out.2.2.1, K.out.2.2.2.1, K.out.2.2.2.2⟩
              case measure => simp [intOf]; omega
        · obtain rfl : m = N := by omega
          have d1 : decide ((m : Int) + 1 ≤ (m : Int)) = false := decide_eq_false (by omega)
          go_wp2_with fail
          go_ret
          exact ⟨A2, c2, kept, rfl, HX.out, hO, hb⟩
end Go.Proofs.Ythkggnmfdlggbaa
