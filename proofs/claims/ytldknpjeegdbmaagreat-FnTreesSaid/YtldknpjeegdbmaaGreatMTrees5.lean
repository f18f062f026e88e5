/- Several texts in one, each with its own head: Z3, V5, V1, V3, G9, D4, DM, D8, D9, Y1. No program of ours. -/
import Derived.RegionTactic
import Derived.ChangeAlike
import Derived.Deep.RegionHeld3
import Derived.Deep.AppendLies
import Derived.Lib.SliceRun
import Derived.Test.YtldknpjeegdbmaaGreatMTrees4
/- l3Put of the reference once more: the list that comes back lies where it lay or in a new block. Written by gen/genz3.py. -/
namespace Go.Proofs.YtldknpjeegdbmaaGreat
set_option maxRecDepth 100000
open Go Go.RowKit

theorem run_append_rd_atZ {P : Program} (w : World) {α : Type} {f : α → Value} (base : Nat) (t ty e : TypeId) (i : TypeInfo) (z : Value) (bytes : Nat) (ht : P.underlying t = some (.slice e)) (hi : P.info? e = some i) (hz : i.zero = some z)
    (hsize : i.size = 1) (hby : i.bytes = bytes) (hzs : z.cells.size = 1)
    (v : Value) (n : Nat) (xs : List Value) (hown : w.ownsRow base e 1 v n xs)
    (B : Nat) (A : Option Addr) (c m : Nat) (ys : List α) (hm : ys.length = m) (hr : Rd f w B A ys) (h1 : ∀ y, (f y).oneCell' = true)
    (h63 : n + m ≤ maxLen) (hbytes : (n + m) * bytes ≤ 140737488355328) (hbase : base ≤ w.heap.size) :
    ∃ v' w', (Builtin.append_ #[t, t] ty #[v, .slice A m c]).run P w = .ok v' w' ∧ w'.ownsRow base e 1 v' (n + m) (xs ++ ys.map f) ∧ w.grownBy w' v.ownBlock ∧ (v'.ownBlock = v.ownBlock ∨ v'.ownBlock = some w.heap.size) := by
  subst hm
  rcases Nat.eq_zero_or_pos ys.length with h0 | h0
  · have hy : ys = [] := List.eq_nil_of_length_eq_zero h0
    subst hy
    cases A with
    | none => exact ⟨v, w, run_append_of_nil w base t ty e i ht hi v n xs hown c, by simpa using hown, World.grownBy.refl w _, .inl rfl⟩
    | some ad =>
      obtain ⟨v', w', hrun, h2, h3, _, h5⟩ := run_append_own_at (P := P) w base t ty e i z 1 bytes ht hi hz hsize hby hzs (by omega) v n xs hown ad 0 c [] rfl (by intro j u h; simp at h) (by simp) (by simpa using h63) (by simpa using hbytes) hbase
      exact ⟨v', w', hrun, by simpa using h2, h3, h5⟩
  · obtain ⟨b, off, rfl, _, hc⟩ := hr h0
    obtain ⟨v', w', hrun, h2, h3, _, h5⟩ := run_append_own_at (P := P) w base t ty e i z 1 bytes ht hi hz hsize hby hzs (by omega) v n xs hown ⟨b, off, none⟩ ys.length c (ys.map f) (by simp) (fun j u hu => by
      rw [List.getElem?_map] at hu
      obtain ⟨y, hy, rfl⟩ := Option.map_eq_some_iff.1 hu
      obtain ⟨hj, rfl⟩ := List.getElem?_eq_some_iff.1 hy
      rw [Addr.add_lit]
      exact hc j hj) (by intro u hu; obtain ⟨y, _, rfl⟩ := List.mem_map.1 hu; exact h1 y) h63 hbytes hbase
    exact ⟨v', w', hrun, h2, h3, h5⟩
theorem step_append_rd_atZ {P : Program} {α : Type} {f : α → Value} (w : World) {ops : Array Oper} {o : Oper} {a : Act} {K : Act → World → Prop} {Q : Exit → Act → World → Prop} {E : Prop} (hgd : o.guard = none) (s x : Operand) (t : TypeId)
    (ho : o.op = .call { callee := .builtin .append, args := #[s, x], argTypes := #[t, t] })
    (base : Nat) (e : TypeId) (i : TypeInfo) (z : Value) (bytes : Nat) (ht : P.underlying t = some (.slice e)) (hi : P.info? e = some i) (hz : i.zero = some z)
    (hsize : i.size = 1) (hby : i.bytes = bytes) (hzs : z.cells.size = 1)
    (v : Value) (n : Nat) (xs : List Value) (hs : a.eval s = v) (hown : w.ownsRow base e 1 v n xs)
    (B : Nat) (A : Option Addr) (c m : Nat) (ys : List α) (hx : a.eval x = .slice A m c) (hm : ys.length = m) (hr : Rd f w B A ys) (h1 : ∀ y, (f y).oneCell' = true)
    (h63 : n + m ≤ maxLen) (hbytes : (n + m) * bytes ≤ 140737488355328) (hbase : base ≤ w.heap.size)
    (h : ∀ v' w', w'.ownsRow base e 1 v' (n + m) (xs ++ ys.map f) → w.grownBy w' v.ownBlock → (v'.ownBlock = v.ownBlock ∨ v'.ownBlock = some w.heap.size) → K (a.put o.dst v') w') :
    if Region.wanted o (yielded ops a.tmps) = true then Oper.wp P o a w K Q else E := by
  have hw : Region.wanted o (yielded ops a.tmps) = true := by simp [Region.wanted, hgd]
  rw [if_pos hw]
  obtain ⟨v', w', hr2, h2, h3, h5⟩ := run_append_rd_atZ (P := P) w base t o.type e i z bytes ht hi hz hsize hby hzs v n xs hown B A c m ys hm hr h1 h63 hbytes hbase
  unfold Oper.wp execOp
  simp only [ho, resolve, invoke, builtin, Sem.run_bind, Sem.run_pure, Result.andThen_ok, List.map_toArray, List.map_cons, List.map_nil, hs, hx, hr2]
  exact h v' w' h2 h3 h5


/-- RetP, and where the list lies. -/
def RetPA (w : World) (lo : Nat) (A : Option Addr) (L : List (List Int)) (e : Ending) (w' : World) : Prop :=
  ∃ A' c' rs, e = .returned (.slice A' rs.length c') ∧ rs.map Row.xs = L ∧ Own w' lo w'.heap.size rs [⟨A', c', rs.map Row.v⟩] ∧ w.grownBy w' (Value.slice A 0 0).ownBlock ∧ ∀ g, (Value.slice A' 0 0).ownBlock = some g → (Value.slice A 0 0).ownBlock = some g ∨ w.heap.size ≤ g
theorem fr_of {X A4 : Option Addr} {k k2 m n c c2 c4 g3 H H4 W : Nat} (hat3 : (Value.slice X k c).ownBlock = some g3 ∨ g3 = H) (hat4 : (Value.slice A4 n c4).ownBlock = (Value.slice (some ⟨g3, 0, none⟩) m c2).ownBlock ∨ (Value.slice A4 n c4).ownBlock = some H4) (h3 : W ≤ H) (h4 : W ≤ H4) :
    ∀ g, (Value.slice A4 0 0).ownBlock = some g → (Value.slice X k2 c).ownBlock = some g ∨ W ≤ g := fun g hg => by
  rw [ownBlock_len A4 0 n 0 c4] at hg
  rcases hat4 with e | e
  · rw [e] at hg
    rcases hat3 with e3 | e3
    · left; rw [ownBlock_len X k2 k c c, e3]; exact hg
    · right
      have hg : some g3 = some g := hg
      injection hg with hg
      omega
  · rw [e] at hg
    injection hg with hg
    right; omega
set_option maxHeartbeats 4000000 in
theorem l3PutA_any (A B : Option Addr) (c d lo : Nat) (rs : List Row) (p : List Int) (w : World) (hO : Own w lo w.heap.size rs [⟨A, c, rs.map Row.v⟩]) (hlo : lo ≤ w.heap.size) (hp : In w B d p)
    (hn : rs.length ≤ 1048576) (hr8 : ∀ r ∈ rs, r.xs.length ≤ 1048576) :
    Calls Tryz.prog 77 #[.slice A rs.length c, .slice B p.length d] w (RetPA w lo A (putL (rs.map Row.xs) p)) := by
  obtain ⟨i0, hi, hz0, hz1, hz2⟩ := info_parts infoI
  obtain ⟨j0, hj, hy0, hy1, hy2⟩ := info_parts infoL
  have hpl := hp.len
  have hcap := (own_caps hO.out).1
  rw [List.length_map] at hcap
  have HR8 := Lib.hid hr8
  have HO := Lib.hid hO
  have HLO := Lib.hid hlo
  have hRd := hO.read
  clear hr8 hO hlo
  go_enter Tryz.func77, Tryz.ntmps77
  go_wp2_with fail
  go_loopw [5] (fun i wr => ∃ k : Nat, k ≤ rs.length ∧ i = .int .i64 k ∧ Hid (putAt (rs.map Row.xs) p rs.length = putAt (rs.map Row.xs) p k) ∧ Dr w wr) (fun i _ => (intOf i).toNat)
  case atStart => exact ⟨rs.length, Nat.le_refl _, rfl, Lib.hid rfl, Dr.refl _⟩
  case round =>
    obtain ⟨k, hk, rfl, HK, hd⟩ := hrel
    have hsz : wr.heap.size = w.heap.size := by rw [hd.heap]
    by_cases h0 : k = 0
    case' pos =>
      have d0 : decide ((k : Int) > 0) = false := decide_eq_false (by omega)
      have d0' : decide (0 < (k : Int)) = false := decide_eq_false (by omega)
      have d1 : decide (0 < k) = false := decide_eq_false (by omega)
      have d2 : ¬ 0 < k := by omega
      have HL := Lib.hid (show putL (rs.map Row.xs) p = (rs.map Row.xs).take k ++ p :: (rs.map Row.xs).drop k by
        have e : putAt (rs.map Row.xs) p (rs.map Row.xs).length = k := by
          rw [List.length_map, HK.out, h0]; rfl
        unfold putL
        rw [e, if_neg (by omega)])
      obtain ⟨wt, rfl⟩ : ∃ wt : World, wt = wr := ⟨_, rfl⟩
      have hdt := hd
      clear h0
      go_upto_region 6 with fail
    case' neg =>
      have hk0 : 0 < k := Nat.pos_of_ne_zero h0
      have d0 : decide ((k : Int) > 0) = true := decide_eq_true (by omega)
      have d0' : decide (0 < (k : Int)) = true := decide_eq_true (by omega)
      have hRr := (hRd.dr hd).more (B' := wr.heap.size) (by omega)
      obtain ⟨b, off, rfl, hbb, hc⟩ := hRr.at (by omega)
      have c1 := hc (k - 1) (by omega)
      have e1 : IntKind.i64.wrap ((k : Int) - 1) = (k : Int) - 1 := IntWalk.i64_in _ (by omega)
      have e2 : ((k : Int) - 1).toNat = k - 1 := by omega
      have e3 : 0 ≤ (k : Int) - 1 := by omega
      have e4 : (k : Int) - 1 < (rs.length : Int) := by omega
      obtain ⟨q, hq⟩ : ∃ q : Row, q = rs[k - 1]'(by omega) := ⟨_, rfl⟩
      have hqm : q ∈ rs := by rw [hq]; exact List.getElem_mem _
      have hql := HR8.out q hqm
      have hqr := hRr.rd q hqm
      have hpr := (hp.dr hd).rd
      rw [← hq] at c1
      have HXQ := Lib.hid (show (rs.map Row.xs)[k - 1]?.getD [] = q.xs by rw [hq]; simp [show k - 1 < rs.length by omega])
      have HSTEP := Lib.hid (show putAt (rs.map Row.xs) p k = if before p q.xs = true then putAt (rs.map Row.xs) p (k - 1) else k by
        obtain ⟨u, rfl⟩ : ∃ u, k = u + 1 := ⟨k - 1, by omega⟩
        have h := HXQ.out
        rw [Nat.add_sub_cancel] at h
        rw [putAt, h]; rfl)
      have HC := Lib.hid hc
      clear hq hc h0
      go_wp2_with fail
      by_cases hb : before p q.xs = true
      · have HT := Lib.hid (show putAt (rs.map Row.xs) p rs.length = putAt (rs.map Row.xs) p (k - 1) by rw [HK.out, HSTEP.out, if_pos hb])
        (with_reducible refine (l2Before_b2 B q.A d q.c p.length q.xs.length p q.xs wr true rfl rfl (by omega) (by omega) hpr hqr hb).mono ?_)
        rintro e w1 ⟨rfl, hd1⟩
        clear hb
        go_wp2_with fail
        go_roundw
        case rel => exact ⟨k - 1, by omega, by rw [Int.natCast_sub hk0]; rfl, HT, hd.trans hd1⟩
        case measure => simp [intOf]; omega
      have hbf : before p q.xs = false := by simpa using hb
      have HT := Lib.hid (show putAt (rs.map Row.xs) p rs.length = k by rw [HK.out, HSTEP.out, if_neg hb])
      (with_reducible refine (l2Before_b2 B q.A d q.c p.length q.xs.length p q.xs wr false rfl rfl (by omega) (by omega) hpr hqr hbf).mono ?_)
      rintro e w1 ⟨rfl, hd1⟩
      have hd2 := hd.trans hd1
      have c2 : w1.cell? ⟨b, off + (k - 1), none⟩ = some (Value.slice q.A q.xs.length q.c) := (hd1.cell _).trans c1
      have hsz2 : w1.heap.size = wr.heap.size := by rw [hd1.heap]
      have hqr2 := (hqr.dr hd1).more (B' := w1.heap.size) (by omega)
      have hpr2 := (hp.dr hd2).rd
      clear hb hbf
      go_wp2_with fail
      by_cases he : q.xs = p
      · have HE := Lib.hid (show putL (rs.map Row.xs) p = rs.map Row.xs by
          unfold putL
          rw [List.length_map, HT.out, if_pos ⟨hk0, by rw [HXQ.out]; exact he⟩])
        (with_reducible refine (l2Same_b q.A B q.c d q.xs.length p.length q.xs p w1 true rfl rfl (by omega) hqr2 hpr2 (decide_eq_true he)).mono ?_)
        rintro e w2 ⟨rfl, hd3⟩
        have hd4 := hd2.trans hd3
        have hsz4 : w2.heap.size = w.heap.size := by rw [hd4.heap]
        clear he
        go_wp2_with fail
        go_ret
        exact ⟨_, c, rs, rfl, HE.out.symm, (HO.out.dr hd4).wider (Nat.le_refl _) (by omega), below_grown (below_dr (Below.refl _ _) hd4), fun g hg => .inl hg⟩
      have HL := Lib.hid (show putL (rs.map Row.xs) p = (rs.map Row.xs).take k ++ p :: (rs.map Row.xs).drop k by
        unfold putL
        rw [List.length_map, HT.out, if_neg (fun h => he (by rw [← HXQ.out]; exact h.2))])
      (with_reducible refine (l2Same_b q.A B q.c d q.xs.length p.length q.xs p w1 false rfl rfl (by omega) hqr2 hpr2 (decide_eq_false he)).mono ?_)
      rintro e w2 ⟨rfl, hd3⟩
      obtain ⟨wt, rfl⟩ : ∃ wt : World, wt = w2 := ⟨_, rfl⟩
      have hdt := hd2.trans hd3
      clear he c2 hqr2 hpr2 hsz2 c1 hqr hpr hqm hql e1 e2 e3 e4 hk0 hRr hd1 hd2 hd3
      go_upto_region 6 with fail
    all_goals
      have hszt : wt.heap.size = w.heap.size := by rw [hdt.heap]
      have hRt := (hRd.dr hdt).more (B' := wt.heap.size) (by omega)
      have hdrop := Rd.cut (k := k) (read_rows hRt) hk hcap
      have hsl := fun (A : Option Addr) w => run_cut (P := Tryz.prog) (t := 26) Tryz.underlying26 sizeL A rs.length c k (k : Int) rfl hk w
      have hOt := HO.out.dr hdt
      have hpt := (hp.dr hdt).rd
      have own0 : (wt.alloc (.cells #[] 24)).ownsRow wt.heap.size 24 1 (.slice (some ⟨wt.heap.size, 0, none⟩) 0 0) 0 [] := World.ownsRow_lit wt #[] 0 (Nat.le_refl _) (by unfold maxLen; omega) rfl
      have hx0 := hdrop.alloc (Nat.le_refl _) (.cells #[] 24)
      have hbA := (Below.refl wt.heap.size wt).alloc (Nat.le_refl _) (.cells #[] 24)
      have hdl : (rs.drop k).length = rs.length - k := List.length_drop
      have hkc : k ≤ c := Nat.le_trans hk hcap
      have HSZT := Lib.hid hszt
      clear hRt hdrop hszt hsz
      go_wp2_with (at_builtin; refine wpList_append_rd _ rfl _ _ 26 rfl (wt.heap.size) 24 j0 (.slice none 0 0) 24 Tryz.underlying26 hj hy0 hy1 hy2 rfl _ _ _ rfl own0 _ _ _ _ (rs.drop k) rfl hdl hx0 (fun _ => rfl) (by unfold maxLen; omega) (by omega) (by first | omega | (simp; done) | (simp; omega)) ?_; intro v1 w1 hown1 hgrow1)
      simp only [Nat.zero_add, List.nil_append] at hown1
      obtain ⟨R1, cr, rfl, _, _⟩ := own_shape hown1
      have hb1 : Below wt.heap.size wt w1 := hbA.grown hgrow1 (by simp) (fun g hg => (own0.lt g hg).1)
      have hsz1 := hb1.size
      have hszt := HSZT.out
      have hdd : Dr w1 w1.drew := (Dr.refl _).drew
      have hO1 := ((hOt.below hb1).dr hdd).wider (Nat.le_refl lo) (show w.heap.size ≤ w1.heap.size by omega)
      have hR1 := hdd.own hown1
      have hp1 : Rd (Value.int .i64) (w1.drew.alloc (.cells #[] 3)) w1.heap.size B p := (((hpt.below hb1).dr hdd).more (B' := w1.heap.size) (by omega)).alloc (Nat.le_refl _) _
      have own1 : (w1.drew.alloc (.cells #[] 3)).ownsRow w1.heap.size 3 1 (.slice (some ⟨w1.heap.size, 0, none⟩) 0 0) 0 [] := World.ownsRow_lit w1.drew #[] 0 (Nat.le_refl _) (by unfold maxLen; omega) rfl
      clear own0 hx0 hbA hgrow1 hown1 hszt
      go_wp2_with fail
      go_region_held3 (fun _ => True) (trivial) ((first
        | (refine step_append_rd _ (by rfl) _ _ _ (by rfl) w1.heap.size 3 i0 (.int .i64 0) 8 Tryz.underlying24 hi hz0 hz1 hz2 (by rfl) (Value.slice (some ⟨w1.heap.size, 0, none⟩) 0 0) 0 _ (by rfl) own1 _ B d p.length p (by rfl) rfl hp1 (fun _ => rfl) (by unfold maxLen; omega) (by omega) (by simp) ?_
           intro v2 w2 hown2 hgrow2
           simp only [Nat.zero_add, List.nil_append] at hown2
           obtain ⟨A2, c2, rfl, _, _⟩ := own_shape hown2
           have hb2 : Below w1.drew.heap.size w1.drew w2 := ((Below.refl w1.drew.heap.size w1.drew).alloc (Nat.le_refl _) _).grown hgrow2 (by simp) (fun g hg => (own1.lt g hg).1)
           have hsz2 : w1.heap.size ≤ w2.heap.size := hb2.size
           have hO2 := (hO1.below hb2).add (r := ⟨A2, c2, p⟩) hown2 hsz2 (show lo ≤ w1.heap.size by have h1 := HLO.out; have h2 := HSZT.out; omega)
           have hT2 := (own_take (hO2.outN (n := rs.length) (by simp)) hk).alloc (.cells #[Value.slice A2 p.length c2] 24)
           have hR2 := (own_below hR1 hb2).alloc (.cells #[Value.slice A2 p.length c2] 24)
           have hlo2 : lo ≤ w2.heap.size := by have h1 := HLO.out; have h2 := HSZT.out; omega)
        | (refine step_append_lies _ (by rfl) _ _ _ (by rfl) lo 24 j0 (.slice none 0 0) 1 24 Tryz.underlying26 hj hy0 hy1 hy2 rfl (by decide) _ k _ (by rfl) hT2 ⟨w2.heap.size, 0, none⟩ 1 1 [Value.slice A2 p.length c2] (by rfl) (by rfl) (cell_one_new _ _ _) (by intro u hu; simp at hu; subst hu; rfl) (by omega) (by unfold maxLen; omega) (by omega) (by simp; omega) (w2.heap.size + 1) (by simp) ?_
           intro g3 cap3 w3 hown3 hgrow3 hat3 hlt3
           have hgr3 := grown_trans (World.grownBy_alloc w2 (.cells #[Value.slice A2 p.length c2] 24) _) hgrow3
           have hR3 := hR2.kept hgrow3 (by
             rcases hv : (Value.slice R1 (rs.length - k) cr).ownBlock with _ | q
             · exact .inl rfl
             · refine .inr (fun e => ?_)
               have h1 := (hR1.lt q hv).1
               have h2 := (hOt.olim (n := rs.length) (by simp) q (by rw [e]; exact ownBlock_len _ _ _ _ _)).2
               have h3 := HSZT.out
               omega)
           have hRd3 : Rd Row.v w3 w3.heap.size R1 (rs.drop k) := Rd.of_own (c := cr) (by rw [hdl]; exact hR3)
           have hlo3 : lo ≤ w3.heap.size := by have := hgr3.size; omega)
        | (refine step_append_rd_atZ _ (by rfl) _ _ _ (by rfl) lo 24 j0 (.slice none 0 0) 24 Tryz.underlying26 hj hy0 hy1 hy2 (by rfl) (Value.slice (some ⟨g3, 0, none⟩) (k + 1) cap3) (k + 1) _ (by rfl) hown3 _ R1 cr (rs.length - k) (rs.drop k) (by rfl) hdl hRd3 (fun _ => rfl) (by unfold maxLen; omega) (by omega) (by omega) ?_
           intro v4 w4 hown4 hgrow4 hat4
           obtain ⟨A4, c4, rfl, _, _⟩ := own_shape hown4)
        | fail))
      have hlen4 : (rs.take k ++ (⟨A2, c2, p⟩ : Row) :: rs.drop k).length = k + 1 + (rs.length - k) := by simp; omega
      have hv3 : (Value.slice A2 p.length c2) = Row.v ⟨A2, c2, p⟩ := rfl
      have hb3 := (Below.refl w2.heap.size w2).alloc (Nat.le_refl _) (.cells #[Value.slice A2 p.length c2] 24)
      have hO3 := Own.kept (w' := w3) (hO2.below hb3) (by simp) (show (rs.map Row.v).length = rs.length by simp) (by rw [ownBlock_len _ rs.length k c c]; exact hgrow3)
      have hO3' := hO3.with_ (A := some ⟨g3, 0, none⟩) (c := cap3) (vs := (rs.map Row.v).take k ++ [Value.slice A2 p.length c2]) (by
        have hl : ((rs.map Row.v).take k ++ [Value.slice A2 p.length c2]).length = k + 1 := by simp; omega
        rw [hl]; exact hown3) (Nat.le_refl _)
      have hO4 := (Own.kept hO3' (Nat.le_refl _) (show ((rs.map Row.v).take k ++ [Value.slice A2 p.length c2]).length = k + 1 by simp; omega) hgrow4).perm (rs' := rs.take k ++ (⟨A2, c2, p⟩ : Row) :: rs.drop k) (by
        refine List.Perm.trans ?_ (List.perm_middle.symm)
        rw [List.take_append_drop]
        exact List.perm_append_comm)
      have hfin := hO4.with_ (A := A4) (c := c4) (vs := (rs.take k ++ (⟨A2, c2, p⟩ : Row) :: rs.drop k).map Row.v) (by
        rw [List.length_map, hlen4]
        have e : (rs.map Row.v).take k ++ [Value.slice A2 p.length c2] ++ (rs.drop k).map Row.v = (rs.take k ++ (⟨A2, c2, p⟩ : Row) :: rs.drop k).map Row.v := by simp [List.map_take, Row.v]
        rw [← e]; exact hown4) (Nat.le_refl _)
      have h1 : Below w.heap.size w w2 := by
        have hz := HSZT.out
        have ha := (below_dr (Below.refl w.heap.size w) hdt).trans (hb1.mono (by omega))
        exact (below_dr ha hdd).trans (hb2.mono (by show w.heap.size ≤ w1.heap.size; omega))
      have hgw := grown_then (grown_trans (below_grown h1) hgr3) hgrow4 hat3 (show w.heap.size ≤ w2.heap.size + 1 by have := h1.size; omega)
      have hfr := fr_of (k2 := 0) hat3 hat4 (show w.heap.size ≤ w2.heap.size + 1 by have := h1.size; omega) (show w.heap.size ≤ w3.heap.size by have := h1.size; have := hgr3.size; omega)
      have K := Lib.hid (And.intro hfin (And.intro hgw hfr))
      have HL4 := Lib.hid hlen4
      clear hat4 hfr h1 hfin hgw hO4 hO3' hO3 hb3 hown4 hgrow4 hRd3 hR3 hgr3 hown3 hgrow3 hat3 hR2 hT2 hO2 hb2 hown2 hgrow2 own1 hp1 hR1 hO1 hv3 hlen4
      go_wp2_with fail
      go_ret
      exact ⟨A4, c4, rs.take k ++ (⟨A2, c2, p⟩ : Row) :: rs.drop k, by rw [HL4.out]; rfl, by rw [HL.out]; simp [List.map_take, List.map_drop], K.out.1, by rw [ownBlock_len _ 0 k 0 c]; exact K.out.2.1, fun g hg => by rw [ownBlock_len _ 0 0 0 c]; exact K.out.2.2 g hg⟩
end Go.Proofs.YtldknpjeegdbmaaGreat

/- InversePerm and CountPattern of the reference; the laws' sameLists, sameMesh and sameNear. -/
namespace Go.Proofs.YtldknpjeegdbmaaGreat
set_option maxRecDepth 100000
open Go Go.RowKit

theorem sameInts_b (A A' : Option Addr) (c c' n m : Nat) (xs ys : List Int) (w : World) (b : Bool) (hn : xs.length = n) (hm : ys.length = m) (hl : n ≤ 1048576)
    (hx : Rd (Value.int .i64) w w.heap.size A xs) (hy : Rd (Value.int .i64) w w.heap.size A' ys) (hb : decide (xs = ys) = b) :
    Calls Tryz.prog 24 #[.slice A n c, .slice A' m c'] w (Rq w (.bool b)) := by
  subst hn hm hb
  exact sameInts_any A A' c c' xs ys w hl hx hy
set_option maxHeartbeats 1000000 in
theorem sameLists_eq (A A' : Option Addr) (c c' : Nat) (rs rs' : List Row) (w : World) (h : InL w A c rs) (h' : InL w A' c' rs') (he : rs.map Row.xs = rs'.map Row.xs) :
    Calls Tryz.prog 16 #[.slice A rs.length c, .slice A' rs'.length c'] w (Rb w (.bool true)) := by
  have hlen : rs.length = rs'.length := (map_len he.symm).symm
  have hl1 := h.len
  have hne : ((rs.length : Int) != (rs'.length : Int)) = false := by simp [hlen]
  have HE : ∀ (j : Nat) (hj : j < rs.length) (hj' : j < rs'.length), rs[j].xs = rs'[j].xs := fun j hj hj' => by
    have h1 : (rs.map Row.xs)[j]'(by simpa using hj) = (rs'.map Row.xs)[j]'(by simpa using hj') := by simp only [he]
    simpa using h1
  have HL := Lib.hid hlen
  have HEh := Lib.hid HE
  clear hlen he HE
  go_enter Tryz.func16, Tryz.ntmps16
  go_wp2
  go_loopw [5] (fun i wr => ∃ j : Nat, j ≤ rs.length ∧ i = .int .i64 j ∧ Dr w wr) (fun i _ => rs.length - (intOf i).toNat)
  case atStart => exact ⟨0, Nat.zero_le _, rfl, Dr.refl _⟩
  case round =>
    obtain ⟨j, hj, rfl, hd⟩ := hrel
    by_cases hlt : j < rs.length
    · have hlt' : j < rs'.length := by have := HL.out; omega
      obtain ⟨b, off, rfl, _, hc⟩ := (h.dr hd).read.at (by omega)
      obtain ⟨b', off', rfl, _, hc'⟩ := (h'.dr hd).read.at (by omega)
      have c1 := hc j hlt
      have c2 := hc' j hlt'
      have r1 := ((h.dr hd).row (List.getElem_mem hlt)).rd
      have r2 := ((h'.dr hd).row (List.getElem_mem hlt')).rd
      have q0 := ((h.dr hd).row (List.getElem_mem hlt)).len
      have hb : decide (rs[j].xs = rs'[j].xs) = true := by simpa using HEh.out j hlt hlt'
      have HB := Lib.hid hb
      clear hc hc' hb
      go_wp2
      go_quiet ((go_at_call 24; exact quiet_rq (sameInts_b _ _ _ _ _ _ rs[j].xs rs'[j].xs _ true rfl rfl q0 r1 r2 HB.out)))
      go_wp2
      go_roundw
      case rel => exact ⟨j + 1, by omega, by go_num, (by first | with_reducible assumption | with_reducible exact hd | with_reducible exact Dr.drewN hd _ | with_reducible exact Dr.drewN (Dr.drewN hd _) _ | with_reducible exact Dr.drew hd)⟩
      case measure => simp [intOf]; omega
    · go_wp2
      go_ret
      exact ⟨rfl, below_dr (Below.refl _ _) hd⟩
/-- How often a pattern occurs; -1 where one is no permutation. -/
def cpG (p q : List Int) : Int := if permB p = true ∧ permB q = true then ((occL p q).length : Int) else -1
set_option maxHeartbeats 1000000 in
theorem countPattern_spec (A B : Option Addr) (c d : Nat) (p q : List Int) (w : World) (hp : In w A c p) (hq : In w B d q) :
    Calls Tryz.prog 50 #[.slice A p.length c, .slice B q.length d] w (Rb w (.int .i64 (cpG p q))) := by
  by_cases hP : permB p = true
  · by_cases hQ : permB q = true
    · have HG := Lib.hid (show cpG p q = ((occL p q).length : Int) by rw [cpG, if_pos ⟨hP, hQ⟩])
      have H1 := Lib.hid hP
      have H2 := Lib.hid hQ
      clear hP hQ
      go_enter Tryz.func50, Tryz.ntmps50
      go_wp2_with fail
      (with_reducible refine (isPerm_sb A c p w true hp H1.out).mono ?_)
      rintro e w1 ⟨rfl, hd1⟩
      go_wp2_with fail
      (with_reducible refine (isPerm_sb B d q w1 true (hq.dr hd1) H2.out).mono ?_)
      rintro e w2 ⟨rfl, hd2⟩
      have hd := hd1.trans hd2
      have HC := Lib.hid (occurrencesOf_spec A B c d p q w2 (hp.dr hd) (hq.dr hd) H1.out H2.out)
      go_wp2_with fail
      (with_reducible refine HC.out.mono ?_)
      rintro e w3 ⟨O, ok, rs, rfl, hX, _, hb⟩
      have HL := Lib.hid (show rs.length = (occL p q).length from map_len1 hX)
      have hbd := below_dr (Below.refl w.heap.size w) hd
      clear hX
      go_wp2_with fail
      go_ret
      exact ⟨ret_int (by rw [HG.out, HL.out]), hbd.trans (hb.mono hbd.size)⟩
    · have hQ : permB q = false := by simpa using hQ
      have HG := Lib.hid (show cpG p q = -1 by rw [cpG, if_neg (by simp [hQ])])
      have H1 := Lib.hid hP
      have H2 := Lib.hid hQ
      clear hP hQ
      go_enter Tryz.func50, Tryz.ntmps50
      go_wp2_with fail
      (with_reducible refine (isPerm_sb A c p w true hp H1.out).mono ?_)
      rintro e w1 ⟨rfl, hd1⟩
      go_wp2_with fail
      (with_reducible refine (isPerm_sb B d q w1 false (hq.dr hd1) H2.out).mono ?_)
      rintro e w2 ⟨rfl, hd2⟩
      go_wp2_with fail
      go_ret
      exact ⟨ret_int HG.out.symm, below_dr (Below.refl _ _) (hd1.trans hd2)⟩
  · have hP : permB p = false := by simpa using hP
    have HG := Lib.hid (show cpG p q = -1 by rw [cpG, if_neg (by simp [hP])])
    have H1 := Lib.hid hP
    clear hP
    go_enter Tryz.func50, Tryz.ntmps50
    go_wp2_with fail
    (with_reducible refine (isPerm_sb A c p w false hp H1.out).mono ?_)
    rintro e w1 ⟨rfl, hd1⟩
    go_wp2_with fail
    go_ret
    exact ⟨ret_int HG.out.symm, below_dr (Below.refl _ _) hd1⟩
end Go.Proofs.YtldknpjeegdbmaaGreat

/- A list from its end: slices.Reverse in place, reverse, l3Reverse; ascending and descending lists. -/
namespace Go.Proofs.YtldknpjeegdbmaaGreat
set_option maxRecDepth 100000
open Go Go.RowKit

/-- The cell of a list's row, the list's address known. -/
theorem Read.cellAt {w : World} {B b off c : Nat} {rs : List Row} (h : Read w B rs [⟨some ⟨b, off, none⟩, c, rs.map Row.v⟩]) (j : Nat) (hj : j < rs.length) : w.cell? ⟨b, off + j, none⟩ = some (Value.slice rs[j].A rs[j].xs.length rs[j].c) := by
  obtain ⟨b', off', he, _, hc⟩ := h.at (by omega)
  injection he with he
  injection he with he1 he2 _
  subst he1 he2
  exact hc j hj
/-- The first and the last i places are exchanged. -/
def revTo (xs : List Int) (i : Nat) : List Int := (List.range xs.length).map fun t => if t < i ∨ xs.length ≤ t + i then xs[xs.length - 1 - t]?.getD 0 else xs[t]?.getD 0
theorem revTo_length (xs : List Int) (i : Nat) : (revTo xs i).length = xs.length := by simp [revTo]
theorem revTo_get (xs : List Int) (i t : Nat) (h : t < xs.length) : (revTo xs i)[t]? = some (if t < i ∨ xs.length ≤ t + i then xs[xs.length - 1 - t]?.getD 0 else xs[t]?.getD 0) := by
  simp [revTo, h]
theorem revTo_zero (xs : List Int) : revTo xs 0 = xs := by
  apply List.ext_getElem?
  intro t
  by_cases h : t < xs.length
  · rw [revTo_get xs 0 t h, if_neg (by omega), List.getElem?_eq_getElem h]; rfl
  · rw [List.getElem?_eq_none (by rw [revTo_length]; omega), List.getElem?_eq_none (by omega)]
theorem revTo_all (xs : List Int) (i : Nat) (h : xs.length ≤ 2 * i + 1) : revTo xs i = xs.reverse := by
  apply List.ext_getElem?
  intro t
  by_cases ht : t < xs.length
  · rw [revTo_get xs i t ht, List.getElem?_reverse ht]
    by_cases hc : t < i ∨ xs.length ≤ t + i
    · rw [if_pos hc, List.getElem?_eq_getElem (by omega)]; rfl
    · rw [if_neg hc]
      have : xs.length - 1 - t = t := by omega
      rw [this, List.getElem?_eq_getElem ht]; rfl
  · rw [List.getElem?_eq_none (by rw [revTo_length]; omega), List.getElem?_eq_none (by rw [List.length_reverse]; omega)]
theorem revTo_succ (xs : List Int) (i : Nat) (h : 2 * i + 1 < xs.length) : ((revTo xs i).set i (xs[xs.length - 1 - i]?.getD 0)).set (xs.length - 1 - i) (xs[i]?.getD 0) = revTo xs (i + 1) := by
  apply List.ext_getElem?
  intro t
  by_cases ht : t < xs.length
  · rw [revTo_get xs (i + 1) t ht, List.getElem?_set, List.getElem?_set, List.length_set, revTo_length, revTo_get xs i t ht]
    by_cases h1 : xs.length - 1 - i = t
    · subst h1
      rw [if_pos rfl, if_pos (by omega), if_pos (by omega)]
      rw [show xs.length - 1 - (xs.length - 1 - i) = i by omega]
    · rw [if_neg h1]
      by_cases h2 : i = t
      · subst h2
        rw [if_pos rfl, if_pos (by omega), if_pos (by omega)]
      · rw [if_neg h2]
        by_cases h3 : t < i ∨ xs.length ≤ t + i
        · rw [if_pos h3, if_pos (by omega)]
        · rw [if_neg h3, if_neg (by omega)]
  · rw [List.getElem?_eq_none (by rw [List.length_set, List.length_set, revTo_length]; omega), List.getElem?_eq_none (by rw [revTo_length]; omega)]
theorem revTo_at (xs : List Int) (i t : Nat) (h : t < xs.length) (h1 : i ≤ t) (h2 : t + i < xs.length) : ((revTo xs i).map (Value.int .i64))[t]? = some (.int .i64 xs[t]) := by
  rw [List.getElem?_map, revTo_get xs i t h, if_neg (by omega), List.getElem?_eq_getElem h]; rfl

/-- Ascending by neighbors. -/
def sortB (xs : List Int) : Bool := (List.range (xs.length - 1)).all fun i => decide (xs[i]?.getD 0 ≤ xs[i + 1]?.getD 0)
theorem nums_get (n i : Nat) (h : i < n) : (nums n)[i]? = some ((i : Int) + 1) := by simp [nums, h]
theorem sort_perm {xs : List Int} (h : permB xs = true) : sortB xs = decide (xs = nums xs.length) := by
  obtain ⟨_, hr, hn⟩ := permB_true h
  rw [Bool.eq_iff_iff, decide_eq_true_eq]
  constructor
  · intro hs
    have hlt : ∀ i (h1 : i + 1 < xs.length), xs[i] < xs[i + 1] := fun i h1 => by
      have h2 := List.all_eq_true.1 hs i (List.mem_range.2 (by omega))
      rw [List.getElem?_eq_getElem (show i < xs.length by omega), List.getElem?_eq_getElem h1] at h2
      have h3 : xs[i] ≤ xs[i + 1] := by simpa using h2
      rcases Int.lt_or_eq_of_le h3 with h4 | h4
      · exact h4
      · have := nodup_inj hn _ _ h4
        omega
    have hge : ∀ i (h1 : i < xs.length), (i : Int) + 1 ≤ xs[i] := by
      intro i
      induction i with
      | zero => intro h1; have := (hr xs[0] (List.getElem_mem h1)).1; omega
      | succ i ih => intro h1; have h2 := ih (by omega); have h3 := hlt i h1; push_cast; omega
    have hle : ∀ d i (h1 : i < xs.length), xs.length - 1 - i = d → xs[i] ≤ (i : Int) + 1 := by
      intro d
      induction d with
      | zero => intro i h1 hd; have := (hr xs[i] (List.getElem_mem h1)).2; omega
      | succ d ih => intro i h1 hd; have h2 := ih (i + 1) (by omega) (by omega); have h3 := hlt i (by omega); push_cast at h2; omega
    apply List.ext_getElem?
    intro i
    by_cases hi : i < xs.length
    · rw [nums_get _ _ hi, List.getElem?_eq_getElem hi]
      have h1 := hge i hi
      have h2 := hle _ i hi rfl
      congr 1
      omega
    · rw [List.getElem?_eq_none (by omega), List.getElem?_eq_none (by rw [nums_length]; omega)]
  · intro he
    unfold sortB
    rw [List.all_eq_true]
    intro i hi
    have hi := List.mem_range.1 hi
    have h1 : xs[i]? = some ((i : Int) + 1) := by rw [he]; exact nums_get _ _ (by omega)
    have h2 : xs[i + 1]? = some (((i + 1 : Nat) : Int) + 1) := by rw [he]; exact nums_get _ _ (by omega)
    rw [h1, h2]
    simp only [Option.getD_some, decide_eq_true_eq]
    push_cast
    omega
end Go.Proofs.YtldknpjeegdbmaaGreat

/- IsSumClosed, program and reference. -/
namespace Go.Proofs.YtldknpjeegdbmaaGreat
set_option maxRecDepth 100000
open Go Go.RowKit

/-- The greatest of the first k. -/
def pmax (p : List Int) (k : Nat) : Int := (p.take k).foldl max 0
theorem pmax_succ (p : List Int) (k : Nat) (h : k < p.length) : pmax p (k + 1) = max (pmax p k) p[k] := by
  unfold pmax
  rw [List.take_succ_eq_append_getElem h, List.foldl_append]; rfl
theorem pmax_bd {p : List Int} (hb : ∀ v ∈ p, 1 ≤ v ∧ v ≤ 8) (k : Nat) : 0 ≤ pmax p k ∧ pmax p k ≤ 8 := by
  induction k with
  | zero => simp [pmax]
  | succ k ih =>
    by_cases h : k < p.length
    · rw [pmax_succ p k h]
      have := hb p[k] (List.getElem_mem h)
      omega
    · unfold pmax at ih ⊢
      rw [List.take_of_length_le (by omega)] at ih ⊢
      exact ih
/-- How many sum parts end within the first k. -/
def sumN (p : List Int) (k : Nat) : Nat := ((List.range k).filter fun i => decide (pmax p (i + 1) = (i : Int) + 1)).length
theorem sumN_succ (p : List Int) (k : Nat) : sumN p (k + 1) = if pmax p (k + 1) = (k : Int) + 1 then sumN p k + 1 else sumN p k := by
  unfold sumN
  rw [List.range_succ, List.filter_append]
  by_cases h : pmax p (k + 1) = (k : Int) + 1 <;> simp [h]
theorem sumN_le (p : List Int) (k : Nat) : sumN p k ≤ k := Nat.le_trans (List.length_filter_le _ _) (by simp)
def scG (X : List (List Int)) : Bool := basisB X && !X.any fun p => decide (1 < sumN p p.length)
/-- A call's result: a list of n rows, whatever they are. -/
def RetLen (w : World) (n : Nat) (e : Ending) (w' : World) : Prop := ∃ A c, e = .returned (.slice A n c) ∧ Below w.heap.size w w'

set_option maxHeartbeats 800000 in
theorem raised_any (A : Option Addr) (c n : Nat) (xs : List Int) (x : Int) (w : World) (hn : xs.length = n) (hl : n ≤ 1048576) (hx : Rd (Value.int .i64) w w.heap.size A xs) (hv : ∀ v ∈ xs, 1 ≤ v ∧ v ≤ 1048576) (hx1 : -1048576 ≤ x ∧ x ≤ 1048576) :
    Calls Tryz.prog 84 #[.slice A n c, .int .i64 x] w (Ret (Value.int .i64) 3 w (xs.map (· + x))) := by
  obtain ⟨i0, hi, hz0, hz1, hz2⟩ := info_parts infoI
  have HN := Lib.hid hn
  have hn1 : xs.length ≤ n := by omega
  have hn2 : n ≤ xs.length := by omega
  clear hn
  have hown0 : (w.alloc (.cells #[] 3)).ownsRow w.heap.size 3 1 (.slice (some ⟨w.heap.size, 0, none⟩) 0 0) 0 (((xs.take 0).map (· + x)).map (Value.int .i64)) := World.ownsRow_lit w #[] 0 (Nat.le_refl _) (by unfold maxLen; omega) rfl
  have hb0 := (Below.refl w.heap.size w).alloc (Nat.le_refl _) (.cells #[] 3)
  go_enter Tryz.func84, Tryz.ntmps84
  go_wp2_with fail
  go_loopw [5, 11] (fun v i wr => ∃ (k : Nat) (A1 : Option Addr) (c1 : Nat), k ≤ n ∧ i = .int .i64 k ∧ v = .slice A1 k c1 ∧ wr.ownsRow w.heap.size 3 1 (.slice A1 k c1) k (((xs.take k).map (· + x)).map (Value.int .i64)) ∧ Below w.heap.size w wr) (fun _ i _ => n - (intOf i).toNat)
  case atStart => exact ⟨0, _, _, Nat.zero_le _, rfl, rfl, hown0, hb0⟩
  case round =>
    clear hown0 hb0
    obtain ⟨k, A1, c1, hk, rfl, rfl, hown, hb⟩ := hrel
    have hsz := hb.size
    rcases Nat.lt_or_ge k n with hlt | hge
    · have hkx : k < xs.length := by omega
      obtain ⟨b, off, rfl, _, hc⟩ := (hx.next hb) (by omega)
      have cc := hc k hkx
      have hvk := hv xs[k] (List.getElem_mem hkx)
      have HT := Lib.hid (show (xs.take (k + 1)).map (· + x) = (xs.take k).map (· + x) ++ [xs[k] + x] by rw [List.take_succ_eq_append_getElem hkx, List.map_append]; rfl)
      clear hc
      go_wp2_with (at_builtin; refine wpList_append_own _ rfl _ _ 24 rfl (w.heap.size) 3 i0 (.int .i64 0) 1 8 Tryz.underlying24 hi hz0 hz1 hz2 rfl (by decide) _ _ _ rfl (World.ownsRow.alloc hown _) ⟨wr.heap.size, 0, none⟩ 1 1 [.int .i64 (xs[k] + x)] rfl rfl (cell_one_new _ _ _) (by intro u hu; simp at hu; subst hu; rfl) (by unfold maxLen; omega) (by omega) (by simp; omega) ?_; intro v1 w1 hown1 hgrow1 _)
      have hS2 : w1.ownsRow w.heap.size 3 1 v1 (k + 1) (((xs.take (k + 1)).map (· + x)).map (Value.int .i64)) := by rw [HT.out]; simpa using hown1
      have hb1 := (hb.alloc hsz (Obj.cells #[Value.int .i64 (xs[k] + x)] 3)).grown hgrow1 (by simp; omega) (by intro g hg; exact ((hown.lt g hg).1))
      obtain ⟨A2, c2, rfl, _, _⟩ := own_shape hS2
      have H1 := Lib.hid hS2
      have H2 := Lib.hid hb1
      clear hS2 hown1 hgrow1 hb1 hown hb
      go_wp2
      go_roundw
      case rel => exact ⟨k + 1, A2, c2, by omega, by go_num, rfl, H1.out, H2.out⟩
      case measure => simp [intOf]; omega
    · obtain rfl : k = n := by omega
      have HE := Lib.hid (show k = (xs.map (· + x)).length by rw [List.length_map]; exact HN.out.symm)
      rw [List.take_of_length_le hn1] at hown
      go_wp2
      go_ret
      exact ⟨A1, c1, by rw [← HE.out]; rfl, by rw [← HE.out]; exact (own_caps hown).1, (own_caps hown).2, by rw [← HE.out]; first | exact hown | simpa using hown, hb⟩

set_option maxHeartbeats 4000000 in
theorem sumParts_impl (A : Option Addr) (c : Nat) (p : List Int) (w : World) (h : In w A c p) (hp : permB p = true) :
    Calls Tryz.prog 57 #[.slice A p.length c] w (RetLen w (sumN p p.length)) := by
  obtain ⟨j0, hj, hy0, hy1, hy2⟩ := info_parts infoL
  obtain ⟨h8, hr, _⟩ := permB_true hp
  have hbd : ∀ v ∈ p, 1 ≤ v ∧ v ≤ 8 := fun v hv => by have := hr v hv; omega
  have hcap := h.cap
  have HP := Lib.hid hp
  have hown0 : (w.alloc (.cells #[] 24)).ownsRow w.heap.size 24 1 (.slice (some ⟨w.heap.size, 0, none⟩) 0 0) 0 [] := World.ownsRow_lit w #[] 0 (Nat.le_refl _) (by unfold maxLen; omega) rfl
  have hb0 := (Below.refl w.heap.size w).alloc (Nat.le_refl _) (.cells #[] 24)
  clear hp hr
  go_enter Tryz.func57, Tryz.ntmps57
  go_wp2_with fail
  go_loopw [3, 4, 5, 11] (fun v s t i wr => ∃ (k st : Nat) (A1 : Option Addr) (c1 : Nat) (vs : List Value), k ≤ p.length ∧ st ≤ k ∧ i = .int .i64 k ∧ s = .int .i64 st ∧ t = .int .i64 (pmax p k) ∧ v = .slice A1 (sumN p k) c1 ∧ wr.ownsRow w.heap.size 24 1 (.slice A1 (sumN p k) c1) (sumN p k) vs ∧ Below w.heap.size w wr) (fun _ _ _ i _ => p.length - (intOf i).toNat)
  case atStart => exact ⟨0, 0, _, _, [], Nat.zero_le _, Nat.le_refl _, rfl, rfl, rfl, rfl, hown0, hb0⟩
  case round =>
    clear hown0 hb0
    obtain ⟨k, st, A1, c1, vs, hk, hst, rfl, rfl, rfl, rfl, hown, hb⟩ := hrel
    have hsz := hb.size
    have hpm := pmax_bd hbd k
    have hpm2 := pmax_bd hbd (k + 1)
    have hsn := sumN_le p k
    rcases Nat.lt_or_ge k p.length with hlt | hge
    · obtain ⟨b, off, rfl, hbb, hc⟩ := (h.next hb).rd (by omega)
      have cc := hc k hlt
      have hvk := hbd p[k] (List.getElem_mem hlt)
      have HM := Lib.hid (pmax_succ p k hlt)
      have HS := Lib.hid (sumN_succ p k)
      have HCUT := Lib.hid (((h.next hb).rd.take (k + 1)).cut (k := st) (c := c) (by simp; omega) (by simp; omega))
      have hsl := fun w => run_cut2 (P := Tryz.prog) (t := 24) Tryz.underlying24 sizeI (some ⟨b, off, none⟩) p.length c st (k + 1) (st : Int) ((k : Int) + 1) rfl (by omega) (by omega) (by omega) w
      clear hc
      have HLN := Lib.hid (show ((p.take (k + 1)).drop st).length = k + 1 - st by simp; omega)
      have HVV := Lib.hid (show ∀ v ∈ (p.take (k + 1)).drop st, 1 ≤ v ∧ v ≤ 1048576 from fun v hv => by
        have := hbd v ((List.take_sublist _ _).subset ((List.drop_sublist _ _).subset hv))
        omega)
      by_cases heq : pmax p (k + 1) = (k : Int) + 1
      · have HE := Lib.hid (show sumN p (k + 1) = sumN p k + 1 by rw [HS.out, if_pos heq])
        by_cases hmx : pmax p k < p[k]
        · have HV := Lib.hid (show pmax p (k + 1) = p[k] by rw [HM.out]; omega)
          have dq : (p[k] == (k : Int) + 1) = true := by rw [← HV.out, heq]; simp
          clear heq
          go_wp2_with fail
          (with_reducible refine (raised_any _ _ (k + 1 - st) ((p.take (k + 1)).drop st) (-(st : Int)) wr HLN.out (by omega) HCUT.out HVV.out (by omega)).mono ?_)
          rintro e w2 ⟨A2, c2, rfl, _, _, own2, hb2⟩
          have hown2 := own_below hown hb2
          have hbw := hb.trans (hb2.mono hsz)
          have hwz : w.heap.size ≤ w2.heap.size := hbw.size
          clear own2 hown hb2
          generalize (((p.take (k + 1)).drop st).map (· + -(st : Int))).length = L
          go_wp2_with (at_builtin; refine wpList_append_own _ rfl _ _ 26 rfl (w.heap.size) 24 j0 (.slice none 0 0) 1 24 Tryz.underlying26 hj hy0 hy1 hy2 rfl (by decide) _ _ _ rfl (World.ownsRow.alloc hown2 _) ⟨w2.heap.size, 0, none⟩ 1 1 [Value.slice A2 L c2] rfl rfl (cell_one_at _ _ (by simp)) (by intro u hu; simp at hu; subst hu; rfl) (by unfold maxLen; omega) (by omega) (by simp; omega) ?_; intro v9 w9 hown9 hgrow9 _)
          obtain ⟨A3, c3, rfl, _, _⟩ := own_shape hown9
          have hb3 := (hbw.alloc hwz _).grown hgrow9 (by simp; omega) (fun g hg => (hown2.lt g hg).1)
          have K := Lib.hid (And.intro hown9 hb3)
          clear hown9 hgrow9 hb3 hown2 hbw
          go_wp2_with fail
          go_roundw
          case rel => exact ⟨k + 1, k + 1, A3, c3, _, by omega, Nat.le_refl _, by go_num, by go_num, by rw [HV.out], by rw [HE.out], by rw [HE.out]; exact K.out.1, K.out.2⟩
          case measure => simp [intOf]; omega
        · have HV := Lib.hid (show pmax p (k + 1) = pmax p k by rw [HM.out]; omega)
          have dq : (pmax p k == (k : Int) + 1) = true := by rw [← HV.out, heq]; simp
          clear heq
          go_wp2_with fail
          (with_reducible refine (raised_any _ _ (k + 1 - st) ((p.take (k + 1)).drop st) (-(st : Int)) wr HLN.out (by omega) HCUT.out HVV.out (by omega)).mono ?_)
          rintro e w2 ⟨A2, c2, rfl, _, _, own2, hb2⟩
          have hown2 := own_below hown hb2
          have hbw := hb.trans (hb2.mono hsz)
          have hwz : w.heap.size ≤ w2.heap.size := hbw.size
          clear own2 hown hb2
          generalize (((p.take (k + 1)).drop st).map (· + -(st : Int))).length = L
          go_wp2_with (at_builtin; refine wpList_append_own _ rfl _ _ 26 rfl (w.heap.size) 24 j0 (.slice none 0 0) 1 24 Tryz.underlying26 hj hy0 hy1 hy2 rfl (by decide) _ _ _ rfl (World.ownsRow.alloc hown2 _) ⟨w2.heap.size, 0, none⟩ 1 1 [Value.slice A2 L c2] rfl rfl (cell_one_at _ _ (by simp)) (by intro u hu; simp at hu; subst hu; rfl) (by unfold maxLen; omega) (by omega) (by simp; omega) ?_; intro v9 w9 hown9 hgrow9 _)
          obtain ⟨A3, c3, rfl, _, _⟩ := own_shape hown9
          have hb3 := (hbw.alloc hwz _).grown hgrow9 (by simp; omega) (fun g hg => (hown2.lt g hg).1)
          have K := Lib.hid (And.intro hown9 hb3)
          clear hown9 hgrow9 hb3 hown2 hbw
          go_wp2_with fail
          go_roundw
          case rel => exact ⟨k + 1, k + 1, A3, c3, _, by omega, Nat.le_refl _, by go_num, by go_num, by rw [HV.out], by rw [HE.out], by rw [HE.out]; exact K.out.1, K.out.2⟩
          case measure => simp [intOf]; omega
      · have HE := Lib.hid (show sumN p (k + 1) = sumN p k by rw [HS.out, if_neg heq])
        by_cases hmx : pmax p k < p[k]
        · have HV := Lib.hid (show pmax p (k + 1) = p[k] by rw [HM.out]; omega)
          have dq : (p[k] == (k : Int) + 1) = false := by rw [← HV.out]; simpa using heq
          clear heq
          go_wp2_with fail
          go_roundw
          case rel => exact ⟨k + 1, st, A1, c1, vs, by omega, by omega, by go_num, rfl, by rw [HV.out], by rw [HE.out], by rw [HE.out]; exact hown, hb⟩
          case measure => simp [intOf]; omega
        · have HV := Lib.hid (show pmax p (k + 1) = pmax p k by rw [HM.out]; omega)
          have dq : (pmax p k == (k : Int) + 1) = false := by rw [← HV.out]; simpa using heq
          clear heq
          go_wp2_with fail
          go_roundw
          case rel => exact ⟨k + 1, st, A1, c1, vs, by omega, by omega, by go_num, rfl, by rw [HV.out], by rw [HE.out], by rw [HE.out]; exact hown, hb⟩
          case measure => simp [intOf]; omega
    · obtain rfl : k = p.length := by omega
      go_wp2_with fail
      go_ret
      exact ⟨A1, c1, rfl, hb⟩
theorem l1Max_b (a b m : Int) (w : World) (hm : max a b = m) : Calls Tryz.prog 42 #[.int .i64 a, .int .i64 b] w fun e w' => e = .returned (.int .i64 m) ∧ w = w' := by
  have HM := Lib.hid hm
  clear hm
  by_cases h : b < a
  · have HE := Lib.hid (show m = a by rw [← HM.out]; omega)
    go_enter Tryz.func42, Tryz.ntmps42
    go_wp2
    go_ret
    exact ⟨by rw [HE.out]; rfl, rfl⟩
  · have HE := Lib.hid (show m = b by rw [← HM.out]; omega)
    go_enter Tryz.func42, Tryz.ntmps42
    go_wp2
    go_ret
    exact ⟨by rw [HE.out]; rfl, rfl⟩
def sumG (p : List Int) : Nat := if permB p = true then sumN p p.length else 0
set_option maxHeartbeats 4000000 in
theorem sumParts_spec (A : Option Addr) (c : Nat) (p : List Int) (w : World) (h : In w A c p) :
    Calls Tryz.prog 62 #[.slice A p.length c] w (RetLen w (sumG p)) := by
  obtain ⟨j0, hj, hy0, hy1, hy2⟩ := info_parts infoL
  have hcap := h.cap
  have hb00 := (Below.refl w.heap.size w).alloc (Nat.le_refl _) (.cells #[] 24)
  have hown00 : (w.alloc (.cells #[] 24)).ownsRow w.heap.size 24 1 (.slice (some ⟨w.heap.size, 0, none⟩) 0 0) 0 [] := World.ownsRow_lit w #[] 0 (Nat.le_refl _) (by unfold maxLen; omega) rfl
  by_cases hp : permB p = true
  · obtain ⟨h8, hr, _⟩ := permB_true hp
    have hbd : ∀ v ∈ p, 1 ≤ v ∧ v ≤ 8 := fun v hv => by have := hr v hv; omega
    have HP := Lib.hid hp
    have HG := Lib.hid (show sumG p = sumN p p.length by unfold sumG; rw [if_pos hp])
    clear hp hr
    go_enter Tryz.func62, Tryz.ntmps62
    go_wp2_with fail
    (with_reducible refine (isPerm_sb A c p _ true (h.next hb00) HP.out).mono ?_)
    rintro e w1 ⟨rfl, hd1⟩
    have hb0 := below_dr hb00 hd1
    have hown0 := hd1.own hown00
    clear hb00 hown00
    go_wp2_with fail
    go_loopw [3, 4, 5, 6] (fun v s t i wr => ∃ (k st : Nat) (A1 : Option Addr) (c1 : Nat) (vs : List Value), k ≤ p.length ∧ st ≤ k ∧ i = .int .i64 k ∧ s = .int .i64 st ∧ t = .int .i64 (pmax p k) ∧ v = .slice A1 (sumN p k) c1 ∧ wr.ownsRow w.heap.size 24 1 (.slice A1 (sumN p k) c1) (sumN p k) vs ∧ Below w.heap.size w wr) (fun _ _ _ i _ => p.length - (intOf i).toNat)
    case atStart => exact ⟨0, 0, _, _, [], Nat.zero_le _, Nat.le_refl _, rfl, rfl, rfl, rfl, hown0, hb0⟩
    case round =>
      clear hown0 hb0
      obtain ⟨k, st, A1, c1, vs, hk, hst, rfl, rfl, rfl, rfl, hown, hb⟩ := hrel
      have hsz := hb.size
      have hpm := pmax_bd hbd k
      have hpm2 := pmax_bd hbd (k + 1)
      have hsn := sumN_le p k
      rcases Nat.lt_or_ge k p.length with hlt | hge
      · obtain ⟨b, off, rfl, hbb, hc⟩ := (h.next hb).rd (by omega)
        have cc := hc k hlt
        have hvk := hbd p[k] (List.getElem_mem hlt)
        have HM := Lib.hid (pmax_succ p k hlt)
        have HS := Lib.hid (sumN_succ p k)
        have HCUT := Lib.hid (((h.next hb).rd.take (k + 1)).cut (k := st) (c := c) (by simp; omega) (by simp; omega))
        have hsl := fun w => run_cut2 (P := Tryz.prog) (t := 24) Tryz.underlying24 sizeI (some ⟨b, off, none⟩) p.length c st (k + 1) (st : Int) ((k : Int) + 1) rfl (by omega) (by omega) (by omega) w
        clear hc
        have HLN := Lib.hid (show ((p.take (k + 1)).drop st).length = k + 1 - st by simp; omega)
        by_cases heq : pmax p (k + 1) = (k : Int) + 1
        · have HE := Lib.hid (show sumN p (k + 1) = sumN p k + 1 by rw [HS.out, if_pos heq])
          have dq : (pmax p (k + 1) == (k : Int) + 1) = true := by rw [heq]; simp
          clear heq
          go_wp2_with fail
          (with_reducible refine (l1Max_b (pmax p k) p[k] (pmax p (k + 1)) wr HM.out.symm).mono ?_)
          rintro e w' ⟨rfl, rfl⟩
          go_wp2_with fail
          (with_reducible refine (pattern_spec _ _ (k + 1 - st) ((p.take (k + 1)).drop st) wr HLN.out (by omega) HCUT.out).mono ?_)
          rintro e w2 ⟨A2, c2, rfl, _, _, own2, hb2⟩
          have hown2 := own_below hown hb2
          have hbw := hb.trans (hb2.mono hsz)
          have hwz : w.heap.size ≤ w2.heap.size := hbw.size
          clear own2 hown hb2
          generalize (patL ((p.take (k + 1)).drop st)).length = L
          go_wp2_with (at_builtin; refine wpList_append_own _ rfl _ _ 26 rfl (w.heap.size) 24 j0 (.slice none 0 0) 1 24 Tryz.underlying26 hj hy0 hy1 hy2 rfl (by decide) _ _ _ rfl (World.ownsRow.alloc hown2 _) ⟨w2.heap.size, 0, none⟩ 1 1 [Value.slice A2 L c2] rfl rfl (cell_one_at _ _ (by simp)) (by intro u hu; simp at hu; subst hu; rfl) (by unfold maxLen; omega) (by omega) (by simp; omega) ?_; intro v9 w9 hown9 hgrow9 _)
          obtain ⟨A3, c3, rfl, _, _⟩ := own_shape hown9
          have hb3 := (hbw.alloc hwz _).grown hgrow9 (by simp; omega) (fun g hg => (hown2.lt g hg).1)
          have K := Lib.hid (And.intro hown9 hb3)
          clear hown9 hgrow9 hb3 hown2 hbw
          go_wp2_with fail
          go_roundw
          case rel => exact ⟨k + 1, k + 1, A3, c3, _, by omega, Nat.le_refl _, by go_num, by go_num, rfl, by rw [HE.out], by rw [HE.out]; exact K.out.1, K.out.2⟩
          case measure => simp [intOf]; omega
        · have HE := Lib.hid (show sumN p (k + 1) = sumN p k by rw [HS.out, if_neg heq])
          have dq : (pmax p (k + 1) == (k : Int) + 1) = false := by simpa using heq
          clear heq
          go_wp2_with fail
          (with_reducible refine (l1Max_b (pmax p k) p[k] (pmax p (k + 1)) wr HM.out.symm).mono ?_)
          rintro e w' ⟨rfl, rfl⟩
          go_wp2_with fail
          go_roundw
          case rel => exact ⟨k + 1, st, A1, c1, vs, by omega, by omega, by go_num, rfl, rfl, by rw [HE.out], by rw [HE.out]; exact hown, hb⟩
          case measure => simp [intOf]; omega
      · obtain rfl : k = p.length := by omega
        go_wp2_with fail
        go_ret
        rw [HG.out]
        exact ⟨A1, c1, rfl, hb⟩
  · have hpf : permB p = false := by simpa using hp
    have HP := Lib.hid hpf
    have HG := Lib.hid (show sumG p = 0 by unfold sumG; rw [if_neg hp])
    clear hp hpf
    go_enter Tryz.func62, Tryz.ntmps62
    go_wp2_with fail
    (with_reducible refine (isPerm_sb A c p _ false (h.next hb00) HP.out).mono ?_)
    rintro e w1 ⟨rfl, hd1⟩
    go_wp2_with fail
    go_ret
    rw [HG.out]
    exact ⟨_, _, rfl, below_dr hb00 hd1⟩

end Go.Proofs.YtldknpjeegdbmaaGreat

/- ClassCounts, program and reference. -/
namespace Go.Proofs.YtldknpjeegdbmaaGreat
set_option maxRecDepth 100000
open Go Go.RowKit

def ccG (X : List (List Int)) (n : Int) : List Int := if basisB X = true ∧ sixB n = true then (List.range (n.toNat + 1)).map fun k => ((clsL X k).length : Int) else []
theorem ccG_le (X : List (List Int)) (n : Int) : (ccG X n).length ≤ 1048576 := by
  unfold ccG
  by_cases h : basisB X = true ∧ sixB n = true
  · rw [if_pos h]
    have h6 : 0 ≤ n ∧ n ≤ 6 := by simpa [sixB] using h.2
    simp
    omega
  · rw [if_neg h]; simp
def cntsTo (F : Nat → Nat) (k : Nat) : List Int := (List.range k).map fun j => (F j : Int)
theorem cntsTo_succ (F : Nat → Nat) (k : Nat) : cntsTo F (k + 1) = cntsTo F k ++ [(F k : Int)] := by simp [cntsTo, List.range_succ]
theorem cntsTo_length (F : Nat → Nat) (k : Nat) : (cntsTo F k).length = k := by simp [cntsTo]

theorem grown_drewW {w w' : World} {row : Option Nat} (h : w.drew.grownBy w' row) : w.grownBy w' row := ⟨h.os, h.tape, h.output, h.size, h.block⟩


end Go.Proofs.YtldknpjeegdbmaaGreat

/- The draws of FnRuns: pairs of lists, numbers. -/
namespace Go.Proofs.YtldknpjeegdbmaaGreat
set_option maxRecDepth 100000
open Go Go.RowKit

/-- Two lists were drawn, both read. -/
def RetII (w : World) (ok : List Int → List Int → Prop) (en : Ending) (w' : World) : Prop :=
  ∃ D k xs E m ys, en = .returned (.tuple #[.slice D xs.length k, .slice E ys.length m]) ∧ ok xs ys ∧ In w' D k xs ∧ In w' E m ys ∧ Below w.heap.size w w'
theorem In.of_own {w : World} {base e c : Nat} {A : Option Addr} {xs : List Int} (h : w.ownsRow base e 1 (.slice A xs.length c) xs.length (xs.map (Value.int .i64))) (hl : xs.length ≤ 1048576) : In w A c xs := ⟨hl, (own_caps h).1, Rd.of_own h⟩
end Go.Proofs.YtldknpjeegdbmaaGreat

/- A mesh, or a pattern with joined places, that a draw builds in a box: what stands while it grows. Plain lemmas. -/
namespace Go.Proofs.YtldknpjeegdbmaaGreat
set_option maxRecDepth 100000
open Go Go.RowKit

/-- A block of another type is written. -/
theorem own_boxed {w : World} {base e n g i : Nat} {v u : Value} {xs : List Value} {cs : Array Value} {t : TypeId} (h : w.ownsRow base e 1 v n xs) (ho : w.heap[g]? = some (Obj.cells cs t (0, 0))) (hne : t ≠ e) : (w.setCell ⟨g, i, none⟩ u).ownsRow base e 1 v n xs := by
  refine own_span h (Span.set (p := ⟨g, i, none⟩) (Nat.le_refl g) (Nat.lt_succ_self g) u) fun q hq => ?_
  rcases h.2 with ⟨e1, _⟩ | ⟨g1, c1, cur1, e1', _, hh1, _⟩
  · rw [e1] at hq; cases hq
  · rw [e1'] at hq
    injection hq with hq
    have hq : g1 = q := hq
    subst hq
    by_cases hgq : g1 = g
    · subst hgq
      rw [ho] at hh1
      injection hh1 with hh1
      injection hh1 with _ ht _
      exact absurd ht hne
    · omega
theorem Own.boxed {w : World} {lo hi g i : Nat} {u : Value} {cs : Array Value} {t : TypeId} {rs : List Row} {os : List Outer} (h : Own w lo hi rs os) (ho : w.heap[g]? = some (Obj.cells cs t (0, 0))) (h1 : t ≠ 3) (h2 : t ≠ 24) : Own (w.setCell ⟨g, i, none⟩ u) lo hi rs os :=
  ⟨fun r hr => own_boxed (h.rows r hr) ho h1, h.lt, h.apart, fun o hq => own_boxed (h.outs o hq) ho h2, h.olt⟩
theorem own_noblock {w : World} {base e n g : Nat} {v : Value} {xs : List Value} {cs : Array Value} {t : TypeId} (h : w.ownsRow base e 1 v n xs) (ho : w.heap[g]? = some (Obj.cells cs t (0, 0))) (hne : t ≠ e) : some g ≠ v.ownBlock := by
  intro e'
  rcases h.2 with ⟨e1, _⟩ | ⟨g1, c1, cur1, e1, _, hh1, _⟩
  · rw [e1] at e'; cases e'
  · rw [e1] at e'
    injection e' with e'
    have e' : g = g1 := e'
    subst e'
    rw [ho] at hh1
    injection hh1 with hh1
    injection hh1 with _ ht _
    exact hne ht
theorem own_lit1 {w : World} {lo bl : Nat} {x : Int} (h : w.heap[bl]? = some (Obj.cells #[.int .i64 x] 3 (0, 0))) (hl : lo ≤ bl) : w.ownsRow lo 3 1 (.slice (some ⟨bl, 0, none⟩) [x].length 1) [x].length ([x].map (Value.int .i64)) :=
  ⟨rfl, .inr ⟨bl, 1, #[.int .i64 x], rfl, hl, h, Nat.le_refl _, by unfold maxLen; omega, rfl, rfl⟩⟩
theorem own_lit2 {w : World} {lo bl : Nat} {x y : Int} (h : w.heap[bl]? = some (Obj.cells #[.int .i64 x, .int .i64 y] 3 (0, 0))) (hl : lo ≤ bl) : w.ownsRow lo 3 1 (.slice (some ⟨bl, 0, none⟩) [x, y].length 2) [x, y].length ([x, y].map (Value.int .i64)) :=
  ⟨rfl, .inr ⟨bl, 2, #[.int .i64 x, .int .i64 y], rfl, hl, h, Nat.le_refl _, by unfold maxLen; omega, rfl, rfl⟩⟩
theorem sizeR_le2 {rs : List Row} (h : ∀ r ∈ rs, r.xs.length ≤ 2) : sizeR rs ≤ 2 * rs.length := by
  induction rs with
  | nil => exact Nat.le_refl _
  | cons r t ih =>
    have h1 := ih fun s hs => h s (List.mem_cons_of_mem _ hs)
    have h2 := h r List.mem_cons_self
    simp only [sizeR, List.map_cons, List.sum_cons, List.length_cons] at h1 ⊢
    omega
end Go.Proofs.YtldknpjeegdbmaaGreat

/- l8Draw: a pattern with joined places that is drawn. Written by gen/gend8.py. -/
namespace Go.Proofs.YtldknpjeegdbmaaGreat
set_option maxRecDepth 100000
open Go Go.RowKit

end Go.Proofs.YtldknpjeegdbmaaGreat

/- The draws of FnNears. -/
namespace Go.Proofs.YtldknpjeegdbmaaGreat
set_option maxRecDepth 100000
open Go Go.RowKit

set_option maxHeartbeats 800000 in
/-- One of a list of texts that is read. -/
theorem l1PickS_any (w : World) (q : Nat) (A : Option Addr) (c : Nat) (bs : List Int) (b : Nat) (n k : Nat) (xs : List ByteArray) (hnl : xs.length = n) (h0 : 0 < xs.length) (hl : xs.length ≤ 256) (hb : b ≠ q) (hbw : b < w.heap.size)
    (hr : ∀ j (h : j < xs.length), w.cell? ⟨b, j, none⟩ = some (.string xs[j])) (hc : Cur w q A c bs) :
    Calls Tryz.prog 82 #[.pointer (some ⟨q, 0, none⟩), .slice (some ⟨b, 0, none⟩) n k] w (fun en w' => ∃ t : ByteArray, en = .returned (.string t) ∧ t ∈ xs ∧ Drawn w w' q A c bs) := by
  subst hnl
  have HC := Lib.hid (l1Below_any w q A c bs (xs.length : Int) (by omega) hc)
  go_enter Tryz.func82, Tryz.ntmps82
  go_wp2_with fail
  (with_reducible refine HC.out.mono ?_)
  rintro e w1 ⟨x, rfl, hx, k1⟩
  obtain ⟨m, rfl⟩ := Int.eq_ofNat_of_zero_le hx.1
  have hm : m < xs.length := by have := hx.2.1 (by omega); omega
  have hcl : w1.cell? ⟨b, m, none⟩ = some (.string xs[m]) := by
    have h1 : w1.heap[b]? = w.heap[b]? := k1.span.block b hbw (by omega)
    rw [← hr m hm]
    exact World.cell?_of_block h1
  go_wp2_with fail
  go_ret
  exact ⟨_, rfl, List.getElem_mem hm, k1⟩
end Go.Proofs.YtldknpjeegdbmaaGreat

/- slices.CompactFunc of a list of rows: of equal neighbors the first one is kept. -/
namespace Go.Proofs.YtldknpjeegdbmaaGreat
set_option maxRecDepth 100000
open Go Go.RowKit

theorem compL_snoc (L : List (List Int)) (x y : List Int) : compL (L ++ [x] ++ [y]) = if x = y then compL (L ++ [x]) else compL (L ++ [x]) ++ [y] := by
  match L with
  | [] =>
    simp only [List.nil_append, List.cons_append, compL]
    by_cases h : x = y <;> simp [h]
  | [a] =>
    simp only [List.cons_append, List.nil_append, compL]
    by_cases h1 : a = x
    · by_cases h : x = y <;> simp [h1, h]
    · by_cases h : x = y <;> simp [h1, h]
  | a :: b :: t =>
    have ih := compL_snoc (b :: t) x y
    simp only [List.cons_append, compL] at ih ⊢
    by_cases h1 : a = b
    · rw [if_pos h1, if_pos h1]; exact ih
    · rw [if_neg h1, if_neg h1, ih]
      by_cases h : x = y
      · rw [if_pos h, if_pos h]
      · rw [if_neg h, if_neg h]; rfl
theorem compL_take (X : List (List Int)) (k : Nat) (h0 : 0 < k) (h : k < X.length) : compL (X.take (k + 1)) = if X[k - 1]'(by omega) = X[k] then compL (X.take k) else compL (X.take k) ++ [X[k]] := by
  have e1 : X.take k = X.take (k - 1) ++ [X[k - 1]'(by omega)] := by
    have := List.take_succ_eq_append_getElem (l := X) (i := k - 1) (by omega)
    rwa [Nat.sub_add_cancel h0] at this
  rw [List.take_succ_eq_append_getElem h, e1]
  exact compL_snoc _ _ _
section
variable {w w' : World} {base e g k n cap j : Nat} {V : List Value}
theorem own_beyond (h : w.ownsRow base e 1 (.slice (some ⟨g, 0, none⟩) k cap) k V) (hj : k ≤ j) (u : Value) : (w.setCell ⟨g, j, none⟩ u).ownsRow base e 1 (.slice (some ⟨g, 0, none⟩) k cap) k V := by
  refine ⟨h.1, ?_⟩
  rcases h.2 with ⟨e, _⟩ | ⟨g', cap', cur, hv, hb, hh, h1, h2, h3, h4⟩
  · cases e
  · injection hv with hv _ hc
    injection hv with hv
    injection hv with hv _ _
    subst hv hc
    refine .inr ⟨g, cap, cur.setIfInBounds j u, rfl, hb, obj_set hh u, h1, h2, by simpa using h3, ?_⟩
    rw [← h4, Array.toList_setIfInBounds, Nat.mul_one, List.take_set_of_le hj]
theorem grown_set (w : World) (g j : Nat) (u : Value) : w.grownBy (w.setCell ⟨g, j, none⟩ u) (some g) :=
  ⟨rfl, rfl, rfl, by simp [World.setCell], fun k _ hk => by
    simp only [World.setCell, Array.getElem?_modify]
    rw [if_neg (fun h => hk (by rw [h]))]⟩
theorem own_sets (vs : List Value) : ∀ (o : Nat) (w : World), w.ownsRow base e 1 (.slice (some ⟨g, 0, none⟩) k cap) k V → k ≤ o → (w.setCells g o vs).ownsRow base e 1 (.slice (some ⟨g, 0, none⟩) k cap) k V ∧ w.grownBy (w.setCells g o vs) (some g) := by
  induction vs with
  | nil => intro o w h _; exact ⟨h, World.grownBy.refl w _⟩
  | cons a t ih =>
    intro o w h ho
    obtain ⟨h1, h2⟩ := ih (o + 1) (w.setCell ⟨g, o, none⟩ a) (own_beyond h ho a) (by omega)
    exact ⟨h1, grown_trans (grown_set w g o a) h2⟩
theorem own_set_at (h : w.ownsRow base e 1 (.slice (some ⟨g, 0, none⟩) n cap) n V) (_ : j < n) (u : Value) : (w.setCell ⟨g, j, none⟩ u).ownsRow base e 1 (.slice (some ⟨g, 0, none⟩) n cap) n (V.set j u) := by
  exact (h.stored j u).1
end
theorem call_eqf (args : Array Value) (w : World) : (callFunc 36 args).run Tryz.prog w = .ok (.enter 36 args) w := by kernel_rfl
theorem zeroL (w : World) : (zeroValue 24).run Tryz.prog w = .ok (.slice none 0 0) w := by kernel_rfl
set_option maxHeartbeats 8000000 in
theorem compact_any (A : Option Addr) (c lo : Nat) (rs : List Row) (w : World) (hO : Own w lo w.heap.size rs [⟨A, c, rs.map Row.v⟩]) (hn : rs.length ≤ 1048576) (hr8 : ∀ r ∈ rs, r.xs.length ≤ 1048576) :
    Calls Tryz.prog 76 #[.slice A rs.length c, .func (.func 36) #[] #[]] w (RetP w lo A (compL (rs.map Row.xs))) := by
  have hcap := own_caps hO.out
  rw [List.length_map] at hcap
  have HR8 := Lib.hid hr8
  have hc63 : c ≤ 9223372036854775807 := by have := hcap.2; unfold maxLen at this; omega
  rcases Nat.lt_or_ge rs.length 2 with h2 | h2
  · have HE := Lib.hid (show compL (rs.map Row.xs) = rs.map Row.xs by
      match rs, h2 with
      | [], _ => rfl
      | [r], _ => rfl)
    go_enter Tryz.func76, Tryz.ntmps76
    have d0 : decide ((rs.length : Int) < 2) = true := decide_eq_true (by omega)
    go_wp2_with fail
    go_ret
    exact ⟨A, c, rs, rfl, HE.out.symm, hO, below_grown (Below.refl _ _)⟩
  have hcf := call_eqf
  obtain ⟨g, hgA, hglo, hglt⟩ : ∃ g, A = some ⟨g, 0, none⟩ ∧ lo ≤ g ∧ g < w.heap.size := by
    obtain ⟨g, cap, hv, h1, h3⟩ := hO.out.form (by rw [List.length_map]; omega)
    injection hv with hv _ _
    exact ⟨g, hv, h1, h3⟩
  subst hgA
  have HO := Lib.hid hO
  have hown0 := hO.outN (n := rs.length) (by simp)
  have d0 : decide ((rs.length : Int) < 2) = false := decide_eq_false (by omega)
  clear hr8 hO
  go_enter Tryz.func76, Tryz.ntmps76
  go_wp2_with fail
  go_loopw [5] (fun i wr => ∃ k : Nat, 0 < k ∧ k ≤ rs.length ∧ i = .int .i64 k ∧ Hid (compL ((rs.map Row.xs).take k) = (rs.map Row.xs).take k) ∧ Dr w wr) (fun i _ => rs.length - (intOf i).toNat)
  case atStart => exact ⟨1, by omega, by omega, rfl, Lib.hid (by
    match rs, h2 with
    | a :: b :: t, _ => rfl), Dr.refl _⟩
  case round =>
    obtain ⟨k, hk0, hk, rfl, HC, hd⟩ := hrel
    have hszr : wr.heap.size = w.heap.size := by rw [hd.heap]
    have HZ := Lib.hid hszr
    rcases Nat.lt_or_ge k rs.length with hlt | hge
    · have hOr := HO.out.dr hd
      have hRr := hOr.read
      have c0 := hRr.cellAt k hlt
      have c1 := hRr.cellAt (k - 1) (by omega)
      rw [Nat.zero_add] at c0 c1
      have c0d : wr.drew.cell? ⟨g, k, none⟩ = some (Value.slice rs[k].A rs[k].xs.length rs[k].c) := c0
      have c1d : wr.drew.cell? ⟨g, k - 1, none⟩ = some (Value.slice (rs[k - 1]'(by omega)).A (rs[k - 1]'(by omega)).xs.length (rs[k - 1]'(by omega)).c) := c1
      have e1 : IntKind.i64.wrap ((k : Int) - 1) = (k : Int) - 1 := IntWalk.i64_in _ (by omega)
      have e2 : ((k : Int) - 1).toNat = k - 1 := by omega
      have e3 : 0 ≤ (k : Int) - 1 := by omega
      have e4 : (k : Int) - 1 < (rs.length : Int) := by omega
      have e5 : (k : Int) < (rs.length : Int) := by omega
      have e6 : 0 ≤ (k : Int) := by omega
      have e7 : 1 ≤ (k : Int) := by omega
      have e8 : (k : Int) ≤ (rs.length : Int) := by omega
      have hx0 := ((hRr.rd rs[k] (List.getElem_mem hlt)).dr (w' := wr.drew) (Dr.refl _).drew).more (B' := wr.drew.heap.size) (by show _ ≤ wr.heap.size; omega)
      have hx1 := ((hRr.rd (rs[k - 1]'(by omega)) (List.getElem_mem _)).dr (w' := wr.drew) (Dr.refl _).drew).more (B' := wr.drew.heap.size) (by show _ ≤ wr.heap.size; omega)
      have hl0 := HR8.out rs[k] (List.getElem_mem hlt)
      have hl0' : rs[k].xs.length ≤ 4611686018427387904 := by omega
      have HT := Lib.hid (compL_take (rs.map Row.xs) k hk0 (by simpa using hlt))
      have hXk : (rs.map Row.xs)[k]'(by simpa using hlt) = rs[k].xs := by simp
      have hXk1 : (rs.map Row.xs)[k - 1]'(by rw [List.length_map]; omega) = (rs[k - 1]'(by omega)).xs := by simp
      have HXk := Lib.hid hXk
      have HXk1 := Lib.hid hXk1
      clear hXk hXk1 hOr hRr
      by_cases he : rs[k].xs = (rs[k - 1]'(by omega)).xs
      · have HS := Lib.hid (show compL ((rs.map Row.xs).take (k + 1)) = (rs.map Row.xs).take k by rw [HT.out, HXk.out, HXk1.out, if_pos he.symm, HC.out])
        have HD := Lib.hid (decide_eq_true he)
        clear he
        go_wp2_with fail
        go_region_held3 (fun v => v.cell? ⟨g, k, none⟩ = some ((Value.slice rs[k].A rs[k].xs.length rs[k].c)) ∧ v.cell? ⟨g, k - 1, none⟩ = some ((Value.slice (rs[k - 1]'(by omega)).A (rs[k - 1]'(by omega)).xs.length (rs[k - 1]'(by omega)).c))) (first | exact ⟨c0d, c1d⟩ | exact ⟨cq0, cq1⟩) ((first | (go_at_call 36; (with_reducible refine (equal_b _ _ _ _ _ _ _ _ wr.drew true rfl rfl hl0' hx0 hx1 HD.out).mono ?_); rintro e wq ⟨rfl, hdq⟩; have cq0 := (hdq.cell ⟨g, k, none⟩).trans c0d; have cq1 := (hdq.cell ⟨g, k - 1, none⟩).trans c1d) | fail))
        have hdr : Dr w wq := (hd.trans (Dr.refl _).drew).trans hdq
        have hownq := hdr.own hown0
        have HGR := Lib.hid (show w.grownBy wq (some g) from below_grown (below_dr (Below.refl _ _) hdr))
        have hkc : ¬ c = k := by omega
        have HTS := Lib.hid (show (rs.take k).Sublist (rs.take (k + 1)) by
          have e : rs.take k = (rs.take (k + 1)).take k := by rw [List.take_take, Nat.min_eq_left (Nat.le_succ k)]
          rw [e]; exact List.take_sublist _ _)
        have hsl : ∀ w, (Instr.slice 26 (.slice (some ⟨g, 0, none⟩) rs.length c) (some (.int .i64 (k : Int))) none none).run Tryz.prog w = .ok (.slice (some ⟨g, k, none⟩) (rs.length - k) (c - k)) w := fun w => by
          rw [run_cut (P := Tryz.prog) (t := 26) Tryz.underlying26 sizeL (some ⟨g, 0, none⟩) rs.length c k (k : Int) rfl (by omega) w]
          unfold cutA
          rw [if_neg hkc]
          simp [Addr.add, show k ≠ 0 by omega]
        clear c0 c1 c0d c1d cq0 cq1 hx0 hx1 hdq hdr
        go_wp2_with fail
        go_loopw [5, 7] (fun i i2 wq0 => ∃ (u : Nat) (kept : List Row) (V : List Value), 0 < u ∧ k + u ≤ rs.length ∧ i2 = .int .i64 u ∧ i = .int .i64 kept.length ∧ kept.length ≤ k + u - 1 ∧ Hid (kept.map Row.xs = compL ((rs.map Row.xs).take (k + u))) ∧ kept.Sublist (rs.take (k + u)) ∧
          wq0.ownsRow lo 24 1 (.slice (some ⟨g, 0, none⟩) rs.length c) rs.length V ∧ Hid (V.take kept.length = kept.map Row.v) ∧ Hid (∀ i, k + u - 1 ≤ i → V[i]? = (rs.map Row.v)[i]?) ∧ Hid (w.grownBy wq0 (some g))) (fun _ i2 _ => rs.length - k - (intOf i2).toNat)
        case atStart =>
          refine ⟨1, rs.take k, rs.map Row.v, by omega, by omega, rfl, by rw [List.length_take, Nat.min_eq_left hk], by rw [List.length_take]; omega, Lib.hid (by rw [HS.out, List.map_take]), HTS.out, hownq, Lib.hid (by rw [List.length_take, Nat.min_eq_left hk, List.map_take]), Lib.hid (fun _ _ => rfl), HGR⟩
        case round =>
          clear hownq
          obtain ⟨u, kept, V, hu0, hu, rfl, rfl, hkl, HKX, hsub, hV, HVT, HVR, HG⟩ := hrel
          obtain ⟨wo, rfl⟩ : ∃ wo : World, wo = wr := ⟨_, rfl⟩
          have hO3 : Own wo lo wo.heap.size rs [] := Own.kept HO.out (Nat.le_refl _) (by simp) (show w.grownBy wo (Value.slice (some ⟨g, 0, none⟩) rs.length c).ownBlock from HG.out)
          rcases Nat.lt_or_ge (k + u) rs.length with hul | hug
          · obtain ⟨q0, hq0⟩ : ∃ q : Row, q = rs[k + u] := ⟨_, rfl⟩
            obtain ⟨q1, hq1⟩ : ∃ q : Row, q = rs[k + (u - 1)]'(by omega) := ⟨_, rfl⟩
            have hq0m : q0 ∈ rs := by rw [hq0]; exact List.getElem_mem hul
            have hq1m : q1 ∈ rs := by rw [hq1]; exact List.getElem_mem _
            have c0 : wo.cell? ⟨g, k + u, none⟩ = some (Value.slice q0.A q0.xs.length q0.c) := by
              rw [hV.cellAt (k + u) (by omega), HVR.out (k + u) (by omega), List.getElem?_map, List.getElem?_eq_getElem hul, ← hq0]; rfl
            have c1 : wo.cell? ⟨g, k + (u - 1), none⟩ = some (Value.slice q1.A q1.xs.length q1.c) := by
              rw [hV.cellAt (k + (u - 1)) (by omega), HVR.out (k + (u - 1)) (by omega), List.getElem?_map, List.getElem?_eq_getElem (by omega), ← hq1]; rfl
            have c0d : wo.drew.cell? ⟨g, k + u, none⟩ = some (Value.slice q0.A q0.xs.length q0.c) := c0
            have c1d : wo.drew.cell? ⟨g, k + (u - 1), none⟩ = some (Value.slice q1.A q1.xs.length q1.c) := c1
            have i1 : IntKind.i64.wrap ((u : Int) - 1) = (u : Int) - 1 := IntWalk.i64_in _ (by omega)
            have i2 : ((u : Int) - 1).toNat = u - 1 := by omega
            have i3 : 0 ≤ (u : Int) - 1 := by omega
            have i4 : (u : Int) - 1 < ((rs.length - k : Nat) : Int) := by omega
            have i5 : (u : Int) < ((rs.length - k : Nat) : Int) := by omega
            have i6 : 0 ≤ (u : Int) := by omega
            have i7 : 1 ≤ (u : Int) := by omega
            have i8 : (u : Int) ≤ ((rs.length - k : Nat) : Int) := by omega
            have hy0 := ((hO3.read.rd q0 hq0m).dr (w' := wo.drew) (Dr.refl _).drew).more (B' := wo.drew.heap.size) (Nat.le_refl _)
            have hy1 := ((hO3.read.rd q1 hq1m).dr (w' := wo.drew) (Dr.refl _).drew).more (B' := wo.drew.heap.size) (Nat.le_refl _)
            have hm0 := HR8.out q0 hq0m
            have hm0' : q0.xs.length ≤ 4611686018427387904 := by omega
            have HT2 := Lib.hid (show compL ((rs.map Row.xs).take (k + u + 1)) = if q1.xs = q0.xs then compL ((rs.map Row.xs).take (k + u)) else compL ((rs.map Row.xs).take (k + u)) ++ [q0.xs] by
              have h1 := compL_take (rs.map Row.xs) (k + u) (by omega) (by simpa using hul)
              have h3 : (rs.map Row.xs)[k + u]'(by simpa using hul) = q0.xs := by rw [hq0]; simp
              have h4 : (rs.map Row.xs)[k + u - 1]'(by rw [List.length_map]; omega) = q1.xs := by rw [hq1]; simp only [List.getElem_map, show k + u - 1 = k + (u - 1) by omega]
              rw [h1, h3, h4])
            have HSL := Lib.hid (show kept.Sublist (rs.take (k + u + 1)) ∧ (kept ++ [q0]).Sublist (rs.take (k + u + 1)) by
              rw [List.take_succ_eq_append_getElem hul, ← hq0]
              exact ⟨hsub.trans (List.sublist_append_left _ _), hsub.append (List.Sublist.refl _)⟩)
            have hlen : ((rs.length - k : Nat) : Int) = (rs.length : Int) - (k : Int) := by omega
            have HLEN := Lib.hid hlen
            clear hlen hq0 hq1 hq0m hq1m hO3 hsub
            by_cases he : q0.xs = q1.xs
            · have HS2 := Lib.hid (show kept.map Row.xs = compL ((rs.map Row.xs).take (k + (u + 1))) by rw [show k + (u + 1) = k + u + 1 by omega, HT2.out, if_pos he.symm]; exact HKX.out)
              have HD := Lib.hid (decide_eq_true he)
              clear he
              go_wp2_with fail
              go_region_held3 (fun v => v.cell? ⟨g, k + u, none⟩ = some (Value.slice q0.A q0.xs.length q0.c) ∧ v.cell? ⟨g, k + (u - 1), none⟩ = some (Value.slice q1.A q1.xs.length q1.c)) (first | exact ⟨c0d, c1d⟩ | exact ⟨cq0, cq1⟩) ((first | (go_at_call 36; (with_reducible refine (equal_b _ _ _ _ _ _ _ _ wo.drew true rfl rfl hm0' hy0 hy1 HD.out).mono ?_); rintro e wq ⟨rfl, hdq⟩; have cq0 := (hdq.cell ⟨g, k + u, none⟩).trans c0d; have cq1 := (hdq.cell ⟨g, k + (u - 1), none⟩).trans c1d) | fail))
              have hdo := (Dr.refl wo).drew.trans hdq
              have hVq := hdo.own hV
              go_wp2_with fail
              go_roundw
              case rel => exact ⟨u + 1, kept, V, by omega, by omega, by go_num, rfl, by omega, HS2, HSL.out.1, hVq, HVT, Lib.hid (fun i hi => HVR.out i (by omega)), Lib.hid (grown_trans HG.out (below_grown (below_dr (Below.refl _ _) hdo)))⟩
              case measure => simp [intOf]; omega
            · have HS2 := Lib.hid (show (kept ++ [q0]).map Row.xs = compL ((rs.map Row.xs).take (k + (u + 1))) by
                rw [show k + (u + 1) = k + u + 1 by omega, HT2.out, if_neg (fun h => he h.symm), List.map_append, HKX.out]; rfl)
              have HD := Lib.hid (decide_eq_false he)
              clear he
              go_wp2_with fail
              go_region_held3 (fun v => v.cell? ⟨g, k + u, none⟩ = some (Value.slice q0.A q0.xs.length q0.c) ∧ v.cell? ⟨g, k + (u - 1), none⟩ = some (Value.slice q1.A q1.xs.length q1.c)) (first | exact ⟨c0d, c1d⟩ | exact ⟨cq0, cq1⟩) ((first | (go_at_call 36; (with_reducible refine (equal_b _ _ _ _ _ _ _ _ wo.drew false rfl rfl hm0' hy0 hy1 HD.out).mono ?_); rintro e wq ⟨rfl, hdq⟩; have cq0 := (hdq.cell ⟨g, k + u, none⟩).trans c0d; have cq1 := (hdq.cell ⟨g, k + (u - 1), none⟩).trans c1d) | fail))
              have hdo := (Dr.refl wo).drew.trans hdq
              have hVq := hdo.own hV
              have hVl := own_len hV
              have cz : wq.cell? ⟨g, kept.length, none⟩ = some (V[kept.length]'(by omega)) := by rw [hVq.cellAt kept.length (by omega)]; exact List.getElem?_eq_getElem (by omega)
              have fz : wq.frozen? ⟨g, kept.length, none⟩ = false := hVq.frozenAt kept.length
              have hVs := own_set_at hVq (show kept.length < rs.length by omega) (Value.slice q0.A q0.xs.length q0.c)
              have HVT2 := Lib.hid (show (V.set kept.length (Value.slice q0.A q0.xs.length q0.c)).take (kept ++ [q0]).length = (kept ++ [q0]).map Row.v by
                rw [List.length_append, List.length_singleton, List.take_succ_eq_append_getElem (by rw [List.length_set]; omega), List.take_set_of_le (Nat.le_refl _), HVT.out, List.getElem_set_self, List.map_append]; rfl)
              have HVR2 := Lib.hid (show ∀ i, k + (u + 1) - 1 ≤ i → (V.set kept.length (Value.slice q0.A q0.xs.length q0.c))[i]? = (rs.map Row.v)[i]? from fun i hi => by
                rw [List.getElem?_set_ne (by omega)]; exact HVR.out i (by omega))
              have HG2 := Lib.hid (show w.grownBy (wq.setCell ⟨g, kept.length, none⟩ (Value.slice q0.A q0.xs.length q0.c)) (some g) from grown_trans (grown_trans HG.out (below_grown (below_dr (Below.refl _ _) hdo))) (grown_set _ _ _ _))
              have j1 : (kept.length : Int) < (rs.length : Int) := by omega
              have HVS := Lib.hid hVs
              clear hVs hVq hdq cz fz
              have cz : wq.cell? ⟨g, kept.length, none⟩ = some (V[kept.length]'(by omega)) := by rw [(hdo.own hV).cellAt kept.length (by omega)]; exact List.getElem?_eq_getElem (by omega)
              have fz : wq.frozen? ⟨g, kept.length, none⟩ = false := (hdo.own hV).frozenAt kept.length
              clear hdo
              go_wp2_with fail
              go_roundw
              case rel => exact ⟨u + 1, kept ++ [q0], _, by omega, by omega, by go_num, by rw [List.length_append]; go_num, by rw [List.length_append, List.length_singleton]; omega, HS2, HSL.out.2, HVS.out, HVT2, HVR2, HG2⟩
              case measure => simp [intOf]; omega
          · obtain rfl : u = rs.length - k := by omega
            have hkn : k + (rs.length - k) = rs.length := by omega
            have HKF := Lib.hid (show kept.map Row.xs = compL (rs.map Row.xs) by
              have h1 := HKX.out
              rw [hkn, List.take_of_length_le (by simp)] at h1; exact h1)
            have hsubr : kept.Sublist rs := hsub.trans (List.take_sublist _ _)
            have hkl2 : kept.length < rs.length := by omega
            have hVl := own_len hV
            have hkc2 : ¬ c = kept.length := by omega
            have hsl3 : ∀ w, (Instr.slice 26 (.slice (some ⟨g, 0, none⟩) rs.length c) (some (.int .i64 (kept.length : Int))) none none).run Tryz.prog w = .ok (.slice (some ⟨g, kept.length, none⟩) (rs.length - kept.length) (c - kept.length)) w := fun w => by
              rw [run_cut (P := Tryz.prog) (t := 26) Tryz.underlying26 sizeL (some ⟨g, 0, none⟩) rs.length c kept.length (kept.length : Int) rfl (by omega) w]
              unfold cutA
              rw [if_neg hkc2]
              by_cases h0 : kept.length = 0 <;> simp [Addr.add, h0]
            have hcl : ∀ ty, (Builtin.clear_ #[26] ty #[.slice (some ⟨g, kept.length, none⟩) (rs.length - kept.length) (c - kept.length)]).run Tryz.prog wo = .ok (.tuple #[]) (wo.setCells g kept.length (List.replicate (rs.length - kept.length) (.slice none 0 0))) :=
              fun ty => Lib.run_clear_slice wo _ _ ty _ Tryz.underlying26 zeroL rfl rfl g kept.length _ _ (by omega) (fun j hj => by rw [hV.cellAt (kept.length + j) (by omega), List.getElem?_eq_getElem (by omega)]; rfl) (fun j _ => hV.frozenAt _)
            have hfin := own_sets (List.replicate (rs.length - kept.length) (Value.slice none 0 0)) kept.length wo (own_take hV (Nat.le_of_lt hkl2)) (Nat.le_refl _)
            rw [HVT.out] at hfin
            have hgw := grown_trans HG.out hfin.2
            have hOw := ((Own.kept HO.out (Nat.le_refl _) (by simp) (show w.grownBy _ (Value.slice (some ⟨g, 0, none⟩) rs.length c).ownBlock from hgw)).sub hsubr).with_ (A := some ⟨g, 0, none⟩) (c := c) (vs := kept.map Row.v) (by rw [List.length_map]; exact hfin.1) (Nat.le_refl _)
            have K := Lib.hid (And.intro hOw hgw)
            have hkcc : kept.length ≤ c := by omega
            clear hOw hgw hfin hsub hsubr hO3 hV
            go_wp2_with fail
            go_ret
            exact ⟨some ⟨g, 0, none⟩, c, kept, rfl, HKF.out, K.out.1, K.out.2⟩
      · have HS := Lib.hid (show compL ((rs.map Row.xs).take (k + 1)) = (rs.map Row.xs).take (k + 1) by
          rw [HT.out, HXk.out, HXk1.out, if_neg (fun h => he h.symm), HC.out, List.take_succ_eq_append_getElem (by simpa using hlt), HXk.out])
        have HD := Lib.hid (decide_eq_false he)
        clear he
        go_wp2_with fail
        go_region_held3 (fun v => v.cell? ⟨g, k, none⟩ = some ((Value.slice rs[k].A rs[k].xs.length rs[k].c)) ∧ v.cell? ⟨g, k - 1, none⟩ = some ((Value.slice (rs[k - 1]'(by omega)).A (rs[k - 1]'(by omega)).xs.length (rs[k - 1]'(by omega)).c))) (first | exact ⟨c0d, c1d⟩ | exact ⟨cq0, cq1⟩) ((first | (go_at_call 36; (with_reducible refine (equal_b _ _ _ _ _ _ _ _ wr.drew false rfl rfl hl0' hx0 hx1 HD.out).mono ?_); rintro e wq ⟨rfl, hdq⟩; have cq0 := (hdq.cell ⟨g, k, none⟩).trans c0d; have cq1 := (hdq.cell ⟨g, k - 1, none⟩).trans c1d) | fail))
        go_wp2_with fail
        go_roundw
        case rel => exact ⟨k + 1, by omega, by omega, by go_num, HS, (hd.trans (Dr.refl _).drew).trans hdq⟩
        case measure => simp [intOf]; omega
    · obtain rfl : k = rs.length := by omega
      have HE := Lib.hid (show compL (rs.map Row.xs) = rs.map Row.xs by have := HC.out; rwa [List.take_of_length_le (by simp)] at this)
      go_wp2_with fail
      go_ret
      exact ⟨_, c, rs, rfl, HE.out.symm, (HO.out.dr hd).wider (Nat.le_refl _) (by omega), below_grown (below_dr (Below.refl _ _) hd)⟩
end Go.Proofs.YtldknpjeegdbmaaGreat
