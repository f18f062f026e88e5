/- Copies and ordered lists of rows: l2Copy, l3Put, slices.Clone of a list of rows. -/
import Derived.Test.YthipikllgpnlhaaZ1
import Derived.Test.YthipikllgpnlhaaL3
import Derived.Test.YthipikllgpnlhaaR5
import Derived.Test.YthipikllgpnlhaaQ1
import Derived.Test.YthipikllgpnlhaaH3
import Derived.Deep.AppendLies
import Derived.Deep.RegionHeld3
import Derived.Deep.RegionLaw
import Derived.Deep.CutRange
import Derived.Deep.DeepCutAuto
namespace Go.Proofs.Ythipikllgpnlhaa
set_option maxRecDepth 100000
open Go Go.RowKit

/-- append of a list that is read, at a step of a region that draws its order. -/
theorem step_append_rd {P : Program} {α : Type} {f : α → Value} (w : World) {ops : Array Oper} {o : Oper} {a : Act} {K : Act → World → Prop} {Q : Exit → Act → World → Prop} {E : Prop} (hgd : o.guard = none) (s x : Operand) (t : TypeId)
    (ho : o.op = .call { callee := .builtin .append, args := #[s, x], argTypes := #[t, t] })
    (base : Nat) (e : TypeId) (i : TypeInfo) (z : Value) (bytes : Nat) (ht : P.underlying t = some (.slice e)) (hi : P.info? e = some i) (hz : i.zero = some z)
    (hsize : i.size = 1) (hby : i.bytes = bytes) (hzs : z.cells.size = 1)
    (v : Value) (n : Nat) (xs : List Value) (hs : a.eval s = v) (hown : w.ownsRow base e 1 v n xs)
    (B : Nat) (A : Option Addr) (c m : Nat) (ys : List α) (hx : a.eval x = .slice A m c) (hm : ys.length = m) (hr : Rd f w B A ys) (h1 : ∀ y, (f y).oneCell' = true)
    (h63 : n + m ≤ maxLen) (hbytes : (n + m) * bytes ≤ 140737488355328) (hbase : base ≤ w.heap.size)
    (h : ∀ v' w', w'.ownsRow base e 1 v' (n + m) (xs ++ ys.map f) → w.grownBy w' v.ownBlock → K (a.put o.dst v') w') :
    if Region.wanted o (yielded ops a.tmps) = true then Oper.wp P o a w K Q else E := by
  have hw : Region.wanted o (yielded ops a.tmps) = true := by simp [Region.wanted, hgd]
  rw [if_pos hw]
  obtain ⟨v', w', hr2, h2, h3⟩ := run_append_rd (P := P) w base t o.type e i z bytes ht hi hz hsize hby hzs v n xs hown B A c m ys hm hr h1 h63 hbytes hbase
  unfold Oper.wp execOp
  simp only [ho, resolve, invoke, builtin, Sem.run_bind, Sem.run_pure, Result.andThen_ok, List.map_toArray, List.map_cons, List.map_nil, hs, hx, hr2]
  exact h v' w' h2 h3

theorem obj_newH {w : World} {o : Obj} {H : Nat} (h : w.heap.size = H) : (w.alloc o).heap[H]? = some o := by subst h; exact obj_new w o
theorem obj_belowS {w w' : World} {g : Nat} {o : Obj} (h : w.heap[g]? = some o) (hb : Below w.heap.size w w') : w'.heap[g]? = some o := obj_below h hb (obj_lt h)
/-- A block of another type than what was appended to. -/
theorem obj_grownT {w w' : World} {G base e n : Nat} {cs : Array Value} {t : TypeId} {v : Value} {vs : List Value} (h : w.heap[G]? = some (.cells cs t (0, 0))) (hown : w.ownsRow base e 1 v n vs) (hne : t ≠ e) (hg : w.grownBy w' v.ownBlock) : w'.heap[G]? = some (.cells cs t (0, 0)) := by
  refine (hg.block G (obj_lt h) (fun he => ?_)).trans h
  rcases hown.2 with ⟨rfl, _⟩ | ⟨q, cap, cur, rfl, _, hh, _⟩
  · cases he
  · injection he with he
    subst he
    rw [h] at hh
    injection hh with hh
    injection hh with _ ht _
    exact hne ht
/-- step_append_lies, what was owned handed on. -/
theorem step_append_liesX {P : Program} (w : World) {ops : Array Oper} {o : Oper} {a : Act} {K : Act → World → Prop} {Q : Exit → Act → World → Prop} {E : Prop} (hgd : o.guard = none) (s x : Operand) (t : TypeId)
    (ho : o.op = .call { callee := .builtin .append, args := #[s, x], argTypes := #[t, t] })
    (base : Nat) (e : TypeId) (i : TypeInfo) (z : Value) (size bytes : Nat) (ht : P.underlying t = some (.slice e)) (hi : P.info? e = some i) (hz : i.zero = some z)
    (hsize : i.size = size) (hby : i.bytes = bytes) (hzs : z.cells.size = size) (hsz : 0 < size)
    (v : Value) (n : Nat) (xs : List Value) (hs : a.eval s = v) (hown : w.ownsRow base e size v n xs)
    (ad : Addr) (m c : Nat) (news : List Value) (hx : a.eval x = .slice (some ad) m c) (hl : news.length = m * size) (hnews : ∀ j u, news[j]? = some u → w.cell? (ad.add j) = some u) (h1 : ∀ u ∈ news, u.oneCell' = true)
    (hm : 0 < m) (h63 : n + m ≤ maxLen) (hbytes : (n + m) * bytes ≤ 140737488355328) (hbase : base ≤ w.heap.size) (H : Nat) (hH : w.heap.size = H)
    (h : ∀ g cap w', w.ownsRow base e size v n xs → w'.ownsRow base e size (.slice (some ⟨g, 0, none⟩) (n + m) cap) (n + m) (xs ++ news) → w.grownBy w' v.ownBlock → (v.ownBlock = some g ∨ g = H) → g < w'.heap.size → K (a.put o.dst (.slice (some ⟨g, 0, none⟩) (n + m) cap)) w') :
    if Region.wanted o (yielded ops a.tmps) = true then Oper.wp P o a w K Q else E :=
  step_append_lies w hgd s x t ho base e i z size bytes ht hi hz hsize hby hzs hsz v n xs hs hown ad m c news hx hl hnews h1 hm h63 hbytes hbase H hH fun g cap w' => h g cap w' hown
theorem rowfact {V w4 : World} {b e1 n4 bl base e n : Nat} {v4 v : Value} {vs vs' : List Value} {cs : Array Value} {t : TypeId} (_ : w4.ownsRow b e1 1 v4 n4 (vs ++ [Value.slice (some ⟨bl, 0, none⟩) 2 2])) (hg : V.grownBy w4 v.ownBlock) (hown : V.ownsRow base e 1 v n vs') (hne : t ≠ e)
    (h : V.heap[bl]? = some (.cells cs t (0, 0))) : w4.heap[bl]? = some (.cells cs t (0, 0)) := obj_grownT h hown hne hg
theorem own_take {w : World} {base e n c k : Nat} {A : Option Addr} {vs : List Value} (h : w.ownsRow base e 1 (.slice A n c) n vs) (hk : k ≤ n) : w.ownsRow base e 1 (.slice A k c) k (vs.take k) := by
  have hl := own_len h
  refine ⟨by rw [List.length_take]; omega, ?_⟩
  rcases h.2 with ⟨hv, h0⟩ | ⟨g, cap, cur, hv, hb, hg, hnc, hcm, hcs, ht⟩
  · injection hv with h1 h2 h3
    subst h1 h3
    exact .inl ⟨by rw [show k = 0 by omega], by omega⟩
  · injection hv with h1 h2 h3
    subst h1 h3
    refine .inr ⟨g, c, cur, rfl, hb, hg, by omega, hcm, hcs, ?_⟩
    rw [← ht, Nat.mul_one, Nat.mul_one, List.take_take, Nat.min_eq_left hk]
theorem Own.kept {w w' : World} {lo hi n : Nat} {rs : List Row} {A : Option Addr} {c : Nat} {vs : List Value} (h : Own w lo hi rs [⟨A, c, vs⟩]) (hh : hi ≤ w.heap.size) (hn : vs.length = n) (hg : w.grownBy w' (Value.slice A n c).ownBlock) :
    Own w' lo w'.heap.size rs [] := by
  subst hn
  have hsz := hg.size
  exact ⟨fun r hr => (h.rows r hr).kept hg (by
      rcases hv : r.v.ownBlock with _ | g
      · exact .inl rfl
      · exact .inr fun e => own_ne h hr (List.mem_singleton.2 rfl) g hv e.symm), fun r hr g hg => by have := h.lt r hr g hg; omega, h.apart, fun _ ho => (List.not_mem_nil ho).elim, fun _ ho => (List.not_mem_nil ho).elim⟩
theorem ownBlock_len (A : Option Addr) (n m c c' : Nat) : (Value.slice A n c).ownBlock = (Value.slice A m c').ownBlock := by cases A <;> rfl

theorem below_grown {w w' : World} {row : Option Nat} (h : Below w.heap.size w w') : w.grownBy w' row := ⟨h.os, h.tape, h.output, h.size, fun k hk _ => h.block k hk⟩
theorem grown_then {w w' w'' : World} {row : Option Nat} {g H : Nat} (h : w.grownBy w' row) (k : w'.grownBy w'' (some g)) (hat : row = some g ∨ g = H) (hH : w.heap.size ≤ H) : w.grownBy w'' row :=
  ⟨k.os.trans h.os, k.tape.trans h.tape, k.output.trans h.output, Nat.le_trans h.size k.size, fun i hi hr => (k.block i (Nat.lt_of_lt_of_le hi h.size) (by
    rcases hat with e | e
    · rw [← e]; exact hr
    · intro he; injection he with he; omega)).trans (h.block i hi hr)⟩
theorem sizeL (w : World) : (sizeOf (Try.prog.elem 25)).run Try.prog w = .ok 1 w := by kernel_rfl
/-- A call's result: a list of rows of the call's own, the list that it was handed grown. -/
def RetP (w : World) (lo : Nat) (A : Option Addr) (L : List (List Int)) (e : Ending) (w' : World) : Prop :=
  ∃ A' c' rs, e = .returned (.slice A' rs.length c') ∧ rs.map Row.xs = L ∧ Own w' lo w'.heap.size rs [⟨A', c', rs.map Row.v⟩] ∧ w.grownBy w' (Value.slice A 0 0).ownBlock

set_option maxHeartbeats 2000000 in
theorem l2Copy_any (A : Option Addr) (c : Nat) (rs : List Row) (w : World) (h : InL w A c rs) :
    Calls Try.prog 119 #[.slice A rs.length c] w (RetL w (rs.map Row.xs)) := by
  obtain ⟨i0, hi, hz0, hz1, hz2⟩ := info_parts infoI
  obtain ⟨j0, hj, hy0, hy1, hy2⟩ := info_parts infoL
  have hlen := h.len
  have hlit := Own.lit (lo := w.heap.size) w (Nat.le_refl _)
  have hb0 := (Below.refl w.heap.size w).alloc (Nat.le_refl _) (.cells #[] 24)
  go_enter Try.func119, Try.ntmps119
  go_wp2_with fail
  go_loopw [3, 4] (fun v i wr => ∃ (k : Nat) (A1 : Option Addr) (c1 : Nat) (ds : List Row), k ≤ rs.length ∧ i = .int .i64 k ∧ v = .slice A1 ds.length c1 ∧ Hid (ds.map Row.xs = (rs.map Row.xs).take k) ∧ Own wr w.heap.size wr.heap.size ds [⟨A1, c1, ds.map Row.v⟩] ∧ Below w.heap.size w wr) (fun _ i _ => rs.length - (intOf i).toNat)
  case atStart => exact ⟨0, _, _, [], Nat.zero_le _, rfl, rfl, Lib.hid rfl, hlit, hb0⟩
  case round =>
    clear hlit hb0
    obtain ⟨k, A1, c1, ds, hk, rfl, rfl, HX, hO, hb⟩ := hrel
    have hdl : ds.length = k := by have := congrArg List.length HX.out; simp at this; omega
    rcases Nat.lt_or_ge k rs.length with hlt | hge
    · obtain ⟨b, off, rfl, _, hc⟩ := (h.next hb).read.at (by omega)
      have c1' := hc k hlt
      have hin := (h.next hb).row (List.getElem_mem hlt)
      have hrl := hin.len
      have hsz := hb.size
      have HD := Lib.hid hdl
      have hkd : ds.length ≤ 1048576 := by omega
      have HT := Lib.hid (show (rs.map Row.xs).take (k + 1) = (rs.map Row.xs).take k ++ [rs[k].xs] by rw [List.take_succ_eq_append_getElem (by simpa using hlt)]; simp)
      have own0 : (wr.alloc (.cells #[] 3)).ownsRow wr.heap.size 3 1 (.slice (some ⟨wr.heap.size, 0, none⟩) 0 0) 0 [] := World.ownsRow_lit wr #[] 0 (Nat.le_refl _) (by unfold maxLen; omega) rfl
      have hx0 := hin.rd.alloc (Nat.le_refl _) (.cells #[] 3)
      have hbA := (Below.refl wr.heap.size wr).alloc (Nat.le_refl _) (.cells #[] 3)
      clear hc hdl
      go_wp2_with (first
        | ((at_builtin; refine wpList_append_rd _ rfl _ _ 24 rfl (wr.heap.size) 3 i0 (.int .i64 0) 8 Try.underlying24 hi hz0 hz1 hz2 rfl _ _ _ rfl own0 _ _ _ _ (rs[k].xs) rfl rfl hx0 (fun _ => rfl) (by unfold maxLen; omega) (by omega) (by first | omega | (simp; done) | (simp; omega)) ?_; intro v1 w1 hown1 hgrow1)
           simp only [Nat.zero_add, List.nil_append] at hown1
           obtain ⟨A3, c3, rfl, _, _⟩ := own_shape hown1
           have hbB := hbA.grown hgrow1 (by simp) (fun g hg => (own0.lt g hg).1)
           have hszB := hbB.size
           have hO2 := (hO.below hbB).add (r := ⟨A3, c3, rs[k].xs⟩) hown1 hszB hb.size
           have ho2 := hO2.outN (n := ds.length) (by simp)
           clear hown1 hgrow1 hx0 own0 hbA)
        | (at_builtin; refine wpList_append_own _ rfl _ _ 25 rfl (w.heap.size) 24 j0 (.slice none 0 0) 1 24 Try.underlying25 hj hy0 hy1 hy2 rfl (by decide) _ _ _ rfl (World.ownsRow.alloc ho2 _) ⟨w1.heap.size, 0, none⟩ 1 1 [Value.slice A3 rs[k].xs.length c3] rfl rfl (cell_one_at _ _ (by simp)) (by intro u hu; simp at hu; subst hu; rfl) (by unfold maxLen; omega) (by omega) (by simp; omega) ?_; intro v9 w9 hown9 hgrow9 _))
      obtain ⟨A5, c5, rfl, hO3, hg3⟩ := hO2.grow (Nat.le_refl _) (by simp) hown9 hgrow9
      have hbw := (hb.trans (hbB.mono hb.size)).grown hg3 (by have := hb.size; omega) (fun g hg => (hO2.olim (by simp) g hg).1)
      have K := Lib.hid (And.intro hO3 hbw)
      clear hO3 hbw hown9 hgrow9 hg3 hO2 ho2 hbB hO hb
      go_wp2_with fail
      go_roundw
      case rel => exact ⟨k + 1, A5, c5, ds ++ [⟨A3, c3, rs[k].xs⟩], by omega, by go_num, by rw [List.length_append]; rfl, Lib.hid (by rw [HT.out, List.map_append, HX.out]; rfl), by simpa [Row.v] using K.out.1, K.out.2⟩
      case measure => simp [intOf]; omega
    · obtain rfl : k = rs.length := by omega
      have HT := Lib.hid (show (rs.map Row.xs).take rs.length = rs.map Row.xs from List.take_of_length_le (by simp))
      go_wp2_with fail
      go_ret
      exact ⟨A1, c1, ds, rfl, by rw [HX.out, HT.out], hO, hb⟩
theorem rd_rows {w : World} {B : Nat} {A : Option Addr} {rs : List Row} (h : Rd id w B A (rs.map Row.v)) : Rd Row.v w B A rs := fun h0 => by
  obtain ⟨b, off, e, hb, hc⟩ := h (by simpa using h0)
  exact ⟨b, off, e, hb, fun j hj => by rw [hc j (by simpa using hj)]; simp⟩
theorem read_rows {w : World} {B : Nat} {A : Option Addr} {c : Nat} {rs : List Row} (h : Read w B rs [⟨A, c, rs.map Row.v⟩]) : Rd Row.v w B A rs := rd_rows (h.ord _ (List.mem_singleton.2 rfl))
set_option maxHeartbeats 400000 in
theorem cloneL_any (A : Option Addr) (c : Nat) (rs : List Row) (w : World) (hlen : rs.length ≤ 1048576) (hx : Rd Row.v w w.heap.size A rs) :
    Calls Try.prog 117 #[.slice A rs.length c] w fun e w' => ∃ A' c', e = .returned (.slice A' rs.length c') ∧ w'.ownsRow w.heap.size 24 1 (.slice A' rs.length c') rs.length (rs.map Row.v) ∧ Below w.heap.size w w' := by
  obtain ⟨j0, hj, hy0, hy1, hy2⟩ := info_parts infoL
  have hnil := fun (w : World) (a : Option Addr) (l c : Nat) => Lib.run_eql_slice_nil (P := Try.prog) w 25 24 a l c 0 0 Try.underlying25
  cases A with
  | none =>
    have hx0 : rs = [] := by
      rcases Nat.eq_zero_or_pos rs.length with h0 | h0
      · exact List.eq_nil_of_length_eq_zero h0
      · obtain ⟨b, off, he, _⟩ := hx h0
        cases he
    subst hx0
    go_enter Try.func117, Try.ntmps117
    go_wp2
    go_ret
    exact ⟨none, 0, rfl, World.ownsRow_nil _ _ _ _, Below.refl _ _⟩
  | some ad =>
    have hown0 : (w.alloc (.cells #[] 24)).ownsRow w.heap.size 24 1 (.slice (some ⟨w.heap.size, 0, none⟩) 0 0) 0 [] := World.ownsRow_lit w #[] 0 (Nat.le_refl _) (by unfold maxLen; omega) rfl
    have hb0 := (Below.refl w.heap.size w).alloc (Nat.le_refl _) (.cells #[] 24)
    have hx0 := hx.alloc (Nat.le_refl _) (.cells #[] 24)
    go_enter Try.func117, Try.ntmps117
    go_wp2_with (at_builtin; refine wpList_append_rd _ rfl _ _ 25 rfl (w.heap.size) 24 j0 (.slice none 0 0) 24 Try.underlying25 hj hy0 hy1 hy2 rfl _ _ _ rfl hown0 _ _ _ _ (rs) rfl rfl hx0 (fun _ => rfl) (by unfold maxLen; omega) (by omega) (by first | omega | (simp; done) | (simp; omega)) ?_; intro v1 w1 hown1 hgrow1)
    have hb1 := hb0.grown hgrow1 (by simp) (by intro g hg; exact (hown0.lt g hg).1)
    simp only [Nat.zero_add, List.nil_append] at hown1
    obtain ⟨A1, c1, rfl, q1, q2⟩ := own_shape hown1
    go_wp2
    go_ret
    exact ⟨A1, c1, rfl, hown1, hb1⟩
theorem l2Before_b2 (A A' : Option Addr) (c c' n m : Nat) (xs ys : List Int) (w : World) (b : Bool) (hn : xs.length = n) (hm : ys.length = m) (hl : n ≤ 4611686018427387904) (hl' : m ≤ 4611686018427387904)
    (hx : Rd (Value.int .i64) w w.heap.size A xs) (hy : Rd (Value.int .i64) w w.heap.size A' ys) (hb : before xs ys = b) :
    Calls Try.prog 88 #[.slice A n c, .slice A' m c'] w (Rq w (.bool b)) := by
  subst hb; exact l2Before_any A A' c c' n m xs ys w hn hm hl hl' hx hy
set_option maxHeartbeats 4000000 in
theorem l3Put_any (A B : Option Addr) (c d lo : Nat) (rs : List Row) (p : List Int) (w : World) (hO : Own w lo w.heap.size rs [⟨A, c, rs.map Row.v⟩]) (hlo : lo ≤ w.heap.size) (hp : In w B d p)
    (hn : rs.length ≤ 1048576) (hr8 : ∀ r ∈ rs, r.xs.length ≤ 1048576) :
    Calls Try.prog 84 #[.slice A rs.length c, .slice B p.length d] w (RetP w lo A (putL (rs.map Row.xs) p)) := by
  obtain ⟨i0, hi, hz0, hz1, hz2⟩ := info_parts infoI
  obtain ⟨j0, hj, hy0, hy1, hy2⟩ := info_parts infoL
  have hpl := hp.len
  have hcap := (own_caps hO.out).1
  rw [List.length_map] at hcap
  have HR8 := Lib.hid hr8
  have HO := Lib.hid hO
  have HLO := Lib.hid hlo
  have hRd := hO.read
  clear hr8 hO hlo
  go_enter Try.func84, Try.ntmps84
  go_wp2_with fail
  go_loopw [5] (fun i wr => ∃ k : Nat, k ≤ rs.length ∧ i = .int .i64 k ∧ Hid (putAt (rs.map Row.xs) p rs.length = putAt (rs.map Row.xs) p k) ∧ Dr w wr) (fun i _ => (intOf i).toNat)
  case atStart => exact ⟨rs.length, Nat.le_refl _, rfl, Lib.hid rfl, Dr.refl _⟩
  case round =>
    obtain ⟨k, hk, rfl, HK, hd⟩ := hrel
    have hsz : wr.heap.size = w.heap.size := by rw [hd.heap]
    by_cases h0 : k = 0
    case' pos =>
      have d0 : decide ((k : Int) > 0) = false := decide_eq_false (by omega)
      have d0' : decide (0 < (k : Int)) = false := decide_eq_false (by omega)
      have d1 : decide (0 < k) = false := decide_eq_false (by omega)
      have d2 : ¬ 0 < k := by omega
      have HL := Lib.hid (show putL (rs.map Row.xs) p = (rs.map Row.xs).take k ++ p :: (rs.map Row.xs).drop k by
        have e : putAt (rs.map Row.xs) p (rs.map Row.xs).length = k := by
          rw [List.length_map, HK.out, h0]; rfl
        unfold putL
        rw [e, if_neg (by omega)])
      obtain ⟨wt, rfl⟩ : ∃ wt : World, wt = wr := ⟨_, rfl⟩
      have hdt := hd
      clear h0
      go_upto_region 6 with fail
    case' neg =>
      have hk0 : 0 < k := Nat.pos_of_ne_zero h0
      have d0 : decide ((k : Int) > 0) = true := decide_eq_true (by omega)
      have d0' : decide (0 < (k : Int)) = true := decide_eq_true (by omega)
      have hRr := (hRd.dr hd).more (B' := wr.heap.size) (by omega)
      obtain ⟨b, off, rfl, hbb, hc⟩ := hRr.at (by omega)
      have c1 := hc (k - 1) (by omega)
      have e1 : IntKind.i64.wrap ((k : Int) - 1) = (k : Int) - 1 := IntWalk.i64_in _ (by omega)
      have e2 : ((k : Int) - 1).toNat = k - 1 := by omega
      have e3 : 0 ≤ (k : Int) - 1 := by omega
      have e4 : (k : Int) - 1 < (rs.length : Int) := by omega
      obtain ⟨q, hq⟩ : ∃ q : Row, q = rs[k - 1]'(by omega) := ⟨_, rfl⟩
      have hqm : q ∈ rs := by rw [hq]; exact List.getElem_mem _
      have hql := HR8.out q hqm
      have hqr := hRr.rd q hqm
      have hpr := (hp.dr hd).rd
      rw [← hq] at c1
      have HXQ := Lib.hid (show (rs.map Row.xs)[k - 1]?.getD [] = q.xs by rw [hq]; simp [show k - 1 < rs.length by omega])
      have HSTEP := Lib.hid (show putAt (rs.map Row.xs) p k = if before p q.xs = true then putAt (rs.map Row.xs) p (k - 1) else k by
        obtain ⟨u, rfl⟩ : ∃ u, k = u + 1 := ⟨k - 1, by omega⟩
        have h := HXQ.out
        rw [Nat.add_sub_cancel] at h
        rw [putAt, h]; rfl)
      have HC := Lib.hid hc
      clear hq hc h0
      go_wp2_with fail
      by_cases hb : before p q.xs = true
      · have HT := Lib.hid (show putAt (rs.map Row.xs) p rs.length = putAt (rs.map Row.xs) p (k - 1) by rw [HK.out, HSTEP.out, if_pos hb])
        (with_reducible refine (l2Before_b2 B q.A d q.c p.length q.xs.length p q.xs wr true rfl rfl (by omega) (by omega) hpr hqr hb).mono ?_)
        rintro e w1 ⟨rfl, hd1⟩
        clear hb
        go_wp2_with fail
        go_roundw
        case rel => exact ⟨k - 1, by omega, by rw [Int.natCast_sub hk0]; rfl, HT, hd.trans hd1⟩
        case measure => simp [intOf]; omega
      have hbf : before p q.xs = false := by simpa using hb
      have HT := Lib.hid (show putAt (rs.map Row.xs) p rs.length = k by rw [HK.out, HSTEP.out, if_neg hb])
      (with_reducible refine (l2Before_b2 B q.A d q.c p.length q.xs.length p q.xs wr false rfl rfl (by omega) (by omega) hpr hqr hbf).mono ?_)
      rintro e w1 ⟨rfl, hd1⟩
      have hd2 := hd.trans hd1
      have c2 : w1.cell? ⟨b, off + (k - 1), none⟩ = some (Value.slice q.A q.xs.length q.c) := (hd1.cell _).trans c1
      have hsz2 : w1.heap.size = wr.heap.size := by rw [hd1.heap]
      have hqr2 := (hqr.dr hd1).more (B' := w1.heap.size) (by omega)
      have hpr2 := (hp.dr hd2).rd
      clear hb hbf
      go_wp2_with fail
      by_cases he : q.xs = p
      · have HE := Lib.hid (show putL (rs.map Row.xs) p = rs.map Row.xs by
          unfold putL
          rw [List.length_map, HT.out, if_pos ⟨hk0, by rw [HXQ.out]; exact he⟩])
        (with_reducible refine (l2Same_b q.A B q.c d q.xs.length p.length q.xs p w1 true rfl rfl (by omega) hqr2 hpr2 (decide_eq_true he)).mono ?_)
        rintro e w2 ⟨rfl, hd3⟩
        have hd4 := hd2.trans hd3
        have hsz4 : w2.heap.size = w.heap.size := by rw [hd4.heap]
        clear he
        go_wp2_with fail
        go_ret
        exact ⟨_, c, rs, rfl, HE.out.symm, (HO.out.dr hd4).wider (Nat.le_refl _) (by omega), below_grown (below_dr (Below.refl _ _) hd4)⟩
      have HL := Lib.hid (show putL (rs.map Row.xs) p = (rs.map Row.xs).take k ++ p :: (rs.map Row.xs).drop k by
        unfold putL
        rw [List.length_map, HT.out, if_neg (fun h => he (by rw [← HXQ.out]; exact h.2))])
      (with_reducible refine (l2Same_b q.A B q.c d q.xs.length p.length q.xs p w1 false rfl rfl (by omega) hqr2 hpr2 (decide_eq_false he)).mono ?_)
      rintro e w2 ⟨rfl, hd3⟩
      obtain ⟨wt, rfl⟩ : ∃ wt : World, wt = w2 := ⟨_, rfl⟩
      have hdt := hd2.trans hd3
      clear he c2 hqr2 hpr2 hsz2 c1 hqr hpr hqm hql e1 e2 e3 e4 hk0 hRr hd1 hd2 hd3
      go_upto_region 6 with fail
    all_goals
      have hszt : wt.heap.size = w.heap.size := by rw [hdt.heap]
      have hRt := (hRd.dr hdt).more (B' := wt.heap.size) (by omega)
      have hdrop := Rd.cut (k := k) (read_rows hRt) hk hcap
      have hsl := fun (A : Option Addr) w => run_cut (P := Try.prog) (t := 25) Try.underlying25 sizeL A rs.length c k (k : Int) rfl hk w
      have hOt := HO.out.dr hdt
      have hpt := (hp.dr hdt).rd
      have own0 : (wt.alloc (.cells #[] 24)).ownsRow wt.heap.size 24 1 (.slice (some ⟨wt.heap.size, 0, none⟩) 0 0) 0 [] := World.ownsRow_lit wt #[] 0 (Nat.le_refl _) (by unfold maxLen; omega) rfl
      have hx0 := hdrop.alloc (Nat.le_refl _) (.cells #[] 24)
      have hbA := (Below.refl wt.heap.size wt).alloc (Nat.le_refl _) (.cells #[] 24)
      have hdl : (rs.drop k).length = rs.length - k := List.length_drop
      have hkc : k ≤ c := Nat.le_trans hk hcap
      have HSZT := Lib.hid hszt
      clear hRt hdrop hszt hsz
      go_wp2_with (at_builtin; refine wpList_append_rd _ rfl _ _ 25 rfl (wt.heap.size) 24 j0 (.slice none 0 0) 24 Try.underlying25 hj hy0 hy1 hy2 rfl _ _ _ rfl own0 _ _ _ _ (rs.drop k) rfl hdl hx0 (fun _ => rfl) (by unfold maxLen; omega) (by omega) (by first | omega | (simp; done) | (simp; omega)) ?_; intro v1 w1 hown1 hgrow1)
      simp only [Nat.zero_add, List.nil_append] at hown1
      obtain ⟨R1, cr, rfl, _, _⟩ := own_shape hown1
      have hb1 : Below wt.heap.size wt w1 := hbA.grown hgrow1 (by simp) (fun g hg => (own0.lt g hg).1)
      have hsz1 := hb1.size
      have hszt := HSZT.out
      have hdd : Dr w1 w1.drew := (Dr.refl _).drew
      have hO1 := ((hOt.below hb1).dr hdd).wider (Nat.le_refl lo) (show w.heap.size ≤ w1.heap.size by omega)
      have hR1 := hdd.own hown1
      have hp1 : Rd (Value.int .i64) (w1.drew.alloc (.cells #[] 3)) w1.heap.size B p := (((hpt.below hb1).dr hdd).more (B' := w1.heap.size) (by omega)).alloc (Nat.le_refl _) _
      have own1 : (w1.drew.alloc (.cells #[] 3)).ownsRow w1.heap.size 3 1 (.slice (some ⟨w1.heap.size, 0, none⟩) 0 0) 0 [] := World.ownsRow_lit w1.drew #[] 0 (Nat.le_refl _) (by unfold maxLen; omega) rfl
      clear own0 hx0 hbA hgrow1 hown1 hszt
      go_wp2_with fail
      go_region_held3 (fun _ => True) (trivial) ((first
        | (refine step_append_rd _ (by rfl) _ _ _ (by rfl) w1.heap.size 3 i0 (.int .i64 0) 8 Try.underlying24 hi hz0 hz1 hz2 (by rfl) (Value.slice (some ⟨w1.heap.size, 0, none⟩) 0 0) 0 _ (by rfl) own1 _ B d p.length p (by rfl) rfl hp1 (fun _ => rfl) (by unfold maxLen; omega) (by omega) (by simp) ?_
           intro v2 w2 hown2 hgrow2
           simp only [Nat.zero_add, List.nil_append] at hown2
           obtain ⟨A2, c2, rfl, _, _⟩ := own_shape hown2
           have hb2 : Below w1.drew.heap.size w1.drew w2 := ((Below.refl w1.drew.heap.size w1.drew).alloc (Nat.le_refl _) _).grown hgrow2 (by simp) (fun g hg => (own1.lt g hg).1)
           have hsz2 : w1.heap.size ≤ w2.heap.size := hb2.size
           have hO2 := (hO1.below hb2).add (r := ⟨A2, c2, p⟩) hown2 hsz2 (show lo ≤ w1.heap.size by have h1 := HLO.out; have h2 := HSZT.out; omega)
           have hT2 := (own_take (hO2.outN (n := rs.length) (by simp)) hk).alloc (.cells #[Value.slice A2 p.length c2] 24)
           have hR2 := (own_below hR1 hb2).alloc (.cells #[Value.slice A2 p.length c2] 24)
           have hlo2 : lo ≤ w2.heap.size := by have h1 := HLO.out; have h2 := HSZT.out; omega)
        | (refine step_append_lies _ (by rfl) _ _ _ (by rfl) lo 24 j0 (.slice none 0 0) 1 24 Try.underlying25 hj hy0 hy1 hy2 rfl (by decide) _ k _ (by rfl) hT2 ⟨w2.heap.size, 0, none⟩ 1 1 [Value.slice A2 p.length c2] (by rfl) (by rfl) (cell_one_new _ _ _) (by intro u hu; simp at hu; subst hu; rfl) (by omega) (by unfold maxLen; omega) (by omega) (by simp; omega) (w2.heap.size + 1) (by simp) ?_
           intro g3 cap3 w3 hown3 hgrow3 hat3 hlt3
           have hgr3 := grown_trans (World.grownBy_alloc w2 (.cells #[Value.slice A2 p.length c2] 24) _) hgrow3
           have hR3 := hR2.kept hgrow3 (by
             rcases hv : (Value.slice R1 (rs.length - k) cr).ownBlock with _ | q
             · exact .inl rfl
             · refine .inr (fun e => ?_)
               have h1 := (hR1.lt q hv).1
               have h2 := (hOt.olim (n := rs.length) (by simp) q (by rw [e]; exact ownBlock_len _ _ _ _ _)).2
               have h3 := HSZT.out
               omega)
           have hRd3 : Rd Row.v w3 w3.heap.size R1 (rs.drop k) := Rd.of_own (c := cr) (by rw [hdl]; exact hR3)
           have hlo3 : lo ≤ w3.heap.size := by have := hgr3.size; omega)
        | (refine step_append_rd _ (by rfl) _ _ _ (by rfl) lo 24 j0 (.slice none 0 0) 24 Try.underlying25 hj hy0 hy1 hy2 (by rfl) (Value.slice (some ⟨g3, 0, none⟩) (k + 1) cap3) (k + 1) _ (by rfl) hown3 _ R1 cr (rs.length - k) (rs.drop k) (by rfl) hdl hRd3 (fun _ => rfl) (by unfold maxLen; omega) (by omega) (by omega) ?_
           intro v4 w4 hown4 hgrow4
           obtain ⟨A4, c4, rfl, _, _⟩ := own_shape hown4)
        | fail))
      have hlen4 : (rs.take k ++ (⟨A2, c2, p⟩ : Row) :: rs.drop k).length = k + 1 + (rs.length - k) := by simp; omega
      have hv3 : (Value.slice A2 p.length c2) = Row.v ⟨A2, c2, p⟩ := rfl
      have hb3 := (Below.refl w2.heap.size w2).alloc (Nat.le_refl _) (.cells #[Value.slice A2 p.length c2] 24)
      have hO3 := Own.kept (w' := w3) (hO2.below hb3) (by simp) (show (rs.map Row.v).length = rs.length by simp) (by rw [ownBlock_len _ rs.length k c c]; exact hgrow3)
      have hO3' := hO3.with_ (A := some ⟨g3, 0, none⟩) (c := cap3) (vs := (rs.map Row.v).take k ++ [Value.slice A2 p.length c2]) (by
        have hl : ((rs.map Row.v).take k ++ [Value.slice A2 p.length c2]).length = k + 1 := by simp; omega
        rw [hl]; exact hown3) (Nat.le_refl _)
      have hO4 := (Own.kept hO3' (Nat.le_refl _) (show ((rs.map Row.v).take k ++ [Value.slice A2 p.length c2]).length = k + 1 by simp; omega) hgrow4).perm (rs' := rs.take k ++ (⟨A2, c2, p⟩ : Row) :: rs.drop k) (by
        refine List.Perm.trans ?_ (List.perm_middle.symm)
        rw [List.take_append_drop]
        exact List.perm_append_comm)
      have hfin := hO4.with_ (A := A4) (c := c4) (vs := (rs.take k ++ (⟨A2, c2, p⟩ : Row) :: rs.drop k).map Row.v) (by
        rw [List.length_map, hlen4]
        have e : (rs.map Row.v).take k ++ [Value.slice A2 p.length c2] ++ (rs.drop k).map Row.v = (rs.take k ++ (⟨A2, c2, p⟩ : Row) :: rs.drop k).map Row.v := by simp [List.map_take, Row.v]
        rw [← e]; exact hown4) (Nat.le_refl _)
      have h1 : Below w.heap.size w w2 := by
        have hz := HSZT.out
        have ha := (below_dr (Below.refl w.heap.size w) hdt).trans (hb1.mono (by omega))
        exact (below_dr ha hdd).trans (hb2.mono (by show w.heap.size ≤ w1.heap.size; omega))
      have hgw := grown_then (grown_trans (below_grown h1) hgr3) hgrow4 hat3 (show w.heap.size ≤ w2.heap.size + 1 by have := h1.size; omega)
      have K := Lib.hid (And.intro hfin hgw)
      have HL4 := Lib.hid hlen4
      clear h1 hfin hgw hO4 hO3' hO3 hb3 hown4 hgrow4 hRd3 hR3 hgr3 hown3 hgrow3 hat3 hR2 hT2 hO2 hb2 hown2 hgrow2 own1 hp1 hR1 hO1 hv3 hlen4
      go_wp2_with fail
      go_ret
      exact ⟨A4, c4, rs.take k ++ (⟨A2, c2, p⟩ : Row) :: rs.drop k, by rw [HL4.out]; rfl, by rw [HL.out]; simp [List.map_take, List.map_drop], K.out.1, by rw [ownBlock_len _ 0 k 0 c]; exact K.out.2⟩
end Go.Proofs.Ythipikllgpnlhaa
