/- Several texts in one, each with its own head: Z2, D2, D3, G6, V5, V1, V3. No program of ours. -/
import Derived.Deep.AppendLies
import Derived.Deep.RegionHeld3
import Derived.Deep.RegionLaw
import Derived.Deep.CutRange
import Derived.Deep.DeepCutAuto
import Derived.RegionTactic
import Derived.ChangeAlike
import Derived.Test.YthipikllgpnlhaaMMeshes7
/- Copies and ordered lists of rows: l2Copy, l3Put, slices.Clone of a list of rows. -/
namespace Go.Proofs.Ythipikllgpnlhaa
set_option maxRecDepth 100000
open Go Go.RowKit

/-- append of a list that is read, at a step of a region that draws its order. -/
theorem step_append_rd {P : Program} {α : Type} {f : α → Value} (w : World) {ops : Array Oper} {o : Oper} {a : Act} {K : Act → World → Prop} {Q : Exit → Act → World → Prop} {E : Prop} (hgd : o.guard = none) (s x : Operand) (t : TypeId)
    (ho : o.op = .call { callee := .builtin .append, args := #[s, x], argTypes := #[t, t] })
    (base : Nat) (e : TypeId) (i : TypeInfo) (z : Value) (bytes : Nat) (ht : P.underlying t = some (.slice e)) (hi : P.info? e = some i) (hz : i.zero = some z)
    (hsize : i.size = 1) (hby : i.bytes = bytes) (hzs : z.cells.size = 1)
    (v : Value) (n : Nat) (xs : List Value) (hs : a.eval s = v) (hown : w.ownsRow base e 1 v n xs)
    (B : Nat) (A : Option Addr) (c m : Nat) (ys : List α) (hx : a.eval x = .slice A m c) (hm : ys.length = m) (hr : Rd f w B A ys) (h1 : ∀ y, (f y).oneCell' = true)
    (h63 : n + m ≤ maxLen) (hbytes : (n + m) * bytes ≤ 140737488355328) (hbase : base ≤ w.heap.size)
    (h : ∀ v' w', w'.ownsRow base e 1 v' (n + m) (xs ++ ys.map f) → w.grownBy w' v.ownBlock → K (a.put o.dst v') w') :
    if Region.wanted o (yielded ops a.tmps) = true then Oper.wp P o a w K Q else E := by
  have hw : Region.wanted o (yielded ops a.tmps) = true := by simp [Region.wanted, hgd]
  rw [if_pos hw]
  obtain ⟨v', w', hr2, h2, h3⟩ := run_append_rd (P := P) w base t o.type e i z bytes ht hi hz hsize hby hzs v n xs hown B A c m ys hm hr h1 h63 hbytes hbase
  unfold Oper.wp execOp
  simp only [ho, resolve, invoke, builtin, Sem.run_bind, Sem.run_pure, Result.andThen_ok, List.map_toArray, List.map_cons, List.map_nil, hs, hx, hr2]
  exact h v' w' h2 h3

theorem obj_newH {w : World} {o : Obj} {H : Nat} (h : w.heap.size = H) : (w.alloc o).heap[H]? = some o := by subst h; exact obj_new w o
theorem obj_belowS {w w' : World} {g : Nat} {o : Obj} (h : w.heap[g]? = some o) (hb : Below w.heap.size w w') : w'.heap[g]? = some o := obj_below h hb (obj_lt h)
/-- A block of another type than what was appended to. -/
theorem obj_grownT {w w' : World} {G base e n : Nat} {cs : Array Value} {t : TypeId} {v : Value} {vs : List Value} (h : w.heap[G]? = some (.cells cs t (0, 0))) (hown : w.ownsRow base e 1 v n vs) (hne : t ≠ e) (hg : w.grownBy w' v.ownBlock) : w'.heap[G]? = some (.cells cs t (0, 0)) := by
  refine (hg.block G (obj_lt h) (fun he => ?_)).trans h
  rcases hown.2 with ⟨rfl, _⟩ | ⟨q, cap, cur, rfl, _, hh, _⟩
  · cases he
  · injection he with he
    subst he
    rw [h] at hh
    injection hh with hh
    injection hh with _ ht _
    exact hne ht
/-- step_append_lies, what was owned handed on. -/
theorem step_append_liesX {P : Program} (w : World) {ops : Array Oper} {o : Oper} {a : Act} {K : Act → World → Prop} {Q : Exit → Act → World → Prop} {E : Prop} (hgd : o.guard = none) (s x : Operand) (t : TypeId)
    (ho : o.op = .call { callee := .builtin .append, args := #[s, x], argTypes := #[t, t] })
    (base : Nat) (e : TypeId) (i : TypeInfo) (z : Value) (size bytes : Nat) (ht : P.underlying t = some (.slice e)) (hi : P.info? e = some i) (hz : i.zero = some z)
    (hsize : i.size = size) (hby : i.bytes = bytes) (hzs : z.cells.size = size) (hsz : 0 < size)
    (v : Value) (n : Nat) (xs : List Value) (hs : a.eval s = v) (hown : w.ownsRow base e size v n xs)
    (ad : Addr) (m c : Nat) (news : List Value) (hx : a.eval x = .slice (some ad) m c) (hl : news.length = m * size) (hnews : ∀ j u, news[j]? = some u → w.cell? (ad.add j) = some u) (h1 : ∀ u ∈ news, u.oneCell' = true)
    (hm : 0 < m) (h63 : n + m ≤ maxLen) (hbytes : (n + m) * bytes ≤ 140737488355328) (hbase : base ≤ w.heap.size) (H : Nat) (hH : w.heap.size = H)
    (h : ∀ g cap w', w.ownsRow base e size v n xs → w'.ownsRow base e size (.slice (some ⟨g, 0, none⟩) (n + m) cap) (n + m) (xs ++ news) → w.grownBy w' v.ownBlock → (v.ownBlock = some g ∨ g = H) → g < w'.heap.size → K (a.put o.dst (.slice (some ⟨g, 0, none⟩) (n + m) cap)) w') :
    if Region.wanted o (yielded ops a.tmps) = true then Oper.wp P o a w K Q else E :=
  step_append_lies w hgd s x t ho base e i z size bytes ht hi hz hsize hby hzs hsz v n xs hs hown ad m c news hx hl hnews h1 hm h63 hbytes hbase H hH fun g cap w' => h g cap w' hown
theorem rowfact {V w4 : World} {b e1 n4 bl base e n : Nat} {v4 v : Value} {vs vs' : List Value} {cs : Array Value} {t : TypeId} (_ : w4.ownsRow b e1 1 v4 n4 (vs ++ [Value.slice (some ⟨bl, 0, none⟩) 2 2])) (hg : V.grownBy w4 v.ownBlock) (hown : V.ownsRow base e 1 v n vs') (hne : t ≠ e)
    (h : V.heap[bl]? = some (.cells cs t (0, 0))) : w4.heap[bl]? = some (.cells cs t (0, 0)) := obj_grownT h hown hne hg
theorem own_take {w : World} {base e n c k : Nat} {A : Option Addr} {vs : List Value} (h : w.ownsRow base e 1 (.slice A n c) n vs) (hk : k ≤ n) : w.ownsRow base e 1 (.slice A k c) k (vs.take k) := by
  have hl := own_len h
  refine ⟨by rw [List.length_take]; omega, ?_⟩
  rcases h.2 with ⟨hv, h0⟩ | ⟨g, cap, cur, hv, hb, hg, hnc, hcm, hcs, ht⟩
  · injection hv with h1 h2 h3
    subst h1 h3
    exact .inl ⟨by rw [show k = 0 by omega], by omega⟩
  · injection hv with h1 h2 h3
    subst h1 h3
    refine .inr ⟨g, c, cur, rfl, hb, hg, by omega, hcm, hcs, ?_⟩
    rw [← ht, Nat.mul_one, Nat.mul_one, List.take_take, Nat.min_eq_left hk]
theorem Own.kept {w w' : World} {lo hi n : Nat} {rs : List Row} {A : Option Addr} {c : Nat} {vs : List Value} (h : Own w lo hi rs [⟨A, c, vs⟩]) (hh : hi ≤ w.heap.size) (hn : vs.length = n) (hg : w.grownBy w' (Value.slice A n c).ownBlock) :
    Own w' lo w'.heap.size rs [] := by
  subst hn
  have hsz := hg.size
  exact ⟨fun r hr => (h.rows r hr).kept hg (by
      rcases hv : r.v.ownBlock with _ | g
      · exact .inl rfl
      · exact .inr fun e => own_ne h hr (List.mem_singleton.2 rfl) g hv e.symm), fun r hr g hg => by have := h.lt r hr g hg; omega, h.apart, fun _ ho => (List.not_mem_nil ho).elim, fun _ ho => (List.not_mem_nil ho).elim⟩
theorem ownBlock_len (A : Option Addr) (n m c c' : Nat) : (Value.slice A n c).ownBlock = (Value.slice A m c').ownBlock := by cases A <;> rfl

theorem below_grown {w w' : World} {row : Option Nat} (h : Below w.heap.size w w') : w.grownBy w' row := ⟨h.os, h.tape, h.output, h.size, fun k hk _ => h.block k hk⟩
theorem grown_then {w w' w'' : World} {row : Option Nat} {g H : Nat} (h : w.grownBy w' row) (k : w'.grownBy w'' (some g)) (hat : row = some g ∨ g = H) (hH : w.heap.size ≤ H) : w.grownBy w'' row :=
  ⟨k.os.trans h.os, k.tape.trans h.tape, k.output.trans h.output, Nat.le_trans h.size k.size, fun i hi hr => (k.block i (Nat.lt_of_lt_of_le hi h.size) (by
    rcases hat with e | e
    · rw [← e]; exact hr
    · intro he; injection he with he; omega)).trans (h.block i hi hr)⟩
theorem sizeL (w : World) : (sizeOf (Try.prog.elem 25)).run Try.prog w = .ok 1 w := by kernel_rfl
/-- A call's result: a list of rows of the call's own, the list that it was handed grown. -/
def RetP (w : World) (lo : Nat) (A : Option Addr) (L : List (List Int)) (e : Ending) (w' : World) : Prop :=
  ∃ A' c' rs, e = .returned (.slice A' rs.length c') ∧ rs.map Row.xs = L ∧ Own w' lo w'.heap.size rs [⟨A', c', rs.map Row.v⟩] ∧ w.grownBy w' (Value.slice A 0 0).ownBlock

set_option maxHeartbeats 2000000 in
theorem l2Copy_any (A : Option Addr) (c : Nat) (rs : List Row) (w : World) (h : InL w A c rs) :
    Calls Try.prog 119 #[.slice A rs.length c] w (RetL w (rs.map Row.xs)) := by
  obtain ⟨i0, hi, hz0, hz1, hz2⟩ := info_parts infoI
  obtain ⟨j0, hj, hy0, hy1, hy2⟩ := info_parts infoL
  have hlen := h.len
  have hlit := Own.lit (lo := w.heap.size) w (Nat.le_refl _)
  have hb0 := (Below.refl w.heap.size w).alloc (Nat.le_refl _) (.cells #[] 24)
  go_enter Try.func119, Try.ntmps119
  go_wp2_with fail
  go_loopw [3, 4] (fun v i wr => ∃ (k : Nat) (A1 : Option Addr) (c1 : Nat) (ds : List Row), k ≤ rs.length ∧ i = .int .i64 k ∧ v = .slice A1 ds.length c1 ∧ Hid (ds.map Row.xs = (rs.map Row.xs).take k) ∧ Own wr w.heap.size wr.heap.size ds [⟨A1, c1, ds.map Row.v⟩] ∧ Below w.heap.size w wr) (fun _ i _ => rs.length - (intOf i).toNat)
  case atStart => exact ⟨0, _, _, [], Nat.zero_le _, rfl, rfl, Lib.hid rfl, hlit, hb0⟩
  case round =>
    clear hlit hb0
    obtain ⟨k, A1, c1, ds, hk, rfl, rfl, HX, hO, hb⟩ := hrel
    have hdl : ds.length = k := by have := congrArg List.length HX.out; simp at this; omega
    rcases Nat.lt_or_ge k rs.length with hlt | hge
    · obtain ⟨b, off, rfl, _, hc⟩ := (h.next hb).read.at (by omega)
      have c1' := hc k hlt
      have hin := (h.next hb).row (List.getElem_mem hlt)
      have hrl := hin.len
      have hsz := hb.size
      have HD := Lib.hid hdl
      have hkd : ds.length ≤ 1048576 := by omega
      have HT := Lib.hid (show (rs.map Row.xs).take (k + 1) = (rs.map Row.xs).take k ++ [rs[k].xs] by rw [List.take_succ_eq_append_getElem (by simpa using hlt)]; simp)
      have own0 : (wr.alloc (.cells #[] 3)).ownsRow wr.heap.size 3 1 (.slice (some ⟨wr.heap.size, 0, none⟩) 0 0) 0 [] := World.ownsRow_lit wr #[] 0 (Nat.le_refl _) (by unfold maxLen; omega) rfl
      have hx0 := hin.rd.alloc (Nat.le_refl _) (.cells #[] 3)
      have hbA := (Below.refl wr.heap.size wr).alloc (Nat.le_refl _) (.cells #[] 3)
      clear hc hdl
      go_wp2_with (first
        | ((at_builtin; refine wpList_append_rd _ rfl _ _ 24 rfl (wr.heap.size) 3 i0 (.int .i64 0) 8 Try.underlying24 hi hz0 hz1 hz2 rfl _ _ _ rfl own0 _ _ _ _ (rs[k].xs) rfl rfl hx0 (fun _ => rfl) (by unfold maxLen; omega) (by omega) (by first | omega | (simp; done) | (simp; omega)) ?_; intro v1 w1 hown1 hgrow1)
           simp only [Nat.zero_add, List.nil_append] at hown1
           obtain ⟨A3, c3, rfl, _, _⟩ := own_shape hown1
           have hbB := hbA.grown hgrow1 (by simp) (fun g hg => (own0.lt g hg).1)
           have hszB := hbB.size
           have hO2 := (hO.below hbB).add (r := ⟨A3, c3, rs[k].xs⟩) hown1 hszB hb.size
           have ho2 := hO2.outN (n := ds.length) (by simp)
           clear hown1 hgrow1 hx0 own0 hbA)
        | (at_builtin; refine wpList_append_own _ rfl _ _ 25 rfl (w.heap.size) 24 j0 (.slice none 0 0) 1 24 Try.underlying25 hj hy0 hy1 hy2 rfl (by decide) _ _ _ rfl (World.ownsRow.alloc ho2 _) ⟨w1.heap.size, 0, none⟩ 1 1 [Value.slice A3 rs[k].xs.length c3] rfl rfl (cell_one_at _ _ (by simp)) (by intro u hu; simp at hu; subst hu; rfl) (by unfold maxLen; omega) (by omega) (by simp; omega) ?_; intro v9 w9 hown9 hgrow9 _))
      obtain ⟨A5, c5, rfl, hO3, hg3⟩ := hO2.grow (Nat.le_refl _) (by simp) hown9 hgrow9
      have hbw := (hb.trans (hbB.mono hb.size)).grown hg3 (by have := hb.size; omega) (fun g hg => (hO2.olim (by simp) g hg).1)
      have K := Lib.hid (And.intro hO3 hbw)
      clear hO3 hbw hown9 hgrow9 hg3 hO2 ho2 hbB hO hb
      go_wp2_with fail
      go_roundw
      case rel => exact ⟨k + 1, A5, c5, ds ++ [⟨A3, c3, rs[k].xs⟩], by omega, by go_num, by rw [List.length_append]; rfl, Lib.hid (by rw [HT.out, List.map_append, HX.out]; rfl), by simpa [Row.v] using K.out.1, K.out.2⟩
      case measure => simp [intOf]; omega
    · obtain rfl : k = rs.length := by omega
      have HT := Lib.hid (show (rs.map Row.xs).take rs.length = rs.map Row.xs from List.take_of_length_le (by simp))
      go_wp2_with fail
      go_ret
      exact ⟨A1, c1, ds, rfl, by rw [HX.out, HT.out], hO, hb⟩
theorem rd_rows {w : World} {B : Nat} {A : Option Addr} {rs : List Row} (h : Rd id w B A (rs.map Row.v)) : Rd Row.v w B A rs := fun h0 => by
  obtain ⟨b, off, e, hb, hc⟩ := h (by simpa using h0)
  exact ⟨b, off, e, hb, fun j hj => by rw [hc j (by simpa using hj)]; simp⟩
theorem read_rows {w : World} {B : Nat} {A : Option Addr} {c : Nat} {rs : List Row} (h : Read w B rs [⟨A, c, rs.map Row.v⟩]) : Rd Row.v w B A rs := rd_rows (h.ord _ (List.mem_singleton.2 rfl))
set_option maxHeartbeats 400000 in
theorem cloneL_any (A : Option Addr) (c : Nat) (rs : List Row) (w : World) (hlen : rs.length ≤ 1048576) (hx : Rd Row.v w w.heap.size A rs) :
    Calls Try.prog 117 #[.slice A rs.length c] w fun e w' => ∃ A' c', e = .returned (.slice A' rs.length c') ∧ w'.ownsRow w.heap.size 24 1 (.slice A' rs.length c') rs.length (rs.map Row.v) ∧ Below w.heap.size w w' := by
  obtain ⟨j0, hj, hy0, hy1, hy2⟩ := info_parts infoL
  have hnil := fun (w : World) (a : Option Addr) (l c : Nat) => Lib.run_eql_slice_nil (P := Try.prog) w 25 24 a l c 0 0 Try.underlying25
  cases A with
  | none =>
    have hx0 : rs = [] := by
      rcases Nat.eq_zero_or_pos rs.length with h0 | h0
      · exact List.eq_nil_of_length_eq_zero h0
      · obtain ⟨b, off, he, _⟩ := hx h0
        cases he
    subst hx0
    go_enter Try.func117, Try.ntmps117
    go_wp2
    go_ret
    exact ⟨none, 0, rfl, World.ownsRow_nil _ _ _ _, Below.refl _ _⟩
  | some ad =>
    have hown0 : (w.alloc (.cells #[] 24)).ownsRow w.heap.size 24 1 (.slice (some ⟨w.heap.size, 0, none⟩) 0 0) 0 [] := World.ownsRow_lit w #[] 0 (Nat.le_refl _) (by unfold maxLen; omega) rfl
    have hb0 := (Below.refl w.heap.size w).alloc (Nat.le_refl _) (.cells #[] 24)
    have hx0 := hx.alloc (Nat.le_refl _) (.cells #[] 24)
    go_enter Try.func117, Try.ntmps117
    go_wp2_with (at_builtin; refine wpList_append_rd _ rfl _ _ 25 rfl (w.heap.size) 24 j0 (.slice none 0 0) 24 Try.underlying25 hj hy0 hy1 hy2 rfl _ _ _ rfl hown0 _ _ _ _ (rs) rfl rfl hx0 (fun _ => rfl) (by unfold maxLen; omega) (by omega) (by first | omega | (simp; done) | (simp; omega)) ?_; intro v1 w1 hown1 hgrow1)
    have hb1 := hb0.grown hgrow1 (by simp) (by intro g hg; exact (hown0.lt g hg).1)
    simp only [Nat.zero_add, List.nil_append] at hown1
    obtain ⟨A1, c1, rfl, q1, q2⟩ := own_shape hown1
    go_wp2
    go_ret
    exact ⟨A1, c1, rfl, hown1, hb1⟩
theorem l2Before_b2 (A A' : Option Addr) (c c' n m : Nat) (xs ys : List Int) (w : World) (b : Bool) (hn : xs.length = n) (hm : ys.length = m) (hl : n ≤ 4611686018427387904) (hl' : m ≤ 4611686018427387904)
    (hx : Rd (Value.int .i64) w w.heap.size A xs) (hy : Rd (Value.int .i64) w w.heap.size A' ys) (hb : before xs ys = b) :
    Calls Try.prog 88 #[.slice A n c, .slice A' m c'] w (Rq w (.bool b)) := by
  subst hb; exact l2Before_any A A' c c' n m xs ys w hn hm hl hl' hx hy
set_option maxHeartbeats 4000000 in
theorem l3Put_any (A B : Option Addr) (c d lo : Nat) (rs : List Row) (p : List Int) (w : World) (hO : Own w lo w.heap.size rs [⟨A, c, rs.map Row.v⟩]) (hlo : lo ≤ w.heap.size) (hp : In w B d p)
    (hn : rs.length ≤ 1048576) (hr8 : ∀ r ∈ rs, r.xs.length ≤ 1048576) :
    Calls Try.prog 84 #[.slice A rs.length c, .slice B p.length d] w (RetP w lo A (putL (rs.map Row.xs) p)) := by
  obtain ⟨i0, hi, hz0, hz1, hz2⟩ := info_parts infoI
  obtain ⟨j0, hj, hy0, hy1, hy2⟩ := info_parts infoL
  have hpl := hp.len
  have hcap := (own_caps hO.out).1
  rw [List.length_map] at hcap
  have HR8 := Lib.hid hr8
  have HO := Lib.hid hO
  have HLO := Lib.hid hlo
  have hRd := hO.read
  clear hr8 hO hlo
  go_enter Try.func84, Try.ntmps84
  go_wp2_with fail
  go_loopw [5] (fun i wr => ∃ k : Nat, k ≤ rs.length ∧ i = .int .i64 k ∧ Hid (putAt (rs.map Row.xs) p rs.length = putAt (rs.map Row.xs) p k) ∧ Dr w wr) (fun i _ => (intOf i).toNat)
  case atStart => exact ⟨rs.length, Nat.le_refl _, rfl, Lib.hid rfl, Dr.refl _⟩
  case round =>
    obtain ⟨k, hk, rfl, HK, hd⟩ := hrel
    have hsz : wr.heap.size = w.heap.size := by rw [hd.heap]
    by_cases h0 : k = 0
    case' pos =>
      have d0 : decide ((k : Int) > 0) = false := decide_eq_false (by omega)
      have d0' : decide (0 < (k : Int)) = false := decide_eq_false (by omega)
      have d1 : decide (0 < k) = false := decide_eq_false (by omega)
      have d2 : ¬ 0 < k := by omega
      have HL := Lib.hid (show putL (rs.map Row.xs) p = (rs.map Row.xs).take k ++ p :: (rs.map Row.xs).drop k by
        have e : putAt (rs.map Row.xs) p (rs.map Row.xs).length = k := by
          rw [List.length_map, HK.out, h0]; rfl
        unfold putL
        rw [e, if_neg (by omega)])
      obtain ⟨wt, rfl⟩ : ∃ wt : World, wt = wr := ⟨_, rfl⟩
      have hdt := hd
      clear h0
      go_upto_region 6 with fail
    case' neg =>
      have hk0 : 0 < k := Nat.pos_of_ne_zero h0
      have d0 : decide ((k : Int) > 0) = true := decide_eq_true (by omega)
      have d0' : decide (0 < (k : Int)) = true := decide_eq_true (by omega)
      have hRr := (hRd.dr hd).more (B' := wr.heap.size) (by omega)
      obtain ⟨b, off, rfl, hbb, hc⟩ := hRr.at (by omega)
      have c1 := hc (k - 1) (by omega)
      have e1 : IntKind.i64.wrap ((k : Int) - 1) = (k : Int) - 1 := IntWalk.i64_in _ (by omega)
      have e2 : ((k : Int) - 1).toNat = k - 1 := by omega
      have e3 : 0 ≤ (k : Int) - 1 := by omega
      have e4 : (k : Int) - 1 < (rs.length : Int) := by omega
      obtain ⟨q, hq⟩ : ∃ q : Row, q = rs[k - 1]'(by omega) := ⟨_, rfl⟩
      have hqm : q ∈ rs := by rw [hq]; exact List.getElem_mem _
      have hql := HR8.out q hqm
      have hqr := hRr.rd q hqm
      have hpr := (hp.dr hd).rd
      rw [← hq] at c1
      have HXQ := Lib.hid (show (rs.map Row.xs)[k - 1]?.getD [] = q.xs by rw [hq]; simp [show k - 1 < rs.length by omega])
      have HSTEP := Lib.hid (show putAt (rs.map Row.xs) p k = if before p q.xs = true then putAt (rs.map Row.xs) p (k - 1) else k by
        obtain ⟨u, rfl⟩ : ∃ u, k = u + 1 := ⟨k - 1, by omega⟩
        have h := HXQ.out
        rw [Nat.add_sub_cancel] at h
        rw [putAt, h]; rfl)
      have HC := Lib.hid hc
      clear hq hc h0
      go_wp2_with fail
      by_cases hb : before p q.xs = true
      · have HT := Lib.hid (show putAt (rs.map Row.xs) p rs.length = putAt (rs.map Row.xs) p (k - 1) by rw [HK.out, HSTEP.out, if_pos hb])
        (with_reducible refine (l2Before_b2 B q.A d q.c p.length q.xs.length p q.xs wr true rfl rfl (by omega) (by omega) hpr hqr hb).mono ?_)
        rintro e w1 ⟨rfl, hd1⟩
        clear hb
        go_wp2_with fail
        go_roundw
        case rel => exact ⟨k - 1, by omega, by rw [Int.natCast_sub hk0]; rfl, HT, hd.trans hd1⟩
        case measure => simp [intOf]; omega
      have hbf : before p q.xs = false := by simpa using hb
      have HT := Lib.hid (show putAt (rs.map Row.xs) p rs.length = k by rw [HK.out, HSTEP.out, if_neg hb])
      (with_reducible refine (l2Before_b2 B q.A d q.c p.length q.xs.length p q.xs wr false rfl rfl (by omega) (by omega) hpr hqr hbf).mono ?_)
      rintro e w1 ⟨rfl, hd1⟩
      have hd2 := hd.trans hd1
      have c2 : w1.cell? ⟨b, off + (k - 1), none⟩ = some (Value.slice q.A q.xs.length q.c) := (hd1.cell _).trans c1
      have hsz2 : w1.heap.size = wr.heap.size := by rw [hd1.heap]
      have hqr2 := (hqr.dr hd1).more (B' := w1.heap.size) (by omega)
      have hpr2 := (hp.dr hd2).rd
      clear hb hbf
      go_wp2_with fail
      by_cases he : q.xs = p
      · have HE := Lib.hid (show putL (rs.map Row.xs) p = rs.map Row.xs by
          unfold putL
          rw [List.length_map, HT.out, if_pos ⟨hk0, by rw [HXQ.out]; exact he⟩])
        (with_reducible refine (l2Same_b q.A B q.c d q.xs.length p.length q.xs p w1 true rfl rfl (by omega) hqr2 hpr2 (decide_eq_true he)).mono ?_)
        rintro e w2 ⟨rfl, hd3⟩
        have hd4 := hd2.trans hd3
        have hsz4 : w2.heap.size = w.heap.size := by rw [hd4.heap]
        clear he
        go_wp2_with fail
        go_ret
        exact ⟨_, c, rs, rfl, HE.out.symm, (HO.out.dr hd4).wider (Nat.le_refl _) (by omega), below_grown (below_dr (Below.refl _ _) hd4)⟩
      have HL := Lib.hid (show putL (rs.map Row.xs) p = (rs.map Row.xs).take k ++ p :: (rs.map Row.xs).drop k by
        unfold putL
        rw [List.length_map, HT.out, if_neg (fun h => he (by rw [← HXQ.out]; exact h.2))])
      (with_reducible refine (l2Same_b q.A B q.c d q.xs.length p.length q.xs p w1 false rfl rfl (by omega) hqr2 hpr2 (decide_eq_false he)).mono ?_)
      rintro e w2 ⟨rfl, hd3⟩
      obtain ⟨wt, rfl⟩ : ∃ wt : World, wt = w2 := ⟨_, rfl⟩
      have hdt := hd2.trans hd3
      clear he c2 hqr2 hpr2 hsz2 c1 hqr hpr hqm hql e1 e2 e3 e4 hk0 hRr hd1 hd2 hd3
      go_upto_region 6 with fail
    all_goals
      have hszt : wt.heap.size = w.heap.size := by rw [hdt.heap]
      have hRt := (hRd.dr hdt).more (B' := wt.heap.size) (by omega)
      have hdrop := Rd.cut (k := k) (read_rows hRt) hk hcap
      have hsl := fun (A : Option Addr) w => run_cut (P := Try.prog) (t := 25) Try.underlying25 sizeL A rs.length c k (k : Int) rfl hk w
      have hOt := HO.out.dr hdt
      have hpt := (hp.dr hdt).rd
      have own0 : (wt.alloc (.cells #[] 24)).ownsRow wt.heap.size 24 1 (.slice (some ⟨wt.heap.size, 0, none⟩) 0 0) 0 [] := World.ownsRow_lit wt #[] 0 (Nat.le_refl _) (by unfold maxLen; omega) rfl
      have hx0 := hdrop.alloc (Nat.le_refl _) (.cells #[] 24)
      have hbA := (Below.refl wt.heap.size wt).alloc (Nat.le_refl _) (.cells #[] 24)
      have hdl : (rs.drop k).length = rs.length - k := List.length_drop
      have hkc : k ≤ c := Nat.le_trans hk hcap
      have HSZT := Lib.hid hszt
      clear hRt hdrop hszt hsz
      go_wp2_with (at_builtin; refine wpList_append_rd _ rfl _ _ 25 rfl (wt.heap.size) 24 j0 (.slice none 0 0) 24 Try.underlying25 hj hy0 hy1 hy2 rfl _ _ _ rfl own0 _ _ _ _ (rs.drop k) rfl hdl hx0 (fun _ => rfl) (by unfold maxLen; omega) (by omega) (by first | omega | (simp; done) | (simp; omega)) ?_; intro v1 w1 hown1 hgrow1)
      simp only [Nat.zero_add, List.nil_append] at hown1
      obtain ⟨R1, cr, rfl, _, _⟩ := own_shape hown1
      have hb1 : Below wt.heap.size wt w1 := hbA.grown hgrow1 (by simp) (fun g hg => (own0.lt g hg).1)
      have hsz1 := hb1.size
      have hszt := HSZT.out
      have hdd : Dr w1 w1.drew := (Dr.refl _).drew
      have hO1 := ((hOt.below hb1).dr hdd).wider (Nat.le_refl lo) (show w.heap.size ≤ w1.heap.size by omega)
      have hR1 := hdd.own hown1
      have hp1 : Rd (Value.int .i64) (w1.drew.alloc (.cells #[] 3)) w1.heap.size B p := (((hpt.below hb1).dr hdd).more (B' := w1.heap.size) (by omega)).alloc (Nat.le_refl _) _
      have own1 : (w1.drew.alloc (.cells #[] 3)).ownsRow w1.heap.size 3 1 (.slice (some ⟨w1.heap.size, 0, none⟩) 0 0) 0 [] := World.ownsRow_lit w1.drew #[] 0 (Nat.le_refl _) (by unfold maxLen; omega) rfl
      clear own0 hx0 hbA hgrow1 hown1 hszt
      go_wp2_with fail
      go_region_held3 (fun _ => True) (trivial) ((first
        | (refine step_append_rd _ (by rfl) _ _ _ (by rfl) w1.heap.size 3 i0 (.int .i64 0) 8 Try.underlying24 hi hz0 hz1 hz2 (by rfl) (Value.slice (some ⟨w1.heap.size, 0, none⟩) 0 0) 0 _ (by rfl) own1 _ B d p.length p (by rfl) rfl hp1 (fun _ => rfl) (by unfold maxLen; omega) (by omega) (by simp) ?_
           intro v2 w2 hown2 hgrow2
           simp only [Nat.zero_add, List.nil_append] at hown2
           obtain ⟨A2, c2, rfl, _, _⟩ := own_shape hown2
           have hb2 : Below w1.drew.heap.size w1.drew w2 := ((Below.refl w1.drew.heap.size w1.drew).alloc (Nat.le_refl _) _).grown hgrow2 (by simp) (fun g hg => (own1.lt g hg).1)
           have hsz2 : w1.heap.size ≤ w2.heap.size := hb2.size
           have hO2 := (hO1.below hb2).add (r := ⟨A2, c2, p⟩) hown2 hsz2 (show lo ≤ w1.heap.size by have h1 := HLO.out; have h2 := HSZT.out; omega)
           have hT2 := (own_take (hO2.outN (n := rs.length) (by simp)) hk).alloc (.cells #[Value.slice A2 p.length c2] 24)
           have hR2 := (own_below hR1 hb2).alloc (.cells #[Value.slice A2 p.length c2] 24)
           have hlo2 : lo ≤ w2.heap.size := by have h1 := HLO.out; have h2 := HSZT.out; omega)
        | (refine step_append_lies _ (by rfl) _ _ _ (by rfl) lo 24 j0 (.slice none 0 0) 1 24 Try.underlying25 hj hy0 hy1 hy2 rfl (by decide) _ k _ (by rfl) hT2 ⟨w2.heap.size, 0, none⟩ 1 1 [Value.slice A2 p.length c2] (by rfl) (by rfl) (cell_one_new _ _ _) (by intro u hu; simp at hu; subst hu; rfl) (by omega) (by unfold maxLen; omega) (by omega) (by simp; omega) (w2.heap.size + 1) (by simp) ?_
           intro g3 cap3 w3 hown3 hgrow3 hat3 hlt3
           have hgr3 := grown_trans (World.grownBy_alloc w2 (.cells #[Value.slice A2 p.length c2] 24) _) hgrow3
           have hR3 := hR2.kept hgrow3 (by
             rcases hv : (Value.slice R1 (rs.length - k) cr).ownBlock with _ | q
             · exact .inl rfl
             · refine .inr (fun e => ?_)
               have h1 := (hR1.lt q hv).1
               have h2 := (hOt.olim (n := rs.length) (by simp) q (by rw [e]; exact ownBlock_len _ _ _ _ _)).2
               have h3 := HSZT.out
               omega)
           have hRd3 : Rd Row.v w3 w3.heap.size R1 (rs.drop k) := Rd.of_own (c := cr) (by rw [hdl]; exact hR3)
           have hlo3 : lo ≤ w3.heap.size := by have := hgr3.size; omega)
        | (refine step_append_rd _ (by rfl) _ _ _ (by rfl) lo 24 j0 (.slice none 0 0) 24 Try.underlying25 hj hy0 hy1 hy2 (by rfl) (Value.slice (some ⟨g3, 0, none⟩) (k + 1) cap3) (k + 1) _ (by rfl) hown3 _ R1 cr (rs.length - k) (rs.drop k) (by rfl) hdl hRd3 (fun _ => rfl) (by unfold maxLen; omega) (by omega) (by omega) ?_
           intro v4 w4 hown4 hgrow4
           obtain ⟨A4, c4, rfl, _, _⟩ := own_shape hown4)
        | fail))
      have hlen4 : (rs.take k ++ (⟨A2, c2, p⟩ : Row) :: rs.drop k).length = k + 1 + (rs.length - k) := by simp; omega
      have hv3 : (Value.slice A2 p.length c2) = Row.v ⟨A2, c2, p⟩ := rfl
      have hb3 := (Below.refl w2.heap.size w2).alloc (Nat.le_refl _) (.cells #[Value.slice A2 p.length c2] 24)
      have hO3 := Own.kept (w' := w3) (hO2.below hb3) (by simp) (show (rs.map Row.v).length = rs.length by simp) (by rw [ownBlock_len _ rs.length k c c]; exact hgrow3)
      have hO3' := hO3.with_ (A := some ⟨g3, 0, none⟩) (c := cap3) (vs := (rs.map Row.v).take k ++ [Value.slice A2 p.length c2]) (by
        have hl : ((rs.map Row.v).take k ++ [Value.slice A2 p.length c2]).length = k + 1 := by simp; omega
        rw [hl]; exact hown3) (Nat.le_refl _)
      have hO4 := (Own.kept hO3' (Nat.le_refl _) (show ((rs.map Row.v).take k ++ [Value.slice A2 p.length c2]).length = k + 1 by simp; omega) hgrow4).perm (rs' := rs.take k ++ (⟨A2, c2, p⟩ : Row) :: rs.drop k) (by
        refine List.Perm.trans ?_ (List.perm_middle.symm)
        rw [List.take_append_drop]
        exact List.perm_append_comm)
      have hfin := hO4.with_ (A := A4) (c := c4) (vs := (rs.take k ++ (⟨A2, c2, p⟩ : Row) :: rs.drop k).map Row.v) (by
        rw [List.length_map, hlen4]
        have e : (rs.map Row.v).take k ++ [Value.slice A2 p.length c2] ++ (rs.drop k).map Row.v = (rs.take k ++ (⟨A2, c2, p⟩ : Row) :: rs.drop k).map Row.v := by simp [List.map_take, Row.v]
        rw [← e]; exact hown4) (Nat.le_refl _)
      have h1 : Below w.heap.size w w2 := by
        have hz := HSZT.out
        have ha := (below_dr (Below.refl w.heap.size w) hdt).trans (hb1.mono (by omega))
        exact (below_dr ha hdd).trans (hb2.mono (by show w.heap.size ≤ w1.heap.size; omega))
      have hgw := grown_then (grown_trans (below_grown h1) hgr3) hgrow4 hat3 (show w.heap.size ≤ w2.heap.size + 1 by have := h1.size; omega)
      have K := Lib.hid (And.intro hfin hgw)
      have HL4 := Lib.hid hlen4
      clear h1 hfin hgw hO4 hO3' hO3 hb3 hown4 hgrow4 hRd3 hR3 hgr3 hown3 hgrow3 hat3 hR2 hT2 hO2 hb2 hown2 hgrow2 own1 hp1 hR1 hO1 hv3 hlen4
      go_wp2_with fail
      go_ret
      exact ⟨A4, c4, rs.take k ++ (⟨A2, c2, p⟩ : Row) :: rs.drop k, by rw [HL4.out]; rfl, by rw [HL.out]; simp [List.map_take, List.map_drop], K.out.1, by rw [ownBlock_len _ 0 k 0 c]; exact K.out.2⟩
end Go.Proofs.Ythipikllgpnlhaa

/- The draws of permutations: a list of as many numbers as was asked. -/
namespace Go.Proofs.Ythipikllgpnlhaa
set_option maxRecDepth 100000
open Go Go.RowKit

section
variable {w w' wa wb : World} {q : Nat} {A : Option Addr} {c : Nat} {bs : List Int}
theorem own_drawn {base e n : Nat} {v : Value} {vs : List Value} (h : w.ownsRow base e 1 v n vs) (k : Drawn w w' q A c bs) (hq : q < base) : w'.ownsRow base e 1 v n vs :=
  own_span h k.span fun g hg => by have := (h.lt g hg).1; omega
theorem Drawn.next (h : Drawn wa wb q A c bs) (hb : Below wa.heap.size wb w') (hq : q < wa.heap.size) : Drawn wa w' q A c bs :=
  ⟨h.cur.below hb hq, ⟨hb.os.trans h.span.os, hb.tape.trans h.span.tape, hb.output.trans h.span.output, Nat.le_trans h.span.size hb.size, fun k hk hlh => (hb.block k hk).trans (h.span.block k hk hlh)⟩⟩
theorem Rd.drawn {α : Type} {f : α → Value} {B : Nat} {D : Option Addr} {xs : List α} (h : Rd f w B D xs) (k : Drawn w w' q A c bs) (hB : B ≤ q) (hw : B ≤ w.heap.size) : Rd f w' B D xs := h.below (k.span.below hB hw)
end
/-- 1, 2, .., m. -/
def upToL (m : Nat) : List Int := (List.range m).map fun i => ((i : Nat) : Int) + 1
theorem upToL_succ (m : Nat) : upToL (m + 1) = upToL m ++ [(m : Int) + 1] := by simp [upToL, List.range_succ]
theorem upToL_length (m : Nat) : (upToL m).length = m := by simp [upToL]
theorem ins_perm (xs : List Int) (t : Nat) (x : Int) : (xs.take t ++ [x] ++ xs.drop t).Perm (xs ++ [x]) := by
  have h : (xs.take t ++ [x] ++ xs.drop t).Perm (xs.take t ++ (xs.drop t ++ [x])) := by
    rw [List.append_assoc]
    exact List.Perm.append_left _ List.perm_append_comm
  rwa [← List.append_assoc, List.take_append_drop] at h
/-- A list of the call's own was drawn. -/
def RetD (w : World) (q : Nat) (A : Option Addr) (c : Nat) (bs : List Int) (ok : List Int → Prop) (en : Ending) (w' : World) : Prop :=
  ∃ D k ys, en = .returned (.slice D ys.length k) ∧ ok ys ∧ w'.ownsRow w.heap.size 3 1 (.slice D ys.length k) ys.length (ys.map (Value.int .i64)) ∧ Drawn w w' q A c bs

set_option maxHeartbeats 2000000 in
theorem l2Draw_any (w : World) (q : Nat) (A : Option Addr) (c : Nat) (bs : List Int) (n : Nat) (hn : n ≤ 1000000) (hc : Cur w q A c bs) :
    Calls Try.prog 104 #[.pointer (some ⟨q, 0, none⟩), .int .i64 n] w (RetD w q A c bs fun ys => ys.Perm (upToL n)) := by
  obtain ⟨i0, hi, hz0, hz1, hz2⟩ := info_parts infoI
  have hq := hc.lt
  have own0 : (w.alloc (.cells #[] 3)).ownsRow w.heap.size 3 1 (.slice (some ⟨w.heap.size, 0, none⟩) 0 0) 0 [] := World.ownsRow_lit w #[] 0 (Nat.le_refl _) (by unfold maxLen; omega) rfl
  have k0 := (Drawn.refl hc).next ((Below.refl w.heap.size w).alloc (Nat.le_refl _) (.cells #[] 3)) hq
  go_enter Try.func104, Try.ntmps104
  go_wp2_with fail
  go_loopw [5, 6] (fun o i wr => ∃ (m : Nat) (A1 : Option Addr) (c1 : Nat) (ys : List Int), m ≤ n ∧ i = .int .i64 ((m : Int) + 1) ∧ o = .slice A1 ys.length c1 ∧ Hid (ys.Perm (upToL m)) ∧
    wr.ownsRow w.heap.size 3 1 (.slice A1 ys.length c1) ys.length (ys.map (Value.int .i64)) ∧ Drawn w wr q A c bs) (fun _ i _ => n + 1 - (intOf i).toNat)
  case atStart => exact ⟨0, _, _, [], Nat.zero_le _, rfl, rfl, Lib.hid (by rw [show upToL 0 = [] from rfl]), own0, k0⟩
  case round =>
    clear own0 k0
    obtain ⟨m, A1, c1, ys, hm, rfl, rfl, HP, own1, k1⟩ := hrel
    have hyl : ys.length = m := by rw [HP.out.length_eq, upToL_length]
    have hsz := k1.span.size
    rcases Nat.lt_or_ge m n with hlt | hge
    · have hy1 : ys.length ≤ 1000000 := by omega
      have HYL := Lib.hid hyl
      have e1 : IntKind.i64.wrap ((ys.length : Int) + 1) = (ys.length : Int) + 1 := IntWalk.i64_in _ (by omega)
      have l1 : (m : Int) + 1 ≤ (n : Int) := by omega
      have HC := Lib.hid (l1Below_any wr q A c bs ((ys.length : Int) + 1) (by omega) k1.cur)
      clear hyl
      go_wp2_with fail
      (with_reducible refine HC.out.mono ?_)
      rintro e w0 ⟨x, rfl, hx, kx⟩
      obtain ⟨t, rfl⟩ := Int.eq_ofNat_of_zero_le hx.1
      have htl : t ≤ ys.length := by have := hx.2.1 (by omega); omega
      have own1 := own_drawn own1 kx hq
      have k1 := k1.trans kx
      have hsz0 := k1.span.size
      obtain ⟨cp1, cp2⟩ := own_caps own1
      clear hx kx HC
      have hsl1 := fun w => run_cut (P := Try.prog) (t := 24) Try.underlying24 sizeI A1 ys.length c1 t (t : Int) rfl htl w
      have hsl2 := fun w => run_slice_h (P := Try.prog) w 24 A1 ys.length c1 Try.underlying24 .i64 t (by omega) (by omega)
      have q2 : (t : Int) ≤ (ys.length : Int) := by omega
      have hown0 : (w0.alloc (.cells #[] 3)).ownsRow w0.heap.size 3 1 (.slice (some ⟨w0.heap.size, 0, none⟩) 0 0) 0 [] := World.ownsRow_lit w0 #[] 0 (Nat.le_refl _) (by unfold maxLen; omega) rfl
      have HX0 := Lib.hid ((((Rd.of_own own1).alloc (Nat.le_refl _) (.cells #[] 3)).cut (k := t) (c := c1) htl cp1))
      have HD1 := Lib.hid (show (ys.drop t).length = ys.length - t from List.length_drop)
      have HT1 := Lib.hid (show (ys.take t).length = t by simp; omega)
      have hbA := (Below.refl w0.heap.size w0).alloc (Nat.le_refl _) (.cells #[] 3)
      go_wp2_with (first
        | ((at_builtin; refine wpList_append_rd _ rfl _ _ 24 rfl (w0.heap.size) 3 i0 (.int .i64 0) 8 Try.underlying24 hi hz0 hz1 hz2 rfl _ _ _ rfl hown0 _ _ _ _ (ys.drop t) rfl HD1.out HX0.out (fun _ => rfl) (by unfold maxLen; omega) (by omega) (by first | omega | (simp; done) | (simp; omega)) ?_; intro v1 w1 hown1 hgrow1)
           simp only [Nat.zero_add, List.nil_append] at hown1
           obtain ⟨A3, c3, rfl, _, _⟩ := own_shape hown1
           have hbB := hbA.grown hgrow1 (by simp) (fun g hg => (hown0.lt g hg).1)
           have hszB := hbB.size
           have HT := own_take (own_below own1 hbB) htl)
        | ((at_builtin; refine wpList_append_own _ rfl _ _ 24 rfl (w.heap.size) 3 i0 (.int .i64 0) 1 8 Try.underlying24 hi hz0 hz1 hz2 rfl (by decide) _ _ _ rfl (World.ownsRow.alloc HT _) ⟨w1.heap.size, 0, none⟩ 1 1 [.int .i64 ((m : Int) + 1)] rfl rfl (cell_one_new _ _ _) (by intro u hu; simp at hu; subst hu; rfl) (by unfold maxLen; omega) (by omega) (by simp; omega) ?_; intro v2 w2 hown2 hgrow2 _)
           have hR2 := (hown1.alloc (Obj.cells #[Value.int .i64 ((m : Int) + 1)] 3)).kept hgrow2 (by
             rcases hv : (Value.slice A3 (ys.length - t) c3).ownBlock with _ | g
             · exact .inl rfl
             · refine .inr fun he => ?_
               have h1 := (hown1.lt g hv).1
               have h2 := ((own_take own1 htl).lt g he.symm).2
               omega)
           have HRR : Rd (Value.int .i64) w2 w2.heap.size A3 (ys.drop t) := Rd.of_own (c := c3) (by rw [HD1.out]; exact hR2)
           have hsz2 : w.heap.size ≤ w2.heap.size := by have := hgrow2.size; simp at this; omega)
        | (at_builtin; refine wpList_append_rd _ rfl _ _ 24 rfl (w.heap.size) 3 i0 (.int .i64 0) 8 Try.underlying24 hi hz0 hz1 hz2 rfl _ _ _ rfl hown2 _ _ _ _ (ys.drop t) rfl HD1.out HRR (fun _ => rfl) (by unfold maxLen; omega) (by omega) (by first | omega | (simp; done) | (simp; omega)) ?_; intro v4 w4 hown4 hgrow4))
      have hzl : (ys.take t ++ [(m : Int) + 1] ++ ys.drop t).length = t + 1 + (ys.length - t) := by simp only [List.length_append, List.length_singleton, HT1.out, HD1.out]
      have hown5 : w4.ownsRow w.heap.size 3 1 v4 (ys.take t ++ [(m : Int) + 1] ++ ys.drop t).length ((ys.take t ++ [(m : Int) + 1] ++ ys.drop t).map (Value.int .i64)) := by
        rw [hzl]
        simpa only [List.map_append, List.map_take, List.map_drop, List.map_cons, List.map_nil] using hown4
      obtain ⟨A5, c5, rfl, _, _⟩ := own_shape hown5
      have hbC := ((hbB.mono hsz0).alloc (by omega) (Obj.cells #[Value.int .i64 ((m : Int) + 1)] 3)).grown hgrow2 (by simp; omega) (fun g hg => (HT.lt g hg).1)
      have hbD := hbC.grown hgrow4 (by omega) (fun g hg => (hown2.lt g hg).1)
      have k5 := k1.next hbD hq
      have HP5 : Hid ((ys.take t ++ [(m : Int) + 1] ++ ys.drop t).Perm (upToL (m + 1))) := Lib.hid ((ins_perm ys t ((m : Int) + 1)).trans (by rw [upToL_succ]; exact List.Perm.append_right _ HP.out))
      exact ⟨⟨m + 1, A5, c5, _, by omega, by go_num, rfl, HP5, hown5, k5⟩, by simp [intOf]; omega⟩
    · obtain rfl : m = n := by omega
      go_wp2_with fail
      go_ret
      exact ⟨A1, c1, ys, rfl, HP.out, own1, k1⟩
set_option maxHeartbeats 2000000 in
theorem l2Any_any (w : World) (q : Nat) (A : Option Addr) (c : Nat) (bs : List Int) (hc : Cur w q A c bs) :
    Calls Try.prog 120 #[.pointer (some ⟨q, 0, none⟩)] w (RetD w q A c bs fun ys => ys.length ≤ 8 ∧ ys.Perm (upToL ys.length)) := by
  have hq := hc.lt
  have k0 := (Drawn.refl hc).next ((Below.refl w.heap.size w).alloc (Nat.le_refl _) (.cells #[.int .i64 0, .int .i64 1, .int .i64 2, .int .i64 3, .int .i64 4, .int .i64 5, .int .i64 5, .int .i64 6, .int .i64 6, .int .i64 7, .int .i64 8] 3)) hq
  have HC := Lib.hid (l1PickInt_any _ q A c bs w.heap.size 11 11 [0, 1, 2, 3, 4, 5, 5, 6, 6, 7, 8] rfl (by decide) (by decide) (by omega) (by simp) (fun j hj => (obj_cell (obj_new w _)).trans (by
    have hj : j < 11 := hj
    rcases j with _ | _ | _ | _ | _ | _ | _ | _ | _ | _ | _ | j
    all_goals first | rfl | omega)) k0.cur)
  go_enter Try.func120, Try.ntmps120
  go_wp2_with fail
  (with_reducible refine HC.out.mono ?_)
  rintro e w1 ⟨x, rfl, hx, k1⟩
  have hx8 : 0 ≤ x ∧ x ≤ 8 := by simp at hx; omega
  obtain ⟨n, rfl⟩ := Int.eq_ofNat_of_zero_le hx8.1
  have k1 := k0.trans k1
  have hsz := k1.span.size
  have HD := Lib.hid (l2Draw_any w1 q A c bs n (by omega) k1.cur)
  go_wp2_with fail
  (with_reducible refine HD.out.mono ?_)
  rintro e w2 ⟨D, k, ys, rfl, hp, ho, k2⟩
  go_wp2_with fail
  go_ret
  have hl : ys.length = n := by rw [hp.length_eq, upToL_length]
  exact ⟨D, k, ys, rfl, ⟨by omega, by rw [hl]; exact hp⟩, own_mono ho hsz, k1.trans k2⟩
set_option maxHeartbeats 2000000 in
theorem l2Bent_any (w : World) (q : Nat) (A : Option Addr) (c : Nat) (bs : List Int) (hc : Cur w q A c bs) :
    Calls Try.prog 72 #[.pointer (some ⟨q, 0, none⟩)] w (RetD w q A c bs fun ys => ys.length ≤ 9) := by
  obtain ⟨i0, hi, hz0, hz1, hz2⟩ := info_parts infoI
  have hq := hc.lt
  have HC := Lib.hid (l2Any_any w q A c bs hc)
  go_enter Try.func72, Try.ntmps72
  go_wp2_with fail
  (with_reducible refine HC.out.mono ?_)
  rintro e w1 ⟨D, k, ys, rfl, ⟨hl8, hp⟩, ho, k1⟩
  have HB := Lib.hid (l1Below_any w1 q A c bs 14 (by omega) k1.cur)
  have hsz := k1.span.size
  clear hp
  go_wp2_with fail
  (with_reducible refine HB.out.mono ?_)
  rintro e w2 ⟨x, rfl, hx, kx⟩
  have ho := own_drawn ho kx hq
  have k2 := k1.trans kx
  have hsz := k2.span.size
  by_cases hx0 : x = 0
  · subst hx0
    have HB := Lib.hid (l1Below_any w2 q A c bs 12 (by omega) k2.cur)
    clear hx
    go_wp2_with fail
    (with_reducible refine HB.out.mono ?_)
    rintro e w3 ⟨y, rfl, hy, ky⟩
    have ho := own_drawn ho ky hq
    have k3 := k2.trans ky
    have hsz := k3.span.size
    have e1 : IntKind.i64.wrap (y - 1) = y - 1 := IntWalk.i64_in _ (by omega)
    go_wp2_with (at_builtin; refine wpList_append_own _ rfl _ _ 24 rfl (w.heap.size) 3 i0 (.int .i64 0) 1 8 Try.underlying24 hi hz0 hz1 hz2 rfl (by decide) _ _ _ rfl (World.ownsRow.alloc ho _) ⟨w3.heap.size, 0, none⟩ 1 1 [.int .i64 (y - 1)] rfl rfl (cell_one_new _ _ _) (by intro u hu; simp at hu; subst hu; rfl) (by unfold maxLen; omega) (by omega) (by simp; omega) ?_; intro v1 w1 hown1 hgrow1 _)
    have hown5 : w1.ownsRow w.heap.size 3 1 v1 (ys ++ [y - 1]).length ((ys ++ [y - 1]).map (Value.int .i64)) := by simpa using hown1
    obtain ⟨A5, c5, rfl, _, _⟩ := own_shape hown5
    have hbC := ((Below.refl w.heap.size w3).alloc hsz (Obj.cells #[Value.int .i64 (y - 1)] 3)).grown hgrow1 (by simp; omega) (fun g hg => (ho.lt g hg).1)
    go_ret
    exact ⟨A5, c5, _, by simp, by simp; omega, hown5, k3.next hbC hq⟩
  by_cases hx1 : x = 1
  · subst hx1
    clear hx
    rcases Nat.eq_zero_or_pos ys.length with h0 | h0
    · obtain rfl : ys = [] := List.eq_nil_of_length_eq_zero h0
      go_wp2_with fail
      go_ret
      exact ⟨D, k, [], rfl, by simp, ho, k2⟩
    · have HB := Lib.hid (l1Below_any w2 q A c bs 11 (by omega) k2.cur)
      obtain ⟨g, cap, hv, hg1, hlt⟩ := ho.form (by simpa using h0)
      injection hv with hv1 hv2 hv3
      subst hv1 hv3
      go_wp2_with fail
      (with_reducible refine HB.out.mono ?_)
      rintro e w3 ⟨y, rfl, hy, ky⟩
      have ho := own_drawn ho ky hq
      have k3 := k2.trans ky
      have hsz := k3.span.size
      have e1 : IntKind.i64.wrap (y - 1) = y - 1 := IntWalk.i64_in _ (by omega)
      obtain ⟨f0, g0, ho5⟩ := own_put ho 0 h0 (y - 1)
      go_wp2_with fail
      go_ret
      exact ⟨some ⟨g, 0, none⟩, k, ys.set 0 (y - 1), by simp, by simp; omega, by simpa using ho5, k3.next ((Below.refl _ _).setCell (p := ⟨g, 0, none⟩) (ho.lt g rfl).1 _) hq⟩
  · go_wp2_with fail
    go_ret
    exact ⟨D, k, ys, rfl, by omega, ho, k2⟩
end Go.Proofs.Ythipikllgpnlhaa

/- What the great laws begin with: the size test, equal lists of numbers, the draws from the code. -/
namespace Go.Proofs.Ythipikllgpnlhaa
set_option maxRecDepth 100000
open Go Go.RowKit

/-- The code's bytes are read. -/
structure InY (w : World) (A : Option Addr) (c : Nat) (bs : List Int) : Prop where
  len : bs.length ≤ 1048576
  rd : Rd (Value.int .u8) w w.heap.size A bs
theorem InY.next {w w' : World} {A : Option Addr} {c : Nat} {bs : List Int} (h : InY w A c bs) (hb : Below w.heap.size w w') : InY w' A c bs := ⟨h.len, h.rd.next hb⟩

theorem big_ok (A : Option Addr) (c : Nat) (bs : List Int) (w : World) (hl : bs.length ≤ 1048576) :
    Calls Try.prog 7 #[.slice A bs.length c] w fun e w' => e = .returned (.bool false) ∧ w = w' := by
  have h1 : ¬ ((bs.length : Int) > 1048576) := by omega
  go_enter Try.func7, Try.ntmps7
  go_wp2_with fail
  go_ret
  exact ⟨by simp, rfl⟩
theorem big_no (A : Option Addr) (c : Nat) (bs : List Int) (w : World) (hl : 1048576 < bs.length) (hm : bs.length ≤ 9223372036854775807) :
    Calls Try.prog 7 #[.slice A bs.length c] w fun e w' => e = .returned (.bool true) ∧ w = w' := by
  have h1 : (bs.length : Int) > 1048576 := by omega
  go_enter Try.func7, Try.ntmps7
  go_wp2_with fail
  go_ret
  exact ⟨by simp, rfl⟩

set_option maxHeartbeats 800000 in
theorem sameInts_any (A A' : Option Addr) (c c' : Nat) (xs ys : List Int) (w : World) (hl : xs.length ≤ 1048576)
    (hx : Rd (Value.int .i64) w w.heap.size A xs) (hy : Rd (Value.int .i64) w w.heap.size A' ys) :
    Calls Try.prog 32 #[.slice A xs.length c, .slice A' ys.length c'] w (Rq w (.bool (decide (xs = ys)))) := by
  by_cases hlen : xs.length = ys.length
  · have hne : ((xs.length : Int) != (ys.length : Int)) = false := by simp [hlen]
    go_enter Try.func32, Try.ntmps32
    rw [← hlen]
    have hlH := Lib.hid hlen
    clear hne hlen
    go_wp2_with fail
    go_loopw [5] (fun i wr => ∃ k : Nat, k ≤ xs.length ∧ i = .int .i64 k ∧ Dr w wr ∧ Hid (xs.take k = ys.take k)) (fun i _ => xs.length - (intOf i).toNat)
    case atStart => exact ⟨0, Nat.zero_le _, rfl, Dr.refl _, Lib.hid rfl⟩
    case round =>
      obtain ⟨k, hk, rfl, hd, hT⟩ := hrel
      rcases Nat.lt_or_ge k xs.length with hlt | hge
      · have hly : k < ys.length := by have := hlH.out; omega
        obtain ⟨b, off, rfl, hb, hcx⟩ := hx (by omega)
        obtain ⟨b', off', rfl, hb', hcy⟩ := hy (by omega)
        have f1 : wr.cell? ⟨b, off + k, none⟩ = some (.int .i64 xs[k]) := (hd.cell _).trans (hcx k hlt)
        have f2 : wr.cell? ⟨b', off' + k, none⟩ = some (.int .i64 ys[k]) := (hd.cell _).trans (hcy k hly)
        have l1 : (k : Int) < (xs.length : Int) := by omega
        have l0 : (0 : Int) ≤ (k : Int) := Int.natCast_nonneg _
        by_cases he : xs[k] = ys[k]
        · have hbe : (xs[k] != ys[k]) = false := by simp [he]
          have HT := Lib.hid (show xs.take (k + 1) = ys.take (k + 1) by rw [List.take_succ_eq_append_getElem hlt, List.take_succ_eq_append_getElem hly, hT.out, he])
          have e1 : IntKind.i64.wrap ((k : Int) + 1) = (k : Int) + 1 := IntWalk.i64_in _ (by omega)
          generalize xs[k] = u at f1 hbe he
          clear he
          go_wp2_with fail
          go_quiet (fail)
          go_wp2_with fail
          go_roundw
          case rel => exact ⟨k + 1, by omega, by go_num, hd.drewN _, HT⟩
          case measure => simp [intOf]; omega
        · have hbe : (xs[k] != ys[k]) = true := by simp [he]
          have HE := Lib.hid (show xs ≠ ys from fun h => he (by subst h; rfl))
          clear he
          go_wp2_with fail
          go_quiet (fail)
          go_wp2_with fail
          go_ret
          exact ⟨ret_bool (decide_eq_false HE.out).symm, hd.drewN _⟩
      · have hkk : k = xs.length := by omega
        have HE := Lib.hid (show xs = ys by
          have h1 := hT.out
          have h2 := hlH.out
          rw [hkk, List.take_length, h2, List.take_length] at h1
          exact h1)
        have l1 : ¬ (k : Int) < (xs.length : Int) := by omega
        clear hkk
        go_wp2_with fail
        go_ret
        exact ⟨ret_bool (decide_eq_true HE.out).symm, hd⟩
  · have hne : ((xs.length : Int) != (ys.length : Int)) = true := by simp; omega
    have HE := Lib.hid (show xs ≠ ys from fun h => hlen (by rw [h]))
    clear hlen
    go_enter Try.func32, Try.ntmps32
    go_wp2_with fail
    go_ret
    exact ⟨ret_bool (decide_eq_false HE.out).symm, Dr.refl _⟩
theorem sameInts_eq (A A' : Option Addr) (c c' n n' : Nat) (xs ys : List Int) (w : World) (he : xs = ys) (hn : xs.length = n) (hn' : xs.length = n') (hl : n ≤ 1048576)
    (hx : Rd (Value.int .i64) w w.heap.size A xs) (hy : Rd (Value.int .i64) w w.heap.size A' ys) :
    Calls Try.prog 32 #[.slice A n c, .slice A' n' c'] w (Rq w (.bool true)) := by
  subst he hn hn'
  have := sameInts_any A A' c c' xs xs w hl hx hy
  rwa [decide_eq_true rfl] at this

/-- A draw of a list from the code. -/
def RetDL (w : World) (ok : List Int → Prop) (en : Ending) (w' : World) : Prop :=
  ∃ D k ys, en = .returned (.slice D ys.length k) ∧ ok ys ∧ w'.ownsRow w.heap.size 3 1 (.slice D ys.length k) ys.length (ys.map (Value.int .i64)) ∧ Below w.heap.size w w'
theorem Drawn.below {w w' : World} {q B : Nat} {A : Option Addr} {c : Nat} {bs : List Int} (k : Drawn w w' q A c bs) (hB : B ≤ q) (hw : B ≤ w.heap.size) : Below B w w' := k.span.below hB hw
set_option maxHeartbeats 800000 in
theorem drawInversions (A : Option Addr) (c : Nat) (bs : List Int) (w : World) (h : InY w A c bs) :
    Calls Try.prog 23 #[.slice A bs.length c] w (RetDL w fun ys => ys.length ≤ 9) := by
  have HC := Lib.hid (l1New_any A c bs w h.len h.rd)
  go_enter Try.func23, Try.ntmps23
  go_wp2_with fail
  (with_reducible refine HC.out.mono ?_)
  rintro e w1 ⟨q, rfl, hq, hc, hb⟩
  have HD := Lib.hid (l2Bent_any w1 q A c bs hc)
  go_wp2_with fail
  (with_reducible refine HD.out.mono ?_)
  rintro e w2 ⟨D, k, ys, rfl, hl, ho, k1⟩
  go_wp2_with fail
  go_ret
  exact ⟨D, k, ys, rfl, hl, own_mono ho hb.size, hb.trans (k1.below hq hb.size)⟩
set_option maxHeartbeats 800000 in
theorem drawEuler (A : Option Addr) (c : Nat) (bs : List Int) (w : World) (h : InY w A c bs) :
    Calls Try.prog 24 #[.slice A bs.length c] w fun en w' => ∃ x : Int, en = .returned (.int .i64 x) ∧ -1 ≤ x ∧ x ≤ 13 ∧ Below w.heap.size w w' := by
  have HC := Lib.hid (l1New_any A c bs w h.len h.rd)
  go_enter Try.func24, Try.ntmps24
  go_wp2_with fail
  (with_reducible refine HC.out.mono ?_)
  rintro e w1 ⟨q, rfl, hq, hc, hb⟩
  have HD := Lib.hid (l1Below_any w1 q A c bs 15 (by omega) hc)
  go_wp2_with fail
  (with_reducible refine HD.out.mono ?_)
  rintro e w2 ⟨x, rfl, hx, k1⟩
  have e1 : IntKind.i64.wrap (x - 1) = x - 1 := IntWalk.i64_in _ (by omega)
  go_wp2_with fail
  go_ret
  exact ⟨x - 1, by first | rfl | (simp only [e1]), by omega, by omega, hb.trans (k1.below hq hb.size)⟩
set_option maxHeartbeats 800000 in
theorem drawMahon (A : Option Addr) (c : Nat) (bs : List Int) (w : World) (h : InY w A c bs) :
    Calls Try.prog 26 #[.slice A bs.length c] w fun en w' => ∃ x : Int, en = .returned (.int .i64 x) ∧ -1 ≤ x ∧ x ≤ 11 ∧ Below w.heap.size w w' := by
  have HC := Lib.hid (l1New_any A c bs w h.len h.rd)
  go_enter Try.func26, Try.ntmps26
  go_wp2_with fail
  (with_reducible refine HC.out.mono ?_)
  rintro e w1 ⟨q, rfl, hq, hc, hb⟩
  have HD := Lib.hid (l1Below_any w1 q A c bs 13 (by omega) hc)
  go_wp2_with fail
  (with_reducible refine HD.out.mono ?_)
  rintro e w2 ⟨x, rfl, hx, k1⟩
  have e1 : IntKind.i64.wrap (x - 1) = x - 1 := IntWalk.i64_in _ (by omega)
  go_wp2_with fail
  go_ret
  exact ⟨x - 1, by first | rfl | (simp only [e1]), by omega, by omega, hb.trans (k1.below hq hb.size)⟩
end Go.Proofs.Ythipikllgpnlhaa

/- CountNear, program and reference. -/
namespace Go.Proofs.Ythipikllgpnlhaa
set_option maxRecDepth 100000
open Go Go.RowKit

/-- A joined place whose neighbor is not beside it. -/
def badJ (l : List Int) (i : Int) : Bool := !(nth l i == nth l (i - 1) + 1)
def nearFit (ys l : List Int) : Bool := !ys.any (badJ l)
def nearCnt (p xs ys : List Int) : Nat := ((occI p xs).filter (nearFit ys)).length
def cnG (p xs ys : List Int) : Int := if permB p = true ∧ nearB xs ys = true then (nearCnt p xs ys : Int) else -1
theorem nearB_range {xs ys : List Int} (h : nearB xs ys = true) : ∀ i ∈ ys, 1 ≤ i ∧ i < xs.length := fun i hi => by
  unfold nearB at h
  rw [Bool.and_eq_true] at h
  obtain ⟨k, hk, rfl⟩ := List.mem_iff_getElem.1 hi
  have := List.all_eq_true.1 h.2 k (List.mem_range.2 hk)
  simp only [joinAt, List.getElem?_eq_getElem hk, Option.getD_some, decide_eq_true_eq] at this
  omega
theorem nearB_permB {xs ys : List Int} (h : nearB xs ys = true) : permB xs = true := by
  unfold nearB at h
  rw [Bool.and_eq_true] at h
  exact h.1
theorem occI_le {p q : List Int} (hp8 : p.length ≤ 8) (hq8 : q.length ≤ 8) : (occI p q).length ≤ 16777216 := by
  unfold occI
  have h1 := List.length_filter_le (fun l => decide (patL (atL p l) = q)) (ascI p.length q.length)
  have h2 := ascI_le p.length q.length
  have h3 := pow_eight hp8 hq8
  omega
theorem occI_mem {p q l : List Int} (h : l ∈ occI p q) : l.length = q.length ∧ Asc p.length l := ascI_mem (List.mem_filter.1 h).1

set_option maxHeartbeats 1000000 in
theorem l8Fits_b (A D : Option Addr) (c f n : Nat) (l ys : List Int) (w : World) (b : Bool) (hn : l.length = n) (hl : Rd (Value.int .i64) w w.heap.size A l) (hy : Rd (Value.int .i64) w w.heap.size D ys) (hly : ys.length ≤ 1048576) (hr : ∀ i ∈ ys, 1 ≤ i ∧ i < l.length) (h8 : n ≤ 8) (hlim : ∀ x ∈ l, 1 ≤ x ∧ x ≤ 8) (hb : nearFit ys l = b) :
    Calls Try.prog 92 #[.slice A n c, .slice D ys.length f] w (Rq w (.bool b)) := by
  have HB := Lib.hid hb
  have HN := Lib.hid hn
  have hn2 : l.length ≤ n := by omega
  have hn3 : n ≤ l.length := by omega
  clear hb hn
  go_enter Try.func92, Try.ntmps92
  go_wp2_with fail
  go_loopw [5] (fun i wr => ∃ k : Nat, k ≤ ys.length ∧ i = .int .i64 k ∧ Hid ((ys.take k).any (badJ l) = false) ∧ Dr w wr) (fun i _ => ys.length - (intOf i).toNat)
  case atStart => exact ⟨0, Nat.zero_le _, rfl, Lib.hid rfl, Dr.refl _⟩
  case round =>
    obtain ⟨k, hk, rfl, HF, hd⟩ := hrel
    rcases Nat.lt_or_ge k ys.length with hlt | hge
    · have hyk := hr ys[k] (List.getElem_mem hlt)
      obtain ⟨m, hm⟩ : ∃ m : Nat, (m : Int) + 1 = ys[k] := ⟨(ys[k] - 1).toNat, by omega⟩
      have hm1 : m + 1 < l.length := by omega
      have hm0 : m < l.length := by omega
      obtain ⟨by_, oy, rfl, _, hcy⟩ := hy (by omega)
      obtain ⟨bl, ol, rfl, _, hcl⟩ := hl (by omega)
      have g1 : wr.cell? ⟨by_, oy + k, none⟩ = some (.int .i64 ys[k]) := (hd.cell _).trans (hcy k hlt)
      have g2 : wr.cell? ⟨bl, ol + (m + 1), none⟩ = some (.int .i64 (l[m + 1])) := (hd.cell _).trans (hcl (m + 1) (by omega))
      have g3 : wr.cell? ⟨bl, ol + m, none⟩ = some (.int .i64 (l[m])) := (hd.cell _).trans (hcl m (by omega))
      rw [← hm] at g1
      have HK := Lib.hid (show badJ l ys[k] = !(l[m + 1] == l[m] + 1) by
        unfold badJ nth
        rw [← hm, show ((m : Int) + 1).toNat = m + 1 by omega, show ((m : Int) + 1 - 1).toNat = m by omega, List.getElem?_eq_getElem (show m + 1 < l.length by omega), List.getElem?_eq_getElem (show m < l.length by omega)]
        rfl)
      have b1 := hlim l[m] (List.getElem_mem _)
      have e6 : IntKind.i64.wrap (l[m] + 1) = l[m] + 1 := IntWalk.i64_in _ (by omega)
      have e1 : IntKind.i64.wrap ((m : Int) + 1 - 1) = (m : Int) := by rw [Int.add_sub_cancel]; exact IntWalk.i64_in _ (by omega)
      have e2 : ((m : Int) + 1).toNat = m + 1 := by omega
      have e3 : 0 ≤ (m : Int) + 1 := by omega
      have e4 : (m : Int) + 1 < (n : Int) := by omega
      have e5 : (m : Int) < (n : Int) := by omega
      have e7 : (k : Int) < (ys.length : Int) := by omega
      clear hcy hcl hyk hm
      by_cases hh : badJ l ys[k] = true
      · have HT := Lib.hid (show nearFit ys l = false by unfold nearFit; rw [any_at hlt hh]; rfl)
        have hne : (l[m + 1] != l[m] + 1) = true := HK.out.symm.trans hh
        clear hh HK
        go_wp2_with fail
        go_quiet (fail)
        go_wp2_with fail
        go_ret
        exact ⟨ret_bool (by rw [← HB.out, HT.out]), (by first | with_reducible assumption | with_reducible exact hd | with_reducible exact Dr.drewN hd _ | with_reducible exact Dr.drewN (Dr.drewN hd _) _ | with_reducible exact Dr.drew hd)⟩
      · have hhf : badJ l ys[k] = false := by simpa using hh
        have HT := Lib.hid (show (ys.take (k + 1)).any (badJ l) = false from any_take_false HF.out hlt hhf)
        have hne : (l[m + 1] != l[m] + 1) = false := HK.out.symm.trans hhf
        clear hh hhf HK
        go_wp2_with fail
        go_quiet (fail)
        go_wp2_with fail
        go_roundw
        case rel => exact ⟨k + 1, by omega, by go_num, HT, (by first | with_reducible assumption | with_reducible exact hd | with_reducible exact Dr.drewN hd _ | with_reducible exact Dr.drewN (Dr.drewN hd _) _ | with_reducible exact Dr.drew hd)⟩
        case measure => simp [intOf]; omega
    · have HT := Lib.hid (show nearFit ys l = true by have := HF.out; rw [List.take_of_length_le hge] at this; unfold nearFit; rw [this]; rfl)
      go_wp2_with fail
      go_ret
      exact ⟨ret_bool (by rw [← HB.out, HT.out]), hd⟩

set_option maxHeartbeats 4000000 in
theorem countNear_spec (A : Option Addr) (c : Nat) (p : List Int) (C D : Option Addr) (e f : Nat) (xs ys : List Int) (w : World) (hp : In w A c p) (hx : InN w C e xs D f ys) :
    Calls Try.prog 20 #[.slice A p.length c, .agg #[.slice C xs.length e, .slice D ys.length f]] w (Rb w (.int .i64 (cnG p xs ys))) := by
  go_enter Try.func20, Try.ntmps20
  have hb0 : Below w.heap.size w (w.alloc (Obj.cells #[Value.slice C xs.length e, Value.slice D ys.length f] 32)) := (Below.refl _ _).alloc (Nat.le_refl _) _
  have ob := obj_new w (Obj.cells #[Value.slice C xs.length e, Value.slice D ys.length f] 32)
  go_wp2_with fail
  generalize (w.alloc (Obj.cells #[Value.slice C xs.length e, Value.slice D ys.length f] 32)) = w0 at hb0 ob ⊢
  by_cases hP : permB p = true
  · have H1 := Lib.hid hP
    have hp8 := (permB_true hP).1
    clear hP
    (with_reducible refine (isPerm_sb A c p w0 true (hp.next hb0) H1.out).mono ?_)
    rintro e w1 ⟨rfl, hd1⟩
    have ob := obj_dr ob hd1
    have hb := below_dr hb0 hd1
    have f0 : w1.cell? ⟨w.heap.size, 0, none⟩ = some (Value.slice C xs.length e) := (obj_cell ob).trans rfl
    have f1 : w1.cell? ⟨w.heap.size, 1, none⟩ = some (Value.slice D ys.length f) := (obj_cell ob).trans rfl
    go_wp2_with fail
    by_cases hN : nearB xs ys = true
    · have H2 := Lib.hid hN
      have hx8 := (permB_true (nearB_permB hN)).1
      have hrange := nearB_range hN
      have hly := hx.2.len
      have HXP := Lib.hid (nearB_permB hN)
      clear hN
      (with_reducible refine (near_sb C D e f xs ys w1 true (hx.next hb) H2.out).mono ?_)
      rintro e w2 ⟨rfl, hb2⟩
      have ob := obj_below ob hb2 (obj_lt ob)
      have hb := hb.trans (hb2.mono hb.size)
      have f0 : w2.cell? ⟨w.heap.size, 0, none⟩ = some (Value.slice C xs.length e) := (obj_cell ob).trans rfl
      have HG := Lib.hid (show cnG p xs ys = (nearCnt p xs ys : Int) by unfold cnG; rw [if_pos ⟨H1.out, H2.out⟩])
      go_wp2_with fail
      (with_reducible refine (occurrencesOf_spec A C c e p xs w2 (hp.next hb) (hx.1.next hb) H1.out HXP.out).mono ?_)
      rintro e w3 ⟨A3, c3, rs, rfl, hX, hO, hb3⟩
      rw [occ_eq H1.out HXP.out] at hX
      have ob := obj_below ob hb3 (obj_lt ob)
      have hb := hb.trans (hb3.mono hb.size)
      have hRd := hO.read
      have hlen : rs.length ≤ 16777216 := by have h1 := occI_le hp8 hx8; have h2 := congrArg List.length hX; rw [List.length_map] at h2; omega
      have HX := Lib.hid hX
      have hob := obj_lt ob
      clear hX hO f0 f1 hb2
      go_wp2_with fail
      go_loopw [5, 7] (fun s i wr => ∃ k : Nat, k ≤ rs.length ∧ i = .int .i64 k ∧ s = .int .i64 (cntTo (fun r : Row => nearFit ys r.xs) rs k : Nat) ∧ Dr w3 wr) (fun _ i _ => rs.length - (intOf i).toNat)
      case atStart => exact ⟨0, Nat.zero_le _, rfl, rfl, Dr.refl _⟩
      case round =>
        obtain ⟨k, hk, rfl, rfl, hd4⟩ := hrel
        have hle := cntTo_le (fun r : Row => nearFit ys r.xs) rs k
        rcases Nat.lt_or_ge k rs.length with hlt | hge
        · have hRd2 := hRd.dr hd4
          obtain ⟨b, off, rfl, _, hc⟩ := hRd2.at (by omega)
          have cc := hc k hlt
          have hmem := occI_mem (map_memX HX.out (List.getElem_mem hlt))
          have hml : rs[k].xs.length = xs.length := hmem.1
          have hlim : ∀ x ∈ rs[k].xs, 1 ≤ x ∧ x ≤ 8 := fun x hx => by have := hmem.2.1 x hx; omega
          have hl8 : rs[k].xs.length ≤ 8 := by omega
          have hszw : wr.heap.size = w3.heap.size := by rw [hd4.heap]
          have hin := row_in hRd2 (List.getElem_mem hlt) (by omega) (by rw [hszw]; exact Nat.le_refl _)
          have hy2 := ((hx.2.next hb).dr hd4).rd
          have f1 : wr.cell? ⟨w.heap.size, 1, none⟩ = some (Value.slice D ys.length f) := (obj_cell (obj_dr ob hd4)).trans rfl
          have HR := Lib.hid (show ∀ i ∈ ys, 1 ≤ i ∧ i < (rs[k].xs.length : Int) from fun i hi => by have := hrange i hi; omega)
          have HL := Lib.hid hlim
          have HS := Lib.hid (cntTo_succ (fun r : Row => nearFit ys r.xs) rs k hlt)
          have i0 : (0 : Int) ≤ (k : Int) := Int.natCast_nonneg _
          have i1 : (k : Int) < (rs.length : Int) := by omega
          have hrl := hin.rd
          clear hc hmem hml hin hRd2 hlim hszw
          by_cases hH : nearFit ys rs[k].xs = true
          · have HF := Lib.hid hH
            have HT := Lib.hid (show cntTo (fun r : Row => nearFit ys r.xs) rs (k + 1) = cntTo (fun r : Row => nearFit ys r.xs) rs k + 1 by rw [HS.out, if_pos hH])
            have e1 : IntKind.i64.wrap (((cntTo (fun r : Row => nearFit ys r.xs) rs k : Nat) : Int) + 1) = ((cntTo (fun r : Row => nearFit ys r.xs) rs k : Nat) : Int) + 1 := IntWalk.i64_in _ (by omega)
            clear hH
            go_wp2_with fail
            go_quiet ((first | (go_at_call 92; exact quiet_rq (l8Fits_b _ _ _ _ _ rs[k].xs ys _ true rfl (hrl.drewN _) (hy2.drewN _) hly HR.out hl8 HL.out HF.out)) | (go_at_call 91; exact quiet_eq (l1Bit_b true 1 _ rfl))))
            go_wp2_with fail
            go_roundw
            case rel => exact ⟨k + 1, by omega, by go_num, by rw [HT.out]; all_goals go_num, (by first | with_reducible assumption | with_reducible exact hd4 | with_reducible exact Dr.drewN hd4 _ | with_reducible exact Dr.drewN (Dr.drewN hd4 _) _ | with_reducible exact Dr.drew hd4)⟩
            case measure => simp [intOf]; omega
          · have hHf : nearFit ys rs[k].xs = false := by simpa using hH
            have HF := Lib.hid hHf
            have HT := Lib.hid (show cntTo (fun r : Row => nearFit ys r.xs) rs (k + 1) = cntTo (fun r : Row => nearFit ys r.xs) rs k by rw [HS.out, if_neg hH, Nat.add_zero])
            have e1 : IntKind.i64.wrap (((cntTo (fun r : Row => nearFit ys r.xs) rs k : Nat) : Int) + 0) = ((cntTo (fun r : Row => nearFit ys r.xs) rs k : Nat) : Int) := by rw [Int.add_zero]; exact IntWalk.i64_in _ (by omega)
            clear hH hHf
            go_wp2_with fail
            go_quiet ((first | (go_at_call 92; exact quiet_rq (l8Fits_b _ _ _ _ _ rs[k].xs ys _ false rfl (hrl.drewN _) (hy2.drewN _) hly HR.out hl8 HL.out HF.out)) | (go_at_call 91; exact quiet_eq (l1Bit_b false 0 _ rfl))))
            go_wp2_with fail
            go_roundw
            case rel => exact ⟨k + 1, by omega, by go_num, by rw [HT.out]; all_goals go_num, (by first | with_reducible assumption | with_reducible exact hd4 | with_reducible exact Dr.drewN hd4 _ | with_reducible exact Dr.drewN (Dr.drewN hd4 _) _ | with_reducible exact Dr.drew hd4)⟩
            case measure => simp [intOf]; omega
        · obtain rfl : k = rs.length := by omega
          have HE := Lib.hid (show cntTo (fun r : Row => nearFit ys r.xs) rs rs.length = nearCnt p xs ys by
            rw [cntTo_all]; unfold nearCnt; rw [← HX.out, List.filter_map, List.length_map]; rfl)
          go_wp2_with fail
          go_ret
          exact ⟨ret_int (by rw [HG.out, HE.out]), below_dr hb hd4⟩
    · have hNf : nearB xs ys = false := by simpa using hN
      have HG := Lib.hid (show cnG p xs ys = -1 by unfold cnG; rw [if_neg]; exact fun h => hN h.2)
      (with_reducible refine (near_sb C D e f xs ys w1 false (hx.next hb) hNf).mono ?_)
      rintro e w2 ⟨rfl, hb2⟩
      clear hN hNf
      go_wp2_with fail
      go_ret
      exact ⟨ret_int (by rw [HG.out]), hb.trans (hb2.mono hb.size)⟩
  · have hPf : permB p = false := by simpa using hP
    have HG := Lib.hid (show cnG p xs ys = -1 by unfold cnG; rw [if_neg]; exact fun h => hP h.1)
    (with_reducible refine (isPerm_sb A c p w0 false (hp.next hb0) hPf).mono ?_)
    rintro e w1 ⟨rfl, hd1⟩
    clear hP hPf
    go_wp2_with fail
    go_ret
    exact ⟨ret_int (by rw [HG.out]), below_dr hb0 hd1⟩
end Go.Proofs.Ythipikllgpnlhaa

/- InversePerm and CountPattern of the reference; the laws' sameLists, sameMesh and sameNear. -/
namespace Go.Proofs.Ythipikllgpnlhaa
set_option maxRecDepth 100000
open Go Go.RowKit

theorem sameInts_b (A A' : Option Addr) (c c' n m : Nat) (xs ys : List Int) (w : World) (b : Bool) (hn : xs.length = n) (hm : ys.length = m) (hl : n ≤ 1048576)
    (hx : Rd (Value.int .i64) w w.heap.size A xs) (hy : Rd (Value.int .i64) w w.heap.size A' ys) (hb : decide (xs = ys) = b) :
    Calls Try.prog 32 #[.slice A n c, .slice A' m c'] w (Rq w (.bool b)) := by
  subst hn hm hb
  exact sameInts_any A A' c c' xs ys w hl hx hy
set_option maxHeartbeats 1000000 in
theorem sameLists_eq (A A' : Option Addr) (c c' : Nat) (rs rs' : List Row) (w : World) (h : InL w A c rs) (h' : InL w A' c' rs') (he : rs.map Row.xs = rs'.map Row.xs) :
    Calls Try.prog 86 #[.slice A rs.length c, .slice A' rs'.length c'] w (Rb w (.bool true)) := by
  have hlen : rs.length = rs'.length := (map_len he.symm).symm
  have hl1 := h.len
  have hne : ((rs.length : Int) != (rs'.length : Int)) = false := by simp [hlen]
  have HE : ∀ (j : Nat) (hj : j < rs.length) (hj' : j < rs'.length), rs[j].xs = rs'[j].xs := fun j hj hj' => by
    have h1 : (rs.map Row.xs)[j]'(by simpa using hj) = (rs'.map Row.xs)[j]'(by simpa using hj') := by simp only [he]
    simpa using h1
  have HL := Lib.hid hlen
  have HEh := Lib.hid HE
  clear hlen he HE
  go_enter Try.func86, Try.ntmps86
  go_wp2
  go_loopw [5] (fun i wr => ∃ j : Nat, j ≤ rs.length ∧ i = .int .i64 j ∧ Dr w wr) (fun i _ => rs.length - (intOf i).toNat)
  case atStart => exact ⟨0, Nat.zero_le _, rfl, Dr.refl _⟩
  case round =>
    obtain ⟨j, hj, rfl, hd⟩ := hrel
    by_cases hlt : j < rs.length
    · have hlt' : j < rs'.length := by have := HL.out; omega
      obtain ⟨b, off, rfl, _, hc⟩ := (h.dr hd).read.at (by omega)
      obtain ⟨b', off', rfl, _, hc'⟩ := (h'.dr hd).read.at (by omega)
      have c1 := hc j hlt
      have c2 := hc' j hlt'
      have r1 := ((h.dr hd).row (List.getElem_mem hlt)).rd
      have r2 := ((h'.dr hd).row (List.getElem_mem hlt')).rd
      have q0 := ((h.dr hd).row (List.getElem_mem hlt)).len
      have hb : decide (rs[j].xs = rs'[j].xs) = true := by simpa using HEh.out j hlt hlt'
      have HB := Lib.hid hb
      clear hc hc' hb
      go_wp2
      go_quiet ((go_at_call 32; exact quiet_rq (sameInts_b _ _ _ _ _ _ rs[j].xs rs'[j].xs _ true rfl rfl q0 r1 r2 HB.out)))
      go_wp2
      go_roundw
      case rel => exact ⟨j + 1, by omega, by go_num, (by first | with_reducible assumption | with_reducible exact hd | with_reducible exact Dr.drewN hd _ | with_reducible exact Dr.drewN (Dr.drewN hd _) _ | with_reducible exact Dr.drew hd)⟩
      case measure => simp [intOf]; omega
    · go_wp2
      go_ret
      exact ⟨rfl, below_dr (Below.refl _ _) hd⟩
set_option maxHeartbeats 1000000 in
theorem sameMesh_eq (A B A' B' : Option Addr) (c k c' k' : Nat) (xs xs' : List Int) (rs rs' : List Row) (w : World) (h : InM w A c xs B k rs) (h' : InM w A' c' xs' B' k' rs') (hx : xs = xs') (he : rs.map Row.xs = rs'.map Row.xs) :
    Calls Try.prog 16 #[.agg #[.slice A xs.length c, .slice B rs.length k], .agg #[.slice A' xs'.length c', .slice B' rs'.length k']] w (Rb w (.bool true)) := by
  subst hx
  have HE := Lib.hid he
  clear he
  have hb0 := ((Below.refl w.heap.size w).alloc (Nat.le_refl _) (Obj.cells #[Value.slice A xs.length c, Value.slice B rs.length k] 27)).alloc (by simp) (Obj.cells #[Value.slice A' xs.length c', Value.slice B' rs'.length k'] 27)
  have oa := obj_alloc (obj_new w (Obj.cells #[Value.slice A xs.length c, Value.slice B rs.length k] 27)) (Obj.cells #[Value.slice A' xs.length c', Value.slice B' rs'.length k'] 27)
  have ob := obj_new (w.alloc (Obj.cells #[Value.slice A xs.length c, Value.slice B rs.length k] 27)) (Obj.cells #[Value.slice A' xs.length c', Value.slice B' rs'.length k'] 27)
  simp only [World.size_alloc] at ob
  go_enter Try.func16, Try.ntmps16
  go_upto_region 1 with fail
  generalize ((w.alloc (Obj.cells #[Value.slice A xs.length c, Value.slice B rs.length k] 27)).alloc (Obj.cells #[Value.slice A' xs.length c', Value.slice B' rs'.length k'] 27)) = w0 at hb0 oa ob ⊢
  have h := h.next hb0
  have h' := h'.next hb0
  have f0 : w0.cell? ⟨w.heap.size, 0, none⟩ = some (Value.slice A xs.length c) := (obj_cell oa).trans rfl
  have f1 : w0.cell? ⟨w.heap.size + 1, 0, none⟩ = some (Value.slice A' xs.length c') := (obj_cell ob).trans rfl
  have HC := Lib.hid (sameInts_eq A A' c c' _ _ xs xs w0 rfl rfl rfl h.1.len h.1.rd h'.1.rd)
  go_wp2_with fail
  (with_reducible refine HC.out.mono ?_)
  rintro e w1 ⟨rfl, hd⟩
  have hbd := below_dr (Below.refl w0.heap.size w0) hd
  have oa := obj_dr oa hd
  have ob := obj_dr ob hd
  have g0 : w1.cell? ⟨w.heap.size, 1, none⟩ = some (Value.slice B rs.length k) := (obj_cell oa).trans rfl
  have g1 : w1.cell? ⟨w.heap.size + 1, 1, none⟩ = some (Value.slice B' rs'.length k') := (obj_cell ob).trans rfl
  have HC := Lib.hid (sameLists_eq B B' k k' rs rs' w1 (h.2.next hbd) (h'.2.next hbd) HE.out)
  have hb1 := hb0.trans (hbd.mono hb0.size)
  clear f0 f1 hd
  go_wp2_with fail
  (with_reducible refine HC.out.mono ?_)
  rintro e w2 ⟨rfl, hb2⟩
  go_wp2_with fail
  go_ret
  exact ⟨rfl, hb1.trans (hb2.mono hb1.size)⟩
/-- How often a pattern occurs; -1 where one is no permutation. -/
def cpG (p q : List Int) : Int := if permB p = true ∧ permB q = true then ((occL p q).length : Int) else -1
set_option maxHeartbeats 1000000 in
theorem countPattern_spec (A B : Option Addr) (c d : Nat) (p q : List Int) (w : World) (hp : In w A c p) (hq : In w B d q) :
    Calls Try.prog 22 #[.slice A p.length c, .slice B q.length d] w (Rb w (.int .i64 (cpG p q))) := by
  by_cases hP : permB p = true
  · by_cases hQ : permB q = true
    · have HG := Lib.hid (show cpG p q = ((occL p q).length : Int) by rw [cpG, if_pos ⟨hP, hQ⟩])
      have H1 := Lib.hid hP
      have H2 := Lib.hid hQ
      clear hP hQ
      go_enter Try.func22, Try.ntmps22
      go_wp2_with fail
      (with_reducible refine (isPerm_sb A c p w true hp H1.out).mono ?_)
      rintro e w1 ⟨rfl, hd1⟩
      go_wp2_with fail
      (with_reducible refine (isPerm_sb B d q w1 true (hq.dr hd1) H2.out).mono ?_)
      rintro e w2 ⟨rfl, hd2⟩
      have hd := hd1.trans hd2
      have HC := Lib.hid (occurrencesOf_spec A B c d p q w2 (hp.dr hd) (hq.dr hd) H1.out H2.out)
      go_wp2_with fail
      (with_reducible refine HC.out.mono ?_)
      rintro e w3 ⟨O, ok, rs, rfl, hX, _, hb⟩
      have HL := Lib.hid (show rs.length = (occL p q).length from map_len1 hX)
      have hbd := below_dr (Below.refl w.heap.size w) hd
      clear hX
      go_wp2_with fail
      go_ret
      exact ⟨ret_int (by rw [HG.out, HL.out]), hbd.trans (hb.mono hbd.size)⟩
    · have hQ : permB q = false := by simpa using hQ
      have HG := Lib.hid (show cpG p q = -1 by rw [cpG, if_neg (by simp [hQ])])
      have H1 := Lib.hid hP
      have H2 := Lib.hid hQ
      clear hP hQ
      go_enter Try.func22, Try.ntmps22
      go_wp2_with fail
      (with_reducible refine (isPerm_sb A c p w true hp H1.out).mono ?_)
      rintro e w1 ⟨rfl, hd1⟩
      go_wp2_with fail
      (with_reducible refine (isPerm_sb B d q w1 false (hq.dr hd1) H2.out).mono ?_)
      rintro e w2 ⟨rfl, hd2⟩
      go_wp2_with fail
      go_ret
      exact ⟨ret_int HG.out.symm, below_dr (Below.refl _ _) (hd1.trans hd2)⟩
  · have hP : permB p = false := by simpa using hP
    have HG := Lib.hid (show cpG p q = -1 by rw [cpG, if_neg (by simp [hP])])
    have H1 := Lib.hid hP
    clear hP
    go_enter Try.func22, Try.ntmps22
    go_wp2_with fail
    (with_reducible refine (isPerm_sb A c p w false hp H1.out).mono ?_)
    rintro e w1 ⟨rfl, hd1⟩
    go_wp2_with fail
    go_ret
    exact ⟨ret_int HG.out.symm, below_dr (Below.refl _ _) hd1⟩
end Go.Proofs.Ythipikllgpnlhaa

/- A list from its end: slices.Reverse in place, reverse, l3Reverse; ascending and descending lists. -/
namespace Go.Proofs.Ythipikllgpnlhaa
set_option maxRecDepth 100000
open Go Go.RowKit

/-- The cell of a list's row, the list's address known. -/
theorem Read.cellAt {w : World} {B b off c : Nat} {rs : List Row} (h : Read w B rs [⟨some ⟨b, off, none⟩, c, rs.map Row.v⟩]) (j : Nat) (hj : j < rs.length) : w.cell? ⟨b, off + j, none⟩ = some (Value.slice rs[j].A rs[j].xs.length rs[j].c) := by
  obtain ⟨b', off', he, _, hc⟩ := h.at (by omega)
  injection he with he
  injection he with he1 he2 _
  subst he1 he2
  exact hc j hj
/-- The first and the last i places are exchanged. -/
def revTo (xs : List Int) (i : Nat) : List Int := (List.range xs.length).map fun t => if t < i ∨ xs.length ≤ t + i then xs[xs.length - 1 - t]?.getD 0 else xs[t]?.getD 0
theorem revTo_length (xs : List Int) (i : Nat) : (revTo xs i).length = xs.length := by simp [revTo]
theorem revTo_get (xs : List Int) (i t : Nat) (h : t < xs.length) : (revTo xs i)[t]? = some (if t < i ∨ xs.length ≤ t + i then xs[xs.length - 1 - t]?.getD 0 else xs[t]?.getD 0) := by
  simp [revTo, h]
theorem revTo_zero (xs : List Int) : revTo xs 0 = xs := by
  apply List.ext_getElem?
  intro t
  by_cases h : t < xs.length
  · rw [revTo_get xs 0 t h, if_neg (by omega), List.getElem?_eq_getElem h]; rfl
  · rw [List.getElem?_eq_none (by rw [revTo_length]; omega), List.getElem?_eq_none (by omega)]
theorem revTo_all (xs : List Int) (i : Nat) (h : xs.length ≤ 2 * i + 1) : revTo xs i = xs.reverse := by
  apply List.ext_getElem?
  intro t
  by_cases ht : t < xs.length
  · rw [revTo_get xs i t ht, List.getElem?_reverse ht]
    by_cases hc : t < i ∨ xs.length ≤ t + i
    · rw [if_pos hc, List.getElem?_eq_getElem (by omega)]; rfl
    · rw [if_neg hc]
      have : xs.length - 1 - t = t := by omega
      rw [this, List.getElem?_eq_getElem ht]; rfl
  · rw [List.getElem?_eq_none (by rw [revTo_length]; omega), List.getElem?_eq_none (by rw [List.length_reverse]; omega)]
theorem revTo_succ (xs : List Int) (i : Nat) (h : 2 * i + 1 < xs.length) : ((revTo xs i).set i (xs[xs.length - 1 - i]?.getD 0)).set (xs.length - 1 - i) (xs[i]?.getD 0) = revTo xs (i + 1) := by
  apply List.ext_getElem?
  intro t
  by_cases ht : t < xs.length
  · rw [revTo_get xs (i + 1) t ht, List.getElem?_set, List.getElem?_set, List.length_set, revTo_length, revTo_get xs i t ht]
    by_cases h1 : xs.length - 1 - i = t
    · subst h1
      rw [if_pos rfl, if_pos (by omega), if_pos (by omega)]
      rw [show xs.length - 1 - (xs.length - 1 - i) = i by omega]
    · rw [if_neg h1]
      by_cases h2 : i = t
      · subst h2
        rw [if_pos rfl, if_pos (by omega), if_pos (by omega)]
      · rw [if_neg h2]
        by_cases h3 : t < i ∨ xs.length ≤ t + i
        · rw [if_pos h3, if_pos (by omega)]
        · rw [if_neg h3, if_neg (by omega)]
  · rw [List.getElem?_eq_none (by rw [List.length_set, List.length_set, revTo_length]; omega), List.getElem?_eq_none (by rw [revTo_length]; omega)]
theorem revTo_at (xs : List Int) (i t : Nat) (h : t < xs.length) (h1 : i ≤ t) (h2 : t + i < xs.length) : ((revTo xs i).map (Value.int .i64))[t]? = some (.int .i64 xs[t]) := by
  rw [List.getElem?_map, revTo_get xs i t h, if_neg (by omega), List.getElem?_eq_getElem h]; rfl

theorem rev_take (xs : List Int) (k : Nat) (h : k < xs.length) : (xs.drop k).reverse = (xs.drop (k + 1)).reverse ++ [xs[k]] := by
  rw [List.drop_eq_getElem_cons h, List.reverse_cons]
set_option maxHeartbeats 1000000 in
theorem l3Reverse_any (A : Option Addr) (c n : Nat) (xs : List Int) (w : World) (hn : xs.length = n) (hl : n ≤ 1048576) (hx : Rd (Value.int .i64) w w.heap.size A xs) :
    Calls Try.prog 115 #[.slice A n c] w (Ret (Value.int .i64) 3 w xs.reverse) := by
  obtain ⟨i0, hi, hz0, hz1, hz2⟩ := info_parts infoI
  have HN := Lib.hid hn
  have hn1 : xs.length ≤ n := by omega
  have hn2 : n ≤ xs.length := by omega
  clear hn
  have hown0 : (w.alloc (.cells #[] 3)).ownsRow w.heap.size 3 1 (.slice (some ⟨w.heap.size, 0, none⟩) 0 0) 0 (((xs.drop n).reverse).map (Value.int .i64)) := by
    rw [List.drop_of_length_le hn1]
    exact World.ownsRow_lit w #[] 0 (Nat.le_refl _) (by unfold maxLen; omega) rfl
  have hb0 := (Below.refl w.heap.size w).alloc (Nat.le_refl _) (.cells #[] 3)
  go_enter Try.func115, Try.ntmps115
  go_wp2_with fail
  go_loopw [3, 4] (fun v i wr => ∃ (k m : Nat) (A1 : Option Addr) (c1 : Nat), k ≤ n ∧ m = n - k ∧ i = .int .i64 ((k : Int) - 1) ∧ v = .slice A1 m c1 ∧ wr.ownsRow w.heap.size 3 1 (.slice A1 m c1) m (((xs.drop k).reverse).map (Value.int .i64)) ∧ Below w.heap.size w wr) (fun _ i _ => (intOf i + 1).toNat)
  case atStart => exact ⟨n, 0, _, _, Nat.le_refl _, by omega, rfl, rfl, hown0, hb0⟩
  case round =>
    clear hown0 hb0
    obtain ⟨k, m, A1, c1, hk, hm, rfl, rfl, hown, hb⟩ := hrel
    have hmn : m ≤ n := by omega
    have HM := Lib.hid hm
    have hsz := hb.size
    clear hm
    rcases Nat.eq_zero_or_pos k with h0 | h0
    · subst h0
      have hneg : ¬ ((0 : Int) ≤ ((0 : Nat) : Int) - 1) := by omega
      have HE := Lib.hid (show m = xs.reverse.length by rw [List.length_reverse]; have := HM.out; omega)
      rw [List.drop_zero] at hown
      go_wp2_with fail
      go_ret
      exact ⟨A1, c1, by rw [← HE.out]; rfl, by rw [← HE.out]; exact (own_caps hown).1, (own_caps hown).2, by rw [← HE.out]; first | exact hown | simpa using hown, hb⟩
    · obtain ⟨j, hj⟩ : ∃ j : Nat, (j : Int) = (k : Int) - 1 := ⟨k - 1, by omega⟩
      have hjx : j < xs.length := by omega
      obtain ⟨b, off, rfl, _, hc⟩ := (hx.next hb) (by omega)
      have cc := hc j hjx
      have HT := Lib.hid (show (xs.drop j).reverse = (xs.drop k).reverse ++ [xs[j]] by rw [rev_take xs j hjx, show j + 1 = k by omega])
      have HJ := Lib.hid hj
      have hjn : j < n := by omega
      have hjk : j < k := by omega
      have HMJ := Lib.hid (show m + 1 = n - j by have := HM.out; omega)
      rw [← hj]
      clear hc hj
      go_wp2_with (at_builtin; refine wpList_append_own _ rfl _ _ 24 rfl (w.heap.size) 3 i0 (.int .i64 0) 1 8 Try.underlying24 hi hz0 hz1 hz2 rfl (by decide) _ _ _ rfl (World.ownsRow.alloc hown _) ⟨wr.heap.size, 0, none⟩ 1 1 [.int .i64 (xs[j])] rfl rfl (cell_one_new _ _ _) (by intro u hu; simp at hu; subst hu; rfl) (by unfold maxLen; omega) (by omega) (by simp; omega) ?_; intro v1 w1 hown1 hgrow1 _)
      have hS2 : w1.ownsRow w.heap.size 3 1 v1 (m + 1) (((xs.drop j).reverse).map (Value.int .i64)) := by rw [HT.out]; simpa using hown1
      have hb1 := (hb.alloc hsz (Obj.cells #[Value.int .i64 xs[j]] 3)).grown hgrow1 (by simp; omega) (by intro g hg; exact ((hown.lt g hg).1))
      obtain ⟨A2, c2, rfl, _, _⟩ := own_shape hS2
      have H1 := Lib.hid hS2
      have H2 := Lib.hid hb1
      clear hS2 hown1 hgrow1 hb1 hown hb
      go_wp2
      go_roundw
      case rel => exact ⟨j, m + 1, A2, c2, by omega, HMJ.out, by go_num, rfl, H1.out, H2.out⟩
      case measure => (simp [intOf]) <;> omega
/-- Ascending by neighbors. -/
def sortB (xs : List Int) : Bool := (List.range (xs.length - 1)).all fun i => decide (xs[i]?.getD 0 ≤ xs[i + 1]?.getD 0)
theorem nums_get (n i : Nat) (h : i < n) : (nums n)[i]? = some ((i : Int) + 1) := by simp [nums, h]
theorem sort_perm {xs : List Int} (h : permB xs = true) : sortB xs = decide (xs = nums xs.length) := by
  obtain ⟨_, hr, hn⟩ := permB_true h
  rw [Bool.eq_iff_iff, decide_eq_true_eq]
  constructor
  · intro hs
    have hlt : ∀ i (h1 : i + 1 < xs.length), xs[i] < xs[i + 1] := fun i h1 => by
      have h2 := List.all_eq_true.1 hs i (List.mem_range.2 (by omega))
      rw [List.getElem?_eq_getElem (show i < xs.length by omega), List.getElem?_eq_getElem h1] at h2
      have h3 : xs[i] ≤ xs[i + 1] := by simpa using h2
      rcases Int.lt_or_eq_of_le h3 with h4 | h4
      · exact h4
      · have := nodup_inj hn _ _ h4
        omega
    have hge : ∀ i (h1 : i < xs.length), (i : Int) + 1 ≤ xs[i] := by
      intro i
      induction i with
      | zero => intro h1; have := (hr xs[0] (List.getElem_mem h1)).1; omega
      | succ i ih => intro h1; have h2 := ih (by omega); have h3 := hlt i h1; push_cast; omega
    have hle : ∀ d i (h1 : i < xs.length), xs.length - 1 - i = d → xs[i] ≤ (i : Int) + 1 := by
      intro d
      induction d with
      | zero => intro i h1 hd; have := (hr xs[i] (List.getElem_mem h1)).2; omega
      | succ d ih => intro i h1 hd; have h2 := ih (i + 1) (by omega) (by omega); have h3 := hlt i (by omega); push_cast at h2; omega
    apply List.ext_getElem?
    intro i
    by_cases hi : i < xs.length
    · rw [nums_get _ _ hi, List.getElem?_eq_getElem hi]
      have h1 := hge i hi
      have h2 := hle _ i hi rfl
      congr 1
      omega
    · rw [List.getElem?_eq_none (by omega), List.getElem?_eq_none (by rw [nums_length]; omega)]
  · intro he
    unfold sortB
    rw [List.all_eq_true]
    intro i hi
    have hi := List.mem_range.1 hi
    have h1 : xs[i]? = some ((i : Int) + 1) := by rw [he]; exact nums_get _ _ (by omega)
    have h2 : xs[i + 1]? = some (((i + 1 : Nat) : Int) + 1) := by rw [he]; exact nums_get _ _ (by omega)
    rw [h1, h2]
    simp only [Option.getD_some, decide_eq_true_eq]
    push_cast
    omega
end Go.Proofs.Ythipikllgpnlhaa

/- IsSumClosed, program and reference. -/
namespace Go.Proofs.Ythipikllgpnlhaa
set_option maxRecDepth 100000
open Go Go.RowKit

/-- The greatest of the first k. -/
def pmax (p : List Int) (k : Nat) : Int := (p.take k).foldl max 0
theorem pmax_succ (p : List Int) (k : Nat) (h : k < p.length) : pmax p (k + 1) = max (pmax p k) p[k] := by
  unfold pmax
  rw [List.take_succ_eq_append_getElem h, List.foldl_append]; rfl
theorem pmax_bd {p : List Int} (hb : ∀ v ∈ p, 1 ≤ v ∧ v ≤ 8) (k : Nat) : 0 ≤ pmax p k ∧ pmax p k ≤ 8 := by
  induction k with
  | zero => simp [pmax]
  | succ k ih =>
    by_cases h : k < p.length
    · rw [pmax_succ p k h]
      have := hb p[k] (List.getElem_mem h)
      omega
    · unfold pmax at ih ⊢
      rw [List.take_of_length_le (by omega)] at ih ⊢
      exact ih
/-- How many sum parts end within the first k. -/
def sumN (p : List Int) (k : Nat) : Nat := ((List.range k).filter fun i => decide (pmax p (i + 1) = (i : Int) + 1)).length
theorem sumN_succ (p : List Int) (k : Nat) : sumN p (k + 1) = if pmax p (k + 1) = (k : Int) + 1 then sumN p k + 1 else sumN p k := by
  unfold sumN
  rw [List.range_succ, List.filter_append]
  by_cases h : pmax p (k + 1) = (k : Int) + 1 <;> simp [h]
theorem sumN_le (p : List Int) (k : Nat) : sumN p k ≤ k := Nat.le_trans (List.length_filter_le _ _) (by simp)
def scG (X : List (List Int)) : Bool := basisB X && !X.any fun p => decide (1 < sumN p p.length)
/-- A call's result: a list of n rows, whatever they are. -/
def RetLen (w : World) (n : Nat) (e : Ending) (w' : World) : Prop := ∃ A c, e = .returned (.slice A n c) ∧ Below w.heap.size w w'


theorem l1Max_b (a b m : Int) (w : World) (hm : max a b = m) : Calls Try.prog 108 #[.int .i64 a, .int .i64 b] w fun e w' => e = .returned (.int .i64 m) ∧ w = w' := by
  have HM := Lib.hid hm
  clear hm
  by_cases h : b < a
  · have HE := Lib.hid (show m = a by rw [← HM.out]; omega)
    go_enter Try.func108, Try.ntmps108
    go_wp2
    go_ret
    exact ⟨by rw [HE.out]; rfl, rfl⟩
  · have HE := Lib.hid (show m = b by rw [← HM.out]; omega)
    go_enter Try.func108, Try.ntmps108
    go_wp2
    go_ret
    exact ⟨by rw [HE.out]; rfl, rfl⟩
def sumG (p : List Int) : Nat := if permB p = true then sumN p p.length else 0

end Go.Proofs.Ythipikllgpnlhaa
