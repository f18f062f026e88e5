/- Several texts in one, each with its own head: TS8, TS9, TE1. No program of ours. -/
import Derived.Deep.RegionHeld3
import Derived.Test.YtldknpjeegdbmaaGreatMTrees8
/- The split of the reference: l6Split. Written by gen/gents8.py. -/
namespace Go.Proofs.YtldknpjeegdbmaaGreat
set_option maxRecDepth 100000
open Go Go.RowKit

/-- The first row grows by one number. -/
theorem Own.push {w w' : World} {lo hi n c c' : Nat} {A A' : Option Addr} {xs : List Int} {x : Int} {rs : List Row} {os : List Outer} (h : Own w lo hi (⟨A, c, xs⟩ :: rs) os) (hh : hi ≤ w.heap.size) (hn : xs.length = n)
    (h1 : w'.ownsRow lo 3 1 (.slice A' (n + 1) c') (n + 1) ((xs ++ [x]).map (Value.int .i64))) (hg : w.grownBy w' (Value.slice A n c).ownBlock) (hat : (Value.slice A' (n + 1) c').ownBlock = (Value.slice A n c).ownBlock ∨ (Value.slice A' (n + 1) c').ownBlock = some w.heap.size) :
    Own w' lo w'.heap.size (⟨A', c', xs ++ [x]⟩ :: rs) os := by
  subst hn
  have hs := hg.size
  have hv : (Row.mk A' c' (xs ++ [x])).v = .slice A' (xs.length + 1) c' := by simp [Row.v]
  have hp := h.apart
  rw [List.pairwise_cons] at hp
  have hk : ∀ s ∈ rs, s.v.ownBlock = none ∨ s.v.ownBlock ≠ (Value.slice A xs.length c).ownBlock := fun s hs => by
    rcases hsv : s.v.ownBlock with _ | g
    · exact .inl rfl
    · refine .inr fun e => ?_
      rcases hp.1 s hs with e1 | e1
      · have e1 : (Value.slice A xs.length c).ownBlock = none := e1
        rw [e1] at e; cases e
      · exact e1 (by rw [hsv, e]; rfl)
  refine ⟨fun s hs => ?_, fun s hs g hg' => ?_, ?_, fun o ho => ?_, fun o ho g hg' => ?_⟩
  · rcases List.mem_cons.1 hs with rfl | hs
    · rw [hv]
      have e : (Row.mk A' c' (xs ++ [x])).xs.length = xs.length + 1 := by simp
      rw [e]
      exact h1
    · exact (h.rows s (by simp [hs])).kept hg (hk s hs)
  · rcases List.mem_cons.1 hs with rfl | hs
    · rw [hv] at hg'
      exact (h1.lt g hg').2
    · have := h.lt s (by simp [hs]) g hg'; omega
  · rw [List.pairwise_cons]
    refine ⟨fun s hs => ?_, hp.2⟩
    rw [hv]
    rcases hat with e | e
    · rw [e]; exact hp.1 s hs
    · rw [e]
      refine .inr fun e2 => ?_
      have := h.lt s (by simp [hs]) w.heap.size e2.symm
      omega
  · refine (h.outs o ho).kept hg ?_
    rcases hov : o.v.ownBlock with _ | g
    · exact .inl rfl
    · refine .inr fun e => ?_
      exact own_ne h (r := ⟨A, c, xs⟩) (by simp) ho g e.symm hov
  · have := h.olt o ho g hg'; omega
theorem own_litN {w : World} {lo bl : Nat} {x : Int} (h : w.heap[bl]? = some (Obj.cells #[.int .i64 x] 3 (0, 0))) (hl : lo ≤ bl) : w.ownsRow lo 3 1 (Row.v ⟨some ⟨bl, 0, none⟩, 1, [x]⟩) [x].length ([x].map (Value.int .i64)) :=
  ⟨rfl, .inr ⟨bl, 1, _, rfl, hl, h, Nat.le_refl _, by unfold maxLen; omega, rfl, rfl⟩⟩
/-- A list of rows whose first one is apart. -/
theorem rows_cons {w : World} {lo hi : Nat} {A : Option Addr} {c : Nat} {ss : List Row} (h : Own w lo hi ss [⟨A, c, ss.map Row.v⟩]) (hh : hi ≤ w.heap.size) (hs : ss.length + sizeR ss ≤ 1048576) (h1 : 1 < ss.length) : ∃ r0 t, ss = r0 :: t ∧ InL w A c (r0 :: t) := by
  cases ss with
  | nil => simp at h1
  | cons r0 t => exact ⟨r0, t, rfl, h.read.toL hs hh⟩
theorem sum_size {ss : List Row} {p : List Int} (hp : permB p = true) (hX : ss.map Row.xs = sumL p) : ss.length + sizeR ss ≤ 1048576 :=
  rows_bound (n := 8) (m := 8) hX (by have h1 := sumTo_le p p.length; have h2 := (permB_true hp).1; unfold sumL; omega) (fun q hq => (permB_true (sumL_perm hp q hq).1).1) (by omega)
theorem skew_size {ss : List Row} {p : List Int} (hp : permB p = true) (hX : ss.map Row.xs = skewL p) : ss.length + sizeR ss ≤ 1048576 :=
  rows_bound (n := 8) (m := 8) hX (by have h1 := sumTo_le (complL p) (complL p).length; have h2 := (permB_true hp).1; rw [complL_length] at h1; unfold skewL sumL; rw [List.length_map, complL_length]; omega) (fun q hq => (permB_true (skewL_perm hp q hq).1).1) (by omega)
theorem tail_jp {b : Bool} {p : List Int} {L : List (List Int)} (hp : permB p = true) (hj : joinL b L = p) (hL : ∀ q ∈ L, permB q = true ∧ q ≠ []) : jpB b L.tail = true := by
  have key : ∀ k, k ≤ L.tail.length → permB (joinL b (L.tail.take k)) = true ∧ (joinL b (L.tail.take k)).length ≤ 8 ∧ ∀ j, j < k → fitB (joinL b (L.tail.take j)) (lAt L.tail j) = true := by
    have hlen : (L.tail.map List.length).sum ≤ 8 := by
      have h1 := joinL_len b L
      rw [hj] at h1
      have h8 := (permB_true hp).1
      cases L with
      | nil => simp
      | cons a t => rw [List.map_cons, List.sum_cons] at h1; rw [List.tail_cons]; omega
    have hle : ∀ k, (joinL b (L.tail.take k)).length ≤ 8 := fun k => by
      rw [joinL_len]
      have : ((L.tail.take k).map List.length).sum ≤ (L.tail.map List.length).sum := by
        have := List.take_append_drop k L.tail
        conv => rhs; rw [← this, List.map_append, List.sum_append]
        omega
      omega
    intro k
    induction k with
    | zero => intro _; exact ⟨permB_nil, hle 0, fun j hj => by omega⟩
    | succ k ih =>
      intro hk
      obtain ⟨h1, h2, h3⟩ := ih (by omega)
      have hq := hL (lAt L.tail k) (by rw [lAt_eq (by omega)]; exact List.mem_of_mem_tail (List.getElem_mem _))
      have hfit : fitB (joinL b (L.tail.take k)) (lAt L.tail k) = true := by
        unfold fitB
        rw [h1, hq.1]
        have := hle (k + 1)
        rw [joinL_take (by omega), join1_len] at this
        simpa using this
      refine ⟨?_, hle _, fun j hj => ?_⟩
      · rw [joinL_take (by omega)]; exact perm_join1 hfit
      · rcases Nat.lt_or_ge j k with h | h
        · exact h3 j h
        · rw [show j = k by omega]; exact hfit
  obtain ⟨_, _, h3⟩ := key L.tail.length (Nat.le_refl _)
  unfold jpB
  rw [List.all_eq_true]
  exact fun j hj => h3 j (List.mem_range.1 hj)
theorem tail_fit {b : Bool} {p : List Int} {L : List (List Int)} (hp : permB p = true) (hj : joinL b L = p) (hL : ∀ q ∈ L, permB q = true ∧ q ≠ []) : jpG b L.tail = joinL b L.tail := by
  unfold jpG
  rw [if_pos (tail_jp hp hj hL)]
theorem split_eq1 {p : List Int} (h : p.length = 1) : splitR p = [1] ∧ splitP p = [[1]] := by unfold splitR splitP; rw [if_pos h, if_pos h]; exact ⟨rfl, rfl⟩
theorem split_eq2 {p : List Int} (hp : permB p = true) (h : p.length ≠ 1) (h2 : 1 < (sumL p).length) : splitR p = rootB false ∧ splitP p = [headP (sumL p), jpG false (sumL p).tail] := by
  unfold splitR splitP; rw [if_neg h, if_neg h, if_pos h2, if_pos h2, tail_fit hp (sum_join hp) (sumL_perm hp)]; exact ⟨rfl, rfl⟩
theorem split_eq3 {p : List Int} (hp : permB p = true) (h : p.length ≠ 1) (h2 : ¬ 1 < (sumL p).length) (h3 : 1 < (skewL p).length) : splitR p = rootB true ∧ splitP p = [headP (skewL p), jpG true (skewL p).tail] := by
  unfold splitR splitP; rw [if_neg h, if_neg h, if_neg h2, if_neg h2, if_pos h3, if_pos h3, tail_fit hp (skew_join hp) (skewL_perm hp)]; exact ⟨rfl, rfl⟩
theorem split_eq4 {p : List Int} (h : p.length ≠ 1) (h2 : ¬ 1 < (sumL p).length) (h3 : ¬ 1 < (skewL p).length) : splitR p = rootL (blkF p.length p.length p) ∧ splitP p = (blkF p.length p.length p).map patL := by
  unfold splitR splitP; rw [if_neg h, if_neg h, if_neg h2, if_neg h2, if_neg h3, if_neg h3]; exact ⟨rfl, rfl⟩
/-- How far the blocks are made. -/
structure BlkSt (p : List Int) (ds : List (List Int)) (f : Nat) (s : List Int) : Prop where
  all : blkF p.length p.length p = ds ++ blkF p.length f s
  flat : p = ds.flatten ++ s
  fuel : s.length ≤ f
theorem BlkSt.start (p : List Int) : BlkSt p [] p.length p := ⟨rfl, rfl, Nat.le_refl _⟩
theorem BlkSt.len {p : List Int} {ds : List (List Int)} {f : Nat} {s : List Int} (h : BlkSt p ds f s) : p.length = ds.flatten.length + s.length := by
  have := congrArg List.length h.flat
  rwa [List.length_append] at this
theorem BlkSt.drop {p : List Int} {ds : List (List Int)} {f : Nat} {s : List Int} (h : BlkSt p ds f s) : p.drop ds.flatten.length = s := by
  conv => lhs; rw [h.flat]
  rw [List.drop_left' rfl]
theorem BlkSt.next {p : List Int} {ds : List (List Int)} {f : Nat} {s : List Int} (h : BlkSt p ds f s) (hs : s ≠ []) (hn : 2 ≤ p.length) :
    ∃ f' L, L = longL p.length s s.length ∧ 1 ≤ L ∧ L ≤ s.length ∧ L < p.length ∧ BlkSt p (ds ++ [s.take L]) f' (s.drop L) ∧ (ds ++ [s.take L]).flatten.length = ds.flatten.length + L := by
  obtain ⟨f', rfl, e⟩ := blk_next (n := p.length) hs h.fuel
  have hl := len_pos hs
  obtain ⟨h1, h2, h3, _, _⟩ := longL_facts (n := p.length) (s := s) hn s.length hl (Nat.le_refl _)
  have hf := h.fuel
  generalize hL : longL p.length s s.length = L at *
  refine ⟨f', L, rfl, h1, h2, h3, ⟨?_, ?_, by rw [List.length_drop]; omega⟩, ?_⟩
  · rw [h.all, e, List.append_assoc]; rfl
  · rw [List.flatten_append]
    conv => lhs; rw [h.flat]
    simp
  · rw [List.flatten_append, List.length_append]
    simp
    omega
theorem BlkSt.done {p : List Int} {ds : List (List Int)} {f : Nat} (h : BlkSt p ds f []) : blkF p.length p.length p = ds := by rw [h.all, blk_end, List.append_nil]
theorem BlkSt.cnt {p : List Int} {ds : List (List Int)} {f : Nat} {s : List Int} (h : BlkSt p ds f s) (hp : permB p = true) (hn : 2 ≤ p.length) : ds.length ≤ 8 ∧ ∀ b ∈ ds, b.length ≤ 8 := by
  obtain ⟨hb, _, _⟩ := blkF_blks hp hn
  have h8 := (permB_true hp).1
  have h1 : ds.length ≤ ds.flatten.length := flat_len_le fun b hb' => hb.ne b (by rw [h.all]; simp [hb'])
  have h2 := h.len
  refine ⟨by omega, fun b hb' => ?_⟩
  have : b.length ≤ ds.flatten.length := by
    clear h h1 h2 hb
    induction ds with
    | nil => cases hb'
    | cons c t ih =>
      rw [List.flatten_cons, List.length_append]
      rcases List.mem_cons.1 hb' with rfl | hb'
      · omega
      · have := ih hb'; omega
  omega
set_option maxHeartbeats 8000000 in
theorem l6Split_spec (A : Option Addr) (c : Nat) (p : List Int) (w : World) (h : In w A c p) (hp : permB p = true) (h0 : p ≠ []) :
    Calls Tryz.prog 30 #[.slice A p.length c] w (RetS w (splitR p) (splitP p)) := by
  obtain ⟨i0, hi, hz0, hz1, hz2⟩ := info_parts infoI
  obtain ⟨j0, hj, hy0, hy1, hy2⟩ := info_parts infoL
  have HP := Lib.hid hp
  have hl8 := (permB_true hp).1
  have hl0 := len_pos h0
  have hb0 : Below w.heap.size w (w.alloc (Obj.cells #[Value.slice none 0 0, Value.slice none 0 0] 28)) := (Below.refl _ _).alloc (Nat.le_refl _) _
  have ob := obj_new w (Obj.cells #[Value.slice none 0 0, Value.slice none 0 0] 28)
  have hz : (w.alloc (Obj.cells #[Value.slice none 0 0, Value.slice none 0 0] 28)).heap.size = w.heap.size + 1 := by simp
  by_cases h1 : p.length = 1
  case pos =>
    have HE := Lib.hid (split_eq1 h1)
    have d1 : ((p.length : Int) == 1) = true := by rw [h1]; rfl
    have hbF : Below w.heap.size w (w.alloc (Obj.cells #[Value.slice (some ⟨w.heap.size + 1, 0, none⟩) 1 1, Value.slice (some ⟨w.heap.size + 1 + 1 + 1, 0, none⟩) 1 1] 28)) := (Below.refl _ _).alloc (Nat.le_refl _) _
    have obF := obj_new w (Obj.cells #[Value.slice (some ⟨w.heap.size + 1, 0, none⟩) 1 1, Value.slice (some ⟨w.heap.size + 1 + 1 + 1, 0, none⟩) 1 1] 28)
    have hbA := ((hbF.alloc hbF.size (Obj.cells #[Value.int .i64 1] 3)).alloc (by simp; omega) (Obj.cells #[Value.int .i64 1] 3)).alloc (by simp; omega) (Obj.cells #[Value.slice (some ⟨w.heap.size + 1 + 1, 0, none⟩) 1 1] 24)
    have obA := obj_alloc (obj_alloc (obj_alloc obF (Obj.cells #[Value.int .i64 1] 3)) (Obj.cells #[Value.int .i64 1] 3)) (Obj.cells #[Value.slice (some ⟨w.heap.size + 1 + 1, 0, none⟩) 1 1] 24)
    have or1 := obj_alloc (obj_alloc (obj_new (w.alloc (Obj.cells #[Value.slice (some ⟨w.heap.size + 1, 0, none⟩) 1 1, Value.slice (some ⟨w.heap.size + 1 + 1 + 1, 0, none⟩) 1 1] 28)) (Obj.cells #[Value.int .i64 1] 3)) (Obj.cells #[Value.int .i64 1] 3)) (Obj.cells #[Value.slice (some ⟨w.heap.size + 1 + 1, 0, none⟩) 1 1] 24)
    have or2 := obj_alloc (obj_new ((w.alloc (Obj.cells #[Value.slice (some ⟨w.heap.size + 1, 0, none⟩) 1 1, Value.slice (some ⟨w.heap.size + 1 + 1 + 1, 0, none⟩) 1 1] 28)).alloc (Obj.cells #[Value.int .i64 1] 3)) (Obj.cells #[Value.int .i64 1] 3)) (Obj.cells #[Value.slice (some ⟨w.heap.size + 1 + 1, 0, none⟩) 1 1] 24)
    have or3 := obj_new (((w.alloc (Obj.cells #[Value.slice (some ⟨w.heap.size + 1, 0, none⟩) 1 1, Value.slice (some ⟨w.heap.size + 1 + 1 + 1, 0, none⟩) 1 1] 28)).alloc (Obj.cells #[Value.int .i64 1] 3)).alloc (Obj.cells #[Value.int .i64 1] 3)) (Obj.cells #[Value.slice (some ⟨w.heap.size + 1 + 1, 0, none⟩) 1 1] 24)
    simp only [World.size_alloc] at or1 or2 or3
    clear hp h0
    go_enter Tryz.func30, Tryz.ntmps30
    obtain ⟨W, hW⟩ : ∃ W, W = (((w.alloc (Obj.cells #[Value.slice (some ⟨w.heap.size + 1, 0, none⟩) 1 1, Value.slice (some ⟨w.heap.size + 1 + 1 + 1, 0, none⟩) 1 1] 28)).alloc (Obj.cells #[Value.int .i64 1] 3)).alloc (Obj.cells #[Value.int .i64 1] 3)).alloc (Obj.cells #[Value.slice (some ⟨w.heap.size + 1 + 1, 0, none⟩) 1 1] 24) := ⟨_, rfl⟩
    have hWs : W.heap.size = w.heap.size + 1 + 1 + 1 + 1 := by rw [hW]; simp
    rw [← hW] at hbA obA or1 or2 or3
    have r1 := Own.one (own_litN (lo := w.heap.size + 1) or1 (Nat.le_refl _)) (Nat.le_refl _)
    have r1 : Own W (w.heap.size + 1) (w.heap.size + 1 + 1) [⟨some ⟨w.heap.size + 1, 0, none⟩, 1, [1]⟩] [] := r1.lim _ (fun r hr q hq => by
      obtain rfl := List.mem_singleton.1 hr
      have hq : some (w.heap.size + 1) = some q := hq
      injection hq with hq; omega)
    have r2 : Own W (w.heap.size + 1) W.heap.size ([⟨some ⟨w.heap.size + 1, 0, none⟩, 1, [1]⟩] ++ [(⟨some ⟨w.heap.size + 1 + 1, 0, none⟩, 1, [1]⟩ : Row)]) [] := r1.add (own_litN (lo := w.heap.size + 1 + 1) or2 (Nat.le_refl _)) (by omega) (by omega)
    have hrow : Own W (w.heap.size + 1) W.heap.size (⟨some ⟨w.heap.size + 1, 0, none⟩, 1, [1]⟩ :: [(⟨some ⟨w.heap.size + 1 + 1, 0, none⟩, 1, [1]⟩ : Row)]) [⟨some ⟨w.heap.size + 1 + 1 + 1, 0, none⟩, 1, [(⟨some ⟨w.heap.size + 1 + 1, 0, none⟩, 1, [1]⟩ : Row)].map Row.v⟩] :=
      r2.with_ ⟨rfl, .inr ⟨w.heap.size + 1 + 1 + 1, 1, _, rfl, by omega, or3, Nat.le_refl _, by unfold maxLen; omega, rfl, rfl⟩⟩ (Nat.le_refl _)
    have hOF := Lib.hid (hrow.wider (lo' := w.heap.size) (by omega) (Nat.le_refl _))
    have hBF := Lib.hid hbA
    have l0 := (obj_cell (i := 0) obA).trans rfl
    have l1 := (obj_cell (i := 1) obA).trans rfl
    clear hrow r1 r2 hbA obA or1 or2 or3 hWs hbF obF
    subst hW
    go_wp2_with fail
    try simp only [Exit.inBlock, Exit.then]
    refine bodyPost_ret (v := .agg #[.slice (some ⟨w.heap.size + 1, 0, none⟩) 1 1, .slice (some ⟨w.heap.size + 1 + 1 + 1, 0, none⟩) 1 1]) (by simp [results, Tryz.results30, go_sem, l0, l1]) rfl ?_
    rw [HE.out.1, HE.out.2]
    exact ⟨_, _, _, _, [⟨some ⟨w.heap.size + 1 + 1, 0, none⟩, 1, [1]⟩], rfl, rfl, hOF.out, hBF.out⟩
  have d1 : ((p.length : Int) == 1) = false := by rw [beq_eq_false_iff_ne]; omega
  clear h0
  have H1 := Lib.hid h1
  clear h1 hp
  go_enter Tryz.func30, Tryz.ntmps30
  have HC := Lib.hid (sumRows_spec A c p _ (h.next hb0))
  go_wp2_with fail
  generalize (w.alloc (Obj.cells #[Value.slice none 0 0, Value.slice none 0 0] 28)) = w0 at hb0 ob hz HC ⊢
  (with_reducible refine HC.out.mono ?_)
  rintro e w1 ⟨S, sk, ss, rfl, hX, hOs, hb1⟩
  have HX := Lib.hid (show ss.map Row.xs = sumL p by rw [hX, sumGL, if_pos HP.out])
  have ob := obj_below ob hb1 (obj_lt ob)
  have hbw := hb0.trans (hb1.mono hb0.size)
  have hs1 := hb1.size
  have HSZ := Lib.hid (sum_size HP.out HX.out)
  have hsl : (sumL p).length = ss.length := by rw [← HX.out, List.length_map]
  clear HC hX hb1 hb0
  by_cases h2 : 1 < ss.length
  case pos =>
    have HE := Lib.hid (split_eq2 HP.out H1.out (by rw [hsl]; exact h2))
    have d2 : decide ((ss.length : Int) > 1) = true := decide_eq_true (by omega)
    have d3 : decide (1 < (ss.length : Int)) = true := decide_eq_true (by omega)
    clear hsl
    obtain ⟨r0, t, rfl, iss⟩ := rows_cons hOs (Nat.le_refl _) HSZ.out h2
    have h2' : 1 < t.length + 1 := h2
    have d4 : decide (1 < (t.length : Int) + 1) = true := decide_eq_true (by omega)
    have d5 : decide ((t.length : Int) + 1 > 1) = true := decide_eq_true (by omega)
    have HTT := Lib.hid (show headP (sumL p) = r0.xs ∧ (sumL p).tail = t.map Row.xs by rw [← HX.out]; exact ⟨rfl, rfl⟩)
    have HD := Lib.hid (l6Sum_any S sk r0 t false w1 iss)
    clear hOs
    go_wp2_with fail
    (with_reducible refine HD.out.mono ?_)
    rintro e w9 ⟨RA, rc, PA, pc, rs, rfl, hXr, hOr, hb2⟩
    have obz := obj_below ob hb2 (obj_lt ob)
    have hbz := hbw.trans (hb2.mono hbw.size)
    have hrow : Own w9 (w.heap.size + 1) w9.heap.size (⟨RA, rc, rootB false⟩ :: rs) [⟨PA, pc, rs.map Row.v⟩] := hOr.wider (by omega) (Nat.le_refl _)
    clear hOr hb2 ob hbw HD
    obtain ⟨l0, l1, hOf, hbf⟩ := ret_cell (n := (rootB false).length) (m := rs.length) obz hrow hbz (by first | rfl | simp) (by first | rfl | simp)
    have hOF := Lib.hid hOf
    have hBF := Lib.hid hbf
    have g0 : (w9).cell? ⟨w.heap.size, 0, none⟩ = some (Value.slice none 0 0) := (obj_cell obz).trans rfl
    have g1 : (w9).cell? ⟨w.heap.size, 1, none⟩ = some (Value.slice none 0 0) := (obj_cell obz).trans rfl
    have g2 : (w9).frozen? ⟨w.heap.size, 0, none⟩ = false := obj_frozen obz
    have g3 : (w9).frozen? ⟨w.heap.size, 1, none⟩ = false := obj_frozen obz
    clear hOf hbf obz hrow hbz
    go_wp2_with fail
    try simp only [Exit.inBlock, Exit.then]
    refine bodyPost_ret (v := .agg #[.slice RA (rootB false).length rc, .slice PA rs.length pc]) (by simp [results, Tryz.results30, go_sem, l0, l1]) rfl ?_
    rw [HE.out.1, HE.out.2]
    exact ⟨_, _, _, _, rs, rfl, by rw [hXr, HTT.out.1, HTT.out.2], hOF.out, hBF.out⟩
  have H2 := Lib.hid (show ¬ 1 < (sumL p).length by rw [hsl]; exact h2)
  have d2 : decide ((ss.length : Int) > 1) = false := decide_eq_false (by omega)
  have d3 : decide (1 < (ss.length : Int)) = false := decide_eq_false (by omega)
  have HC := Lib.hid (skewRows_spec A c p w1 (h.next hbw))
  clear hOs HSZ HX hsl
  go_wp2_with fail
  (with_reducible refine HC.out.mono ?_)
  rintro e w2 ⟨S2, sk2, ss2, rfl, hX, hOs, hb1⟩
  obtain ⟨S, hSe⟩ : ∃ S, S = S2 := ⟨_, rfl⟩
  obtain ⟨sk, hske⟩ : ∃ S, S = sk2 := ⟨_, rfl⟩
  subst hSe hske
  have HX := Lib.hid (show ss2.map Row.xs = skewL p by rw [hX, skewGL, if_pos HP.out])
  have ob := obj_below ob hb1 (obj_lt ob)
  have hbw := hbw.trans (hb1.mono hbw.size)
  have hs2 := hb1.size
  have HSZ := Lib.hid (skew_size HP.out HX.out)
  have hsl : (skewL p).length = ss2.length := by rw [← HX.out, List.length_map]
  clear HC hX hb1 d2 d3 h2
  by_cases h2 : 1 < ss2.length
  case pos =>
    have HE := Lib.hid (split_eq3 HP.out H1.out H2.out (by rw [hsl]; exact h2))
    have d2 : decide ((ss2.length : Int) > 1) = true := decide_eq_true (by omega)
    have d3 : decide (1 < (ss2.length : Int)) = true := decide_eq_true (by omega)
    clear hsl
    obtain ⟨r0, t, rfl, iss⟩ := rows_cons hOs (Nat.le_refl _) HSZ.out h2
    have h2' : 1 < t.length + 1 := h2
    have d4 : decide (1 < (t.length : Int) + 1) = true := decide_eq_true (by omega)
    have d5 : decide ((t.length : Int) + 1 > 1) = true := decide_eq_true (by omega)
    have HTT := Lib.hid (show headP (skewL p) = r0.xs ∧ (skewL p).tail = t.map Row.xs by rw [← HX.out]; exact ⟨rfl, rfl⟩)
    have HD := Lib.hid (l6Sum_any S sk r0 t true w2 iss)
    clear hOs
    go_wp2_with fail
    (with_reducible refine HD.out.mono ?_)
    rintro e w9 ⟨RA, rc, PA, pc, rs, rfl, hXr, hOr, hb2⟩
    have obz := obj_below ob hb2 (obj_lt ob)
    have hbz := hbw.trans (hb2.mono hbw.size)
    have hrow : Own w9 (w.heap.size + 1) w9.heap.size (⟨RA, rc, rootB true⟩ :: rs) [⟨PA, pc, rs.map Row.v⟩] := hOr.wider (by omega) (Nat.le_refl _)
    clear hOr hb2 ob hbw HD
    obtain ⟨l0, l1, hOf, hbf⟩ := ret_cell (n := (rootB true).length) (m := rs.length) obz hrow hbz (by first | rfl | simp) (by first | rfl | simp)
    have hOF := Lib.hid hOf
    have hBF := Lib.hid hbf
    have g0 : (w9).cell? ⟨w.heap.size, 0, none⟩ = some (Value.slice none 0 0) := (obj_cell obz).trans rfl
    have g1 : (w9).cell? ⟨w.heap.size, 1, none⟩ = some (Value.slice none 0 0) := (obj_cell obz).trans rfl
    have g2 : (w9).frozen? ⟨w.heap.size, 0, none⟩ = false := obj_frozen obz
    have g3 : (w9).frozen? ⟨w.heap.size, 1, none⟩ = false := obj_frozen obz
    clear hOf hbf obz hrow hbz
    go_wp2_with fail
    try simp only [Exit.inBlock, Exit.then]
    refine bodyPost_ret (v := .agg #[.slice RA (rootB true).length rc, .slice PA rs.length pc]) (by simp [results, Tryz.results30, go_sem, l0, l1]) rfl ?_
    rw [HE.out.1, HE.out.2]
    exact ⟨_, _, _, _, rs, rfl, by rw [hXr, HTT.out.1, HTT.out.2], hOF.out, hBF.out⟩
  have HE := Lib.hid (split_eq4 H1.out H2.out (by rw [hsl]; exact h2))
  have d2 : decide ((ss2.length : Int) > 1) = false := decide_eq_false (by omega)
  have d3 : decide (1 < (ss2.length : Int)) = false := decide_eq_false (by omega)
  have hn2 : 2 ≤ p.length := by have := H1.out; omega
  clear hOs HSZ HX hsl h2
  have hbL := (hbw.alloc hbw.size (Obj.cells #[Value.slice none 0 0, Value.slice none 0 0] 28)).alloc (by simp; have := hbw.size; omega) (.cells #[] 3)
  have obL := obj_alloc (obj_alloc ob (Obj.cells #[Value.slice none 0 0, Value.slice none 0 0] 28)) (.cells #[] 3)
  have ogL := obj_alloc (obj_new w2 (Obj.cells #[Value.slice none 0 0, Value.slice none 0 0] 28)) (.cells #[] 3)
  have howL : ((w2.alloc (Obj.cells #[Value.slice none 0 0, Value.slice none 0 0] 28)).alloc (.cells #[] 3)).ownsRow (w2.heap.size + 1) 3 1 (Row.v ⟨some ⟨w2.heap.size + 1, 0, none⟩, 0, []⟩) ([] : List Int).length (([] : List Int).map (Value.int .i64)) := by
    have := World.ownsRow_lit (base := w2.heap.size + 1) (w2.alloc (Obj.cells #[Value.slice none 0 0, Value.slice none 0 0] 28)) (e := 3) (size := 1) #[] 0 (by simp) (by unfold maxLen; omega) rfl
    simpa [Row.v] using this
  have hOL : Own ((w2.alloc (Obj.cells #[Value.slice none 0 0, Value.slice none 0 0] 28)).alloc (.cells #[] 3)) (w2.heap.size + 1) ((w2.alloc (Obj.cells #[Value.slice none 0 0, Value.slice none 0 0] 28)).alloc (.cells #[] 3)).heap.size [⟨some ⟨w2.heap.size + 1, 0, none⟩, 0, ([] : List (List Int)).map headL⟩] [⟨none, 0, ([] : List Row).map Row.v⟩] := (Own.one howL (Nat.le_refl _)).with_ (World.ownsRow_nil _ _ _ _) (Nat.le_refl _)
  have hG0 : w.heap.size < w2.heap.size := by omega
  obtain ⟨bp, op, rfl, hbp, hcp⟩ := h.rd (by omega)
  have HCP := Lib.hid hcp
  have hcap := h.cap
  clear howL ob hbw hcp
  go_wp2_with fail
  obtain ⟨G, hG⟩ : ∃ G, G = w2.heap.size := ⟨_, rfl⟩
  rw [← hG] at ogL hOL hG0 ⊢
  clear hG
  go_loopw [6, 7] (fun v i wr => ∃ (ds : List (List Int)) (f : Nat) (s : List Int) (H : Option Addr) (hc : Nat) (P : Option Addr) (pk : Nat) (ps : List Row), i = .int .i64 (ds.flatten.length : Nat) ∧ v = .slice H ds.length hc ∧ Hid (BlkSt p ds f s) ∧ wr.heap[w.heap.size]? = some (Obj.cells #[Value.slice none 0 0, Value.slice none 0 0] 28) ∧ wr.heap[G]? = some (Obj.cells #[Value.slice none 0 0, Value.slice P ps.length pk] 28) ∧
    Own wr (G + 1) wr.heap.size (⟨H, hc, ds.map headL⟩ :: ps) [⟨P, pk, ps.map Row.v⟩] ∧ Hid (ps.map Row.xs = ds.map patL) ∧ Below w.heap.size w wr) (fun _ i _ => p.length - (intOf i).toNat)
  case atStart => exact ⟨[], p.length, p, _, 0, none, 0, [], rfl, rfl, Lib.hid (BlkSt.start p), obL, ogL, hOL, Lib.hid rfl, hbL⟩
  case round =>
    clear obL ogL hOL hbL
    obtain ⟨ds, f, s, H, hc, P, pk, ps, rfl, rfl, HST, ob, og, hO, HPS, hb⟩ := hrel
    have hlen := HST.out.len
    have hcnt := (HST.out.cnt HP.out hn2).1
    have hpsl : ps.length = ds.length := by have h1 := congrArg List.length HPS.out; rwa [List.length_map, List.length_map] at h1
    have hsz := hb.size
    have hGs : G + 1 ≤ wr.heap.size := obj_lt og
    obtain ⟨a, ha⟩ : ∃ a, a = ds.flatten.length := ⟨_, rfl⟩
    have HA := Lib.hid ha
    have HDR := Lib.hid (show p.drop a = s by rw [ha]; exact HST.out.drop)
    rw [← ha] at hlen ⊢
    have hlen1 : a + s.length ≤ p.length := by omega
    have hlen2 : p.length ≤ a + s.length := by omega
    have hps1 : ps.length ≤ ds.length := by omega
    have HPSL := Lib.hid hpsl
    clear ha hlen hpsl
    by_cases hs : s = []
    case neg =>
      have hsl := len_pos hs
      obtain ⟨f', L, hL, hL1, hLs, hLn, hst', hfl⟩ := HST.out.next hs hn2
      have HL := Lib.hid hL
      have HST2 := Lib.hid hst'
      have HFL := Lib.hid (show (ds ++ [s.take L]).flatten.length = a + L by rw [hfl, HA.out])
      have hda : decide ((a : Int) < (p.length : Int)) = true := decide_eq_true (by omega)
      have hai : (a : Int) < (p.length : Int) := by omega
      have e0 : IntKind.i64.wrap ((p.length : Int) - 1) = (p.length : Int) - 1 := IntWalk.i64_in _ (by omega)
      have HV := Lib.hid (perm_small HP.out)
      have hin := h.next hb
      have HSEG := Lib.hid (show ∀ k, 1 ≤ k → segL p a (a + k - 1) = s.take k from fun k hk => by unfold segL; rw [HDR.out, show a + k - 1 - a + 1 = k by omega])
      clear hL hst' hfl hs
      go_wp2_with fail
      go_loop [8] (fun i => ∃ k : Nat, 1 ≤ k ∧ k ≤ s.length ∧ i = .int .i64 ((a + k - 1 : Nat) : Int) ∧ Hid (longL p.length s k = L)) (fun i => (intOf i).toNat)
      case atStart => exact ⟨s.length, hsl, Nat.le_refl _, by go_num, Lib.hid HL.out.symm⟩
      case round =>
        obtain ⟨k, hk1, hks, rfl, HK⟩ := hrel
        obtain ⟨T, hT⟩ : ∃ T, T = a + k - 1 := ⟨_, rfl⟩
        have hT2 : T + 1 = a + k := by omega
        have hTp : T < p.length := by omega
        have HSK := Lib.hid (HSEG.out k hk1)
        have HLS := Lib.hid (longL_succ p.length s (k - 1))
        rw [show k - 1 + 1 = k by omega] at HLS
        rw [← hT] at HSK ⊢
        have e1 : IntKind.i64.wrap ((T : Int) - (a : Int)) = ((k - 1 : Nat) : Int) := by rw [IntWalk.i64_in _ (by omega)]; omega
        have e2 : IntKind.i64.wrap (((k - 1 : Nat) : Int) + 1) = (k : Int) := by rw [IntWalk.i64_in _ (by omega)]; omega
        have e3 : IntKind.i64.wrap ((T : Int) - 1) = (T : Int) - 1 := IntWalk.i64_in _ (by omega)
        obtain ⟨km, hkm⟩ : ∃ km, km = k - 1 := ⟨_, rfl⟩
        rw [← hkm] at e1 e2
        have HKM := Lib.hid hkm
        have HTT := Lib.hid hT
        have HV8 : Hid (2 ≤ k → (T : Int) - 1 = ((a + (k - 1) - 1 : Nat) : Int)) := Lib.hid (fun h => by omega)
        clear hkm hT
        by_cases hkn : k = p.length
        · have d4 : ((k : Int) == (p.length : Int)) = true := by rw [hkn]; simp
          have HK2 := Lib.hid (show longL p.length s (k - 1) = L by rw [← HK.out, HLS.out, if_neg (by simp; omega)])
          have hkl := Lib.hid hkn
          clear hkn
          go_wp2_with fail
          go_round
          case rel => exact ⟨k - 1, by have := hkl.out; omega, by omega, by rw [HV8.out (by have := hkl.out; omega)], HK2⟩
          case measure => simp [intOf]; have := hkl.out; omega
        · have d4 : ((k : Int) == (p.length : Int)) = false := by rw [beq_eq_false_iff_ne]; omega
          have HC := Lib.hid (l5Run_any (some ⟨bp, op, none⟩) c p a T wr hin (by omega) hTp HV.out)
          rw [HSK.out] at HC
          rcases hiv : ivB (s.take k) with _ | _
          · have HIV := Lib.hid hiv
            have hk2 : 2 ≤ k := by
              rcases Nat.lt_or_ge 1 k with h | h
              · exact h
              · exfalso
                have hk1' : k = 1 := by omega
                subst hk1'
                cases hss : s with
                | nil => rw [hss] at hsl; simp at hsl
                | cons x t => rw [hss] at hiv; simp [ivB, topL, botL, headL] at hiv
            have HK2 := Lib.hid (show longL p.length s (k - 1) = L by rw [← HK.out, HLS.out, if_neg (by rw [hiv]; simp)])
            rw [hiv] at HC
            clear hiv hkn
            go_wp2_with fail
            (with_reducible refine HC.out.mono ?_)
            rintro e w' ⟨rfl, rfl⟩
            go_wp2_with fail
            go_round
            case rel => exact ⟨k - 1, by omega, by omega, by rw [HV8.out (by omega)], HK2⟩
            case measure => simp [intOf]; omega
          · have hkL : L = k := by rw [← HK.out, HLS.out, if_pos (by rw [hiv]; simp; omega)]
            rw [hiv] at HC
            have hTL : T + 1 = a + L := by rw [hkL]; exact hT2
            clear hiv hkn
            go_wp2_with fail
            (with_reducible refine HC.out.mono ?_)
            rintro e w' ⟨rfl, rfl⟩
            clear HC HLS HK HSK e1 e2 e3 d4 HKM hkL hT2 HV8
            obtain ⟨b, hbd0⟩ : ∃ b, b = s.take L := ⟨_, rfl⟩
            have HBE := Lib.hid (show (p.take (a + L)).drop a = b by rw [hbd0, ← HDR.out, List.drop_take, show a + L - a = L by omega])
            have HLN := Lib.hid (show ((p.take (a + L)).drop a).length = L by simp; omega)
            have HCUT := Lib.hid ((hin.rd.take (a + L)).cut (k := a) (c := c) (by simp; omega) (by simp; omega))
            have hsl := fun w => run_cut2 (P := Tryz.prog) (t := 24) Tryz.underlying24 sizeI (some ⟨bp, op, none⟩) p.length c a (a + L) (a : Int) ((T : Int) + 1) rfl (by omega) (by omega) (by omega) w
            have e5 : IntKind.i64.wrap ((T : Int) + 1) = (T : Int) + 1 := IntWalk.i64_in _ (by omega)
            have hla : a + L - a = L := by omega
            have HHD := Lib.hid (show p[a]'(by omega) = headL b by
              have h1 : b[0]? = p[a]? := by rw [hbd0, ← HDR.out, List.getElem?_take_of_lt (by omega), List.getElem?_drop, Nat.add_zero]
              unfold headL
              rw [h1, List.getElem?_eq_getElem (by omega)]; rfl)
            rw [← hbd0] at HST2 HFL
            have hpl8 : ps.length ≤ 8 := by omega
            clear hbd0
            go_upto_region 16 with (fail)
            go_cut [] from 55 to 64 (fun wz => Hid (∃ (P : Option Addr) (pk : Nat) (ps : List Row), wz.heap[G]? = some (Obj.cells #[Value.slice none 0 0, Value.slice P ps.length pk] 28) ∧ wz.heap[w.heap.size]? = some (Obj.cells #[Value.slice none 0 0, Value.slice none 0 0] 28) ∧ Own wz (G + 1) wz.heap.size (⟨H, hc, ds.map headL⟩ :: ps) [⟨P, pk, ps.map Row.v⟩] ∧ ps.map Row.xs = (ds ++ [b]).map patL ∧ Below w.heap.size w wz))
            case first =>
              have hOd := hO.dr (Dr.refl wr).drew
              have og : wr.drew.heap[G]? = some (Obj.cells #[Value.slice none 0 0, Value.slice P ps.length pk] 28) := og
              have ob : wr.drew.heap[w.heap.size]? = some (Obj.cells #[Value.slice none 0 0, Value.slice none 0 0] 28) := ob
              have fG : wr.drew.cell? ⟨G, 1, none⟩ = some (Value.slice P ps.length pk) := (obj_cell og).trans rfl
              have hbd := below_dr hb (Dr.refl wr).drew
              have hGs' : wr.drew.heap.size = wr.heap.size := rfl
              clear hO hb
              go_wp2_with fail
              refine wp_region_held_drew (S := (fun _ => True)) (by kernel_rfl) trivial (fun hHeld => ?_)
              refine wpAnyH_take (i := 0) (oi := _) (v := ?_) rfl (by kernel_rfl) (by kernel_rfl) (by kernel_rfl) (fun _ _ _ h => h) (Or.inl ⟨by rfl, ?_⟩) (by assumption) ?_
              rotate_left
              · intro w hSw
                try dsimp only at hSw
                go_simp
                all_goals with_reducible rfl
              try simp only [Act.put, List.setIfInBounds_toArray, List.set_cons_zero, List.set_cons_succ, List.getElem_toArray, List.getElem_cons_zero]
              refine wpAnyH_take (i := 2) (oi := _) (v := ?_) rfl (by kernel_rfl) (by kernel_rfl) (by kernel_rfl) (fun _ _ _ h => h) (Or.inl ⟨by rfl, ?_⟩) (by assumption) ?_
              rotate_left
              · intro w hSw
                try dsimp only at hSw
                go_simp
                all_goals with_reducible rfl
              try simp only [Act.put, List.setIfInBounds_toArray, List.set_cons_zero, List.set_cons_succ, List.getElem_toArray, List.getElem_cons_succ, List.getElem_cons_zero]
              refine wpAnyH_take (i := 3) (oi := _) (v := ?_) rfl (by kernel_rfl) (by kernel_rfl) (by kernel_rfl) (fun _ _ _ h => h) (Or.inl ⟨by rfl, ?_⟩) (by assumption) ?_
              rotate_left
              · intro w hSw
                try dsimp only at hSw
                go_simp
                all_goals with_reducible rfl
              try simp only [Act.put, List.setIfInBounds_toArray, List.set_cons_zero, List.set_cons_succ, List.getElem_toArray, List.getElem_cons_succ, List.getElem_cons_zero]
              refine wpAnyH_take (i := 4) (oi := _) (v := ?_) rfl (by kernel_rfl) (by kernel_rfl) (by kernel_rfl) (fun _ _ _ h => h) (Or.inl ⟨by rfl, ?_⟩) (by assumption) ?_
              rotate_left
              · intro w hSw
                try dsimp only at hSw
                go_simp
                all_goals with_reducible rfl
              try simp only [Act.put, List.setIfInBounds_toArray, List.set_cons_zero, List.set_cons_succ, List.getElem_toArray, List.getElem_cons_succ, List.getElem_cons_zero]
              refine wpAnyH_take (i := 5) (oi := _) (v := ?_) rfl (by kernel_rfl) (by kernel_rfl) (by kernel_rfl) (fun _ _ _ h => h) (Or.inl ⟨by rfl, ?_⟩) (by assumption) ?_
              rotate_left
              · intro w hSw
                try dsimp only at hSw
                go_simp
                all_goals with_reducible rfl
              try simp only [Act.put, List.setIfInBounds_toArray, List.set_cons_zero, List.set_cons_succ, List.getElem_toArray, List.getElem_cons_succ, List.getElem_cons_zero]
              refine wpAnyH_take (i := 6) (oi := _) (v := ?_) rfl (by kernel_rfl) (by kernel_rfl) (by kernel_rfl) (fun _ _ _ h => h) (Or.inl ⟨by rfl, ?_⟩) (by assumption) ?_
              rotate_left
              · intro w hSw
                try dsimp only at hSw
                go_simp
                all_goals with_reducible rfl
              try simp only [Act.put, List.setIfInBounds_toArray, List.set_cons_zero, List.set_cons_succ, List.getElem_toArray, List.getElem_cons_succ, List.getElem_cons_zero]
              refine wpAnyH_ready (rs := [1, 7]) (by kernel_rfl) (by simp) ?_
              refine AllReadyH.cons (o := _) rfl (fun K hK => ?_) (AllReadyH.cons (o := _) rfl (fun K hK => ?_) AllReadyH.nil)
              · go_simp
                refine hK.out _ _ (trivial) (fun hHeld => ?_)
                clear hK K
                try simp only [Act.put, List.setIfInBounds_toArray, List.set_cons_zero, List.set_cons_succ, List.getElem_toArray, List.getElem_cons_succ, List.getElem_cons_zero]
                refine wpAnyH_ready (rs := [7]) (by kernel_rfl) (by simp) ?_
                refine AllReadyH.cons (o := _) rfl (fun K hK => ?_) AllReadyH.nil
                go_simp
                refine Calls.mono (pattern_spec _ _ L ((p.take (a + L)).drop a) _ HLN.out (by omega) (HCUT.out.dr (Dr.refl wr).drew)) ?_
                rintro e w5 ⟨D, dk, rfl, _, _, ownD, hb5⟩
                rw [HBE.out] at ownD
                have og := obj_below og hb5 (obj_lt og)
                have ob := obj_below ob hb5 (obj_lt ob)
                have hO5 := (hOd.below hb5).add (r := ⟨D, dk, patL b⟩) ownD hb5.size (by have := hGs; omega)
                have hb6 := hbd.trans (hb5.mono hbd.size)
                have hs5 := hb5.size
                have fG : w5.cell? ⟨G, 1, none⟩ = some (Value.slice P ps.length pk) := (obj_cell og).trans rfl
                obtain ⟨dl, hdl⟩ : ∃ m, m = (patL b).length := ⟨_, rfl⟩
                have HDL := Lib.hid hdl
                rw [HBE.out, ← hdl]
                clear ownD hb5 hdl
                go_wp2_with fail
                refine hK.out _ _ (trivial) (fun hHeld => ?_)
                clear hK K
                try simp only [Act.put, List.setIfInBounds_toArray, List.set_cons_zero, List.set_cons_succ, List.getElem_toArray, List.getElem_cons_succ, List.getElem_cons_zero]
                refine wpAnyH_ready (rs := [8]) (by kernel_rfl) (by simp) ?_
                refine AllReadyH.cons (o := _) rfl (fun K hK => ?_) AllReadyH.nil
                have og := obj_alloc og (Obj.cells #[Value.slice D dl dk] 24)
                have ob := obj_alloc ob (Obj.cells #[Value.slice D dl dk] 24)
                have fG : (w5.alloc (Obj.cells #[Value.slice D dl dk] 24)).cell? ⟨G, 1, none⟩ = some (Value.slice P ps.length pk) := (obj_cell og).trans rfl
                go_simp
                refine hK.out _ _ (trivial) (fun hHeld => ?_)
                clear hK K
                try simp only [Act.put, List.setIfInBounds_toArray, List.set_cons_zero, List.set_cons_succ, List.getElem_toArray, List.getElem_cons_succ, List.getElem_cons_zero]
                refine wpAnyH_ready (rs := [9]) (by kernel_rfl) (by simp) ?_
                refine AllReadyH.cons (o := _) rfl (fun K hK => ?_) AllReadyH.nil
                have hOW := hO5.outN (n := ps.length) (by simp)
                refine step_append_lies _ (by rfl) _ _ _ (by rfl) (G + 1) 24 j0 (.slice none 0 0) 1 24 Tryz.underlying26 hj hy0 hy1 hy2 rfl (by decide) (Value.slice P ps.length pk) ps.length (ps.map Row.v) (by rfl) (World.ownsRow.alloc hOW _) ⟨w5.heap.size, 0, none⟩ 1 1 [Value.slice D dl dk] (by rfl) (by rfl) (cell_one_at (w := w5) _ _ rfl) (by intro u hu; simp at hu; subst hu; rfl) (by omega) (by unfold maxLen; omega) (by omega) (by simp; omega) (w5.heap.size + 1) (by simp) ?_
                intro g cap w9 hown9 hgrow9 hlies9 hglt9
                have hne : some G ≠ (Value.slice P ps.length pk).ownBlock := fun e => by have := (hOW.lt G e.symm).1; omega
                have hnr : some w.heap.size ≠ (Value.slice P ps.length pk).ownBlock := fun e => by have := (hOW.lt w.heap.size e.symm).1; omega
                have og := (hgrow9.block G (obj_lt og) hne).trans og
                have ob := (hgrow9.block w.heap.size (obj_lt ob) hnr).trans ob
                have fG : w9.cell? ⟨G, 1, none⟩ = some (Value.slice P ps.length pk) := (obj_cell og).trans rfl
                have uG : w9.frozen? ⟨G, 1, none⟩ = false := obj_frozen og
                obtain ⟨A9, c9, hv9, hO9, hg9⟩ := hO5.grow (u := Row.v ⟨D, dk, patL b⟩) (n := ps.length) (Nat.le_refl _) (by simp) (by rw [show Row.v ⟨D, dk, patL b⟩ = Value.slice D dl dk by rw [HDL.out]; rfl]; exact hown9) hgrow9
                injection hv9 with e1 e2 e3
                subst e1 e3
                have hb9 := hb6.grown hg9 hb6.size fun q hq => by have := (hOW.lt q hq).1; omega
                refine hK.out _ _ (trivial) (fun hHeld => ?_)
                clear hK K
                try simp only [Act.put, List.setIfInBounds_toArray, List.set_cons_zero, List.set_cons_succ, List.getElem_toArray, List.getElem_cons_succ, List.getElem_cons_zero]
                refine wpAnyH_take (i := 10) (oi := _) (v := ?_) rfl (by kernel_rfl) (by kernel_rfl) (by kernel_rfl) (fun _ _ _ h => h) (Or.inl ⟨by rfl, ?_⟩) (by assumption) ?_
                rotate_left
                · intro w hSw
                  try dsimp only at hSw
                  go_simp
                  all_goals with_reducible rfl
                try simp only [Act.put, List.setIfInBounds_toArray, List.set_cons_zero, List.set_cons_succ, List.getElem_toArray, List.getElem_cons_succ, List.getElem_cons_zero]
                refine wpAnyH_ready (rs := [11]) (by kernel_rfl) (by simp) ?_
                refine AllReadyH.cons (o := _) rfl (fun K hK => ?_) AllReadyH.nil
                go_simp
                refine hK.out _ _ (trivial) (fun hHeld => ?_)
                clear hK K
                try simp only [Act.put, List.setIfInBounds_toArray, List.set_cons_zero, List.set_cons_succ, List.getElem_toArray, List.getElem_cons_succ, List.getElem_cons_zero]
                refine wpAnyH_done (by kernel_rfl) ?_ _
                obtain ⟨wz, hwz⟩ : ∃ wz, wz = w9.setCell ⟨G, 1, none⟩ (Value.slice (some ⟨g, 0, none⟩) (ps.length + 1) cap) := ⟨_, rfl⟩
                have hsp : Span G (G + 1) w9 wz := by rw [hwz]; exact Span.set (p := ⟨G, 1, none⟩) (Nat.le_refl _) (Nat.lt_succ_self _) _
                have K1 := Lib.hid (show wz.heap[G]? = some (Obj.cells #[Value.slice none 0 0, Value.slice (some ⟨g, 0, none⟩) (ps.length + 1) cap] 28) by rw [hwz]; exact obj_set (i := 1) og _)
                have K2 := Lib.hid (show wz.heap[w.heap.size]? = some (Obj.cells #[Value.slice none 0 0, Value.slice none 0 0] 28) by rw [hwz]; exact obj_other (g' := G) (i := 1) ob (by omega) _)
                have K3 := Lib.hid ((hO9.span hsp (.inr (Nat.le_refl _))).wider (Nat.le_refl _) hsp.size)
                have K4 := Lib.hid (show Below w.heap.size w wz by rw [hwz]; exact hb9.setCell (p := ⟨G, 1, none⟩) (by show w.heap.size ≤ G; omega) _)
                rw [← hwz]
                have K5 := Lib.hid (show wr.heap.size ≤ wz.heap.size by have := hsp.size; have := hg9.size; have : wr.drew.heap.size = wr.heap.size := rfl; omega)
                clear og ob fG uG hO5 hOW hown9 hgrow9 hg9 hO9 hb9 hb6 hsp hne hnr hwz hlies9 hglt9
                go_wp2_with fail
                go_meet
                case rel => exact Lib.hid ⟨some ⟨g, 0, none⟩, cap, ps ++ [⟨D, dk, patL b⟩], by rw [List.length_append]; exact K1.out, K2.out, by rw [List.map_append]; exact K3.out, by rw [List.map_append, HPS.out, List.map_append]; rfl, K4.out⟩
              · go_simp
                refine Calls.mono (pattern_spec _ _ L ((p.take (a + L)).drop a) _ HLN.out (by omega) (HCUT.out.dr (Dr.refl wr).drew)) ?_
                rintro e w5 ⟨D, dk, rfl, _, _, ownD, hb5⟩
                rw [HBE.out] at ownD
                have og := obj_below og hb5 (obj_lt og)
                have ob := obj_below ob hb5 (obj_lt ob)
                have hO5 := (hOd.below hb5).add (r := ⟨D, dk, patL b⟩) ownD hb5.size (by have := hGs; omega)
                have hb6 := hbd.trans (hb5.mono hbd.size)
                have hs5 := hb5.size
                have fG : w5.cell? ⟨G, 1, none⟩ = some (Value.slice P ps.length pk) := (obj_cell og).trans rfl
                obtain ⟨dl, hdl⟩ : ∃ m, m = (patL b).length := ⟨_, rfl⟩
                have HDL := Lib.hid hdl
                rw [HBE.out, ← hdl]
                clear ownD hb5 hdl
                go_wp2_with fail
                refine hK.out _ _ (trivial) (fun hHeld => ?_)
                clear hK K
                try simp only [Act.put, List.setIfInBounds_toArray, List.set_cons_zero, List.set_cons_succ, List.getElem_toArray, List.getElem_cons_succ, List.getElem_cons_zero]
                refine wpAnyH_ready (rs := [1, 8]) (by kernel_rfl) (by simp) ?_
                refine AllReadyH.cons (o := _) rfl (fun K hK => ?_) (AllReadyH.cons (o := _) rfl (fun K hK => ?_) AllReadyH.nil)
                · go_simp
                  refine hK.out _ _ (trivial) (fun hHeld => ?_)
                  clear hK K
                  try simp only [Act.put, List.setIfInBounds_toArray, List.set_cons_zero, List.set_cons_succ, List.getElem_toArray, List.getElem_cons_succ, List.getElem_cons_zero]
                  refine wpAnyH_ready (rs := [8]) (by kernel_rfl) (by simp) ?_
                  refine AllReadyH.cons (o := _) rfl (fun K hK => ?_) AllReadyH.nil
                  have og := obj_alloc og (Obj.cells #[Value.slice D dl dk] 24)
                  have ob := obj_alloc ob (Obj.cells #[Value.slice D dl dk] 24)
                  have fG : (w5.alloc (Obj.cells #[Value.slice D dl dk] 24)).cell? ⟨G, 1, none⟩ = some (Value.slice P ps.length pk) := (obj_cell og).trans rfl
                  go_simp
                  refine hK.out _ _ (trivial) (fun hHeld => ?_)
                  clear hK K
                  try simp only [Act.put, List.setIfInBounds_toArray, List.set_cons_zero, List.set_cons_succ, List.getElem_toArray, List.getElem_cons_succ, List.getElem_cons_zero]
                  refine wpAnyH_ready (rs := [9]) (by kernel_rfl) (by simp) ?_
                  refine AllReadyH.cons (o := _) rfl (fun K hK => ?_) AllReadyH.nil
                  have hOW := hO5.outN (n := ps.length) (by simp)
                  refine step_append_lies _ (by rfl) _ _ _ (by rfl) (G + 1) 24 j0 (.slice none 0 0) 1 24 Tryz.underlying26 hj hy0 hy1 hy2 rfl (by decide) (Value.slice P ps.length pk) ps.length (ps.map Row.v) (by rfl) (World.ownsRow.alloc hOW _) ⟨w5.heap.size, 0, none⟩ 1 1 [Value.slice D dl dk] (by rfl) (by rfl) (cell_one_at (w := w5) _ _ rfl) (by intro u hu; simp at hu; subst hu; rfl) (by omega) (by unfold maxLen; omega) (by omega) (by simp; omega) (w5.heap.size + 1) (by simp) ?_
                  intro g cap w9 hown9 hgrow9 hlies9 hglt9
                  have hne : some G ≠ (Value.slice P ps.length pk).ownBlock := fun e => by have := (hOW.lt G e.symm).1; omega
                  have hnr : some w.heap.size ≠ (Value.slice P ps.length pk).ownBlock := fun e => by have := (hOW.lt w.heap.size e.symm).1; omega
                  have og := (hgrow9.block G (obj_lt og) hne).trans og
                  have ob := (hgrow9.block w.heap.size (obj_lt ob) hnr).trans ob
                  have fG : w9.cell? ⟨G, 1, none⟩ = some (Value.slice P ps.length pk) := (obj_cell og).trans rfl
                  have uG : w9.frozen? ⟨G, 1, none⟩ = false := obj_frozen og
                  obtain ⟨A9, c9, hv9, hO9, hg9⟩ := hO5.grow (u := Row.v ⟨D, dk, patL b⟩) (n := ps.length) (Nat.le_refl _) (by simp) (by rw [show Row.v ⟨D, dk, patL b⟩ = Value.slice D dl dk by rw [HDL.out]; rfl]; exact hown9) hgrow9
                  injection hv9 with e1 e2 e3
                  subst e1 e3
                  have hb9 := hb6.grown hg9 hb6.size fun q hq => by have := (hOW.lt q hq).1; omega
                  refine hK.out _ _ (trivial) (fun hHeld => ?_)
                  clear hK K
                  try simp only [Act.put, List.setIfInBounds_toArray, List.set_cons_zero, List.set_cons_succ, List.getElem_toArray, List.getElem_cons_succ, List.getElem_cons_zero]
                  refine wpAnyH_take (i := 10) (oi := _) (v := ?_) rfl (by kernel_rfl) (by kernel_rfl) (by kernel_rfl) (fun _ _ _ h => h) (Or.inl ⟨by rfl, ?_⟩) (by assumption) ?_
                  rotate_left
                  · intro w hSw
                    try dsimp only at hSw
                    go_simp
                    all_goals with_reducible rfl
                  try simp only [Act.put, List.setIfInBounds_toArray, List.set_cons_zero, List.set_cons_succ, List.getElem_toArray, List.getElem_cons_succ, List.getElem_cons_zero]
                  refine wpAnyH_ready (rs := [11]) (by kernel_rfl) (by simp) ?_
                  refine AllReadyH.cons (o := _) rfl (fun K hK => ?_) AllReadyH.nil
                  go_simp
                  refine hK.out _ _ (trivial) (fun hHeld => ?_)
                  clear hK K
                  try simp only [Act.put, List.setIfInBounds_toArray, List.set_cons_zero, List.set_cons_succ, List.getElem_toArray, List.getElem_cons_succ, List.getElem_cons_zero]
                  refine wpAnyH_done (by kernel_rfl) ?_ _
                  obtain ⟨wz, hwz⟩ : ∃ wz, wz = w9.setCell ⟨G, 1, none⟩ (Value.slice (some ⟨g, 0, none⟩) (ps.length + 1) cap) := ⟨_, rfl⟩
                  have hsp : Span G (G + 1) w9 wz := by rw [hwz]; exact Span.set (p := ⟨G, 1, none⟩) (Nat.le_refl _) (Nat.lt_succ_self _) _
                  have K1 := Lib.hid (show wz.heap[G]? = some (Obj.cells #[Value.slice none 0 0, Value.slice (some ⟨g, 0, none⟩) (ps.length + 1) cap] 28) by rw [hwz]; exact obj_set (i := 1) og _)
                  have K2 := Lib.hid (show wz.heap[w.heap.size]? = some (Obj.cells #[Value.slice none 0 0, Value.slice none 0 0] 28) by rw [hwz]; exact obj_other (g' := G) (i := 1) ob (by omega) _)
                  have K3 := Lib.hid ((hO9.span hsp (.inr (Nat.le_refl _))).wider (Nat.le_refl _) hsp.size)
                  have K4 := Lib.hid (show Below w.heap.size w wz by rw [hwz]; exact hb9.setCell (p := ⟨G, 1, none⟩) (by show w.heap.size ≤ G; omega) _)
                  rw [← hwz]
                  have K5 := Lib.hid (show wr.heap.size ≤ wz.heap.size by have := hsp.size; have := hg9.size; have : wr.drew.heap.size = wr.heap.size := rfl; omega)
                  clear og ob fG uG hO5 hOW hown9 hgrow9 hg9 hO9 hb9 hb6 hsp hne hnr hwz hlies9 hglt9
                  go_wp2_with fail
                  go_meet
                  case rel => exact Lib.hid ⟨some ⟨g, 0, none⟩, cap, ps ++ [⟨D, dk, patL b⟩], by rw [List.length_append]; exact K1.out, K2.out, by rw [List.map_append]; exact K3.out, by rw [List.map_append, HPS.out, List.map_append]; rfl, K4.out⟩
                · have og := obj_alloc og (Obj.cells #[Value.slice D dl dk] 24)
                  have ob := obj_alloc ob (Obj.cells #[Value.slice D dl dk] 24)
                  have fG : (w5.alloc (Obj.cells #[Value.slice D dl dk] 24)).cell? ⟨G, 1, none⟩ = some (Value.slice P ps.length pk) := (obj_cell og).trans rfl
                  go_simp
                  refine hK.out _ _ (trivial) (fun hHeld => ?_)
                  clear hK K
                  try simp only [Act.put, List.setIfInBounds_toArray, List.set_cons_zero, List.set_cons_succ, List.getElem_toArray, List.getElem_cons_succ, List.getElem_cons_zero]
                  refine wpAnyH_ready (rs := [1]) (by kernel_rfl) (by simp) ?_
                  refine AllReadyH.cons (o := _) rfl (fun K hK => ?_) AllReadyH.nil
                  go_simp
                  refine hK.out _ _ (trivial) (fun hHeld => ?_)
                  clear hK K
                  try simp only [Act.put, List.setIfInBounds_toArray, List.set_cons_zero, List.set_cons_succ, List.getElem_toArray, List.getElem_cons_succ, List.getElem_cons_zero]
                  refine wpAnyH_ready (rs := [9]) (by kernel_rfl) (by simp) ?_
                  refine AllReadyH.cons (o := _) rfl (fun K hK => ?_) AllReadyH.nil
                  have hOW := hO5.outN (n := ps.length) (by simp)
                  refine step_append_lies _ (by rfl) _ _ _ (by rfl) (G + 1) 24 j0 (.slice none 0 0) 1 24 Tryz.underlying26 hj hy0 hy1 hy2 rfl (by decide) (Value.slice P ps.length pk) ps.length (ps.map Row.v) (by rfl) (World.ownsRow.alloc hOW _) ⟨w5.heap.size, 0, none⟩ 1 1 [Value.slice D dl dk] (by rfl) (by rfl) (cell_one_at (w := w5) _ _ rfl) (by intro u hu; simp at hu; subst hu; rfl) (by omega) (by unfold maxLen; omega) (by omega) (by simp; omega) (w5.heap.size + 1) (by simp) ?_
                  intro g cap w9 hown9 hgrow9 hlies9 hglt9
                  have hne : some G ≠ (Value.slice P ps.length pk).ownBlock := fun e => by have := (hOW.lt G e.symm).1; omega
                  have hnr : some w.heap.size ≠ (Value.slice P ps.length pk).ownBlock := fun e => by have := (hOW.lt w.heap.size e.symm).1; omega
                  have og := (hgrow9.block G (obj_lt og) hne).trans og
                  have ob := (hgrow9.block w.heap.size (obj_lt ob) hnr).trans ob
                  have fG : w9.cell? ⟨G, 1, none⟩ = some (Value.slice P ps.length pk) := (obj_cell og).trans rfl
                  have uG : w9.frozen? ⟨G, 1, none⟩ = false := obj_frozen og
                  obtain ⟨A9, c9, hv9, hO9, hg9⟩ := hO5.grow (u := Row.v ⟨D, dk, patL b⟩) (n := ps.length) (Nat.le_refl _) (by simp) (by rw [show Row.v ⟨D, dk, patL b⟩ = Value.slice D dl dk by rw [HDL.out]; rfl]; exact hown9) hgrow9
                  injection hv9 with e1 e2 e3
                  subst e1 e3
                  have hb9 := hb6.grown hg9 hb6.size fun q hq => by have := (hOW.lt q hq).1; omega
                  refine hK.out _ _ (trivial) (fun hHeld => ?_)
                  clear hK K
                  try simp only [Act.put, List.setIfInBounds_toArray, List.set_cons_zero, List.set_cons_succ, List.getElem_toArray, List.getElem_cons_succ, List.getElem_cons_zero]
                  refine wpAnyH_take (i := 10) (oi := _) (v := ?_) rfl (by kernel_rfl) (by kernel_rfl) (by kernel_rfl) (fun _ _ _ h => h) (Or.inl ⟨by rfl, ?_⟩) (by assumption) ?_
                  rotate_left
                  · intro w hSw
                    try dsimp only at hSw
                    go_simp
                    all_goals with_reducible rfl
                  try simp only [Act.put, List.setIfInBounds_toArray, List.set_cons_zero, List.set_cons_succ, List.getElem_toArray, List.getElem_cons_succ, List.getElem_cons_zero]
                  refine wpAnyH_ready (rs := [11]) (by kernel_rfl) (by simp) ?_
                  refine AllReadyH.cons (o := _) rfl (fun K hK => ?_) AllReadyH.nil
                  go_simp
                  refine hK.out _ _ (trivial) (fun hHeld => ?_)
                  clear hK K
                  try simp only [Act.put, List.setIfInBounds_toArray, List.set_cons_zero, List.set_cons_succ, List.getElem_toArray, List.getElem_cons_succ, List.getElem_cons_zero]
                  refine wpAnyH_done (by kernel_rfl) ?_ _
                  obtain ⟨wz, hwz⟩ : ∃ wz, wz = w9.setCell ⟨G, 1, none⟩ (Value.slice (some ⟨g, 0, none⟩) (ps.length + 1) cap) := ⟨_, rfl⟩
                  have hsp : Span G (G + 1) w9 wz := by rw [hwz]; exact Span.set (p := ⟨G, 1, none⟩) (Nat.le_refl _) (Nat.lt_succ_self _) _
                  have K1 := Lib.hid (show wz.heap[G]? = some (Obj.cells #[Value.slice none 0 0, Value.slice (some ⟨g, 0, none⟩) (ps.length + 1) cap] 28) by rw [hwz]; exact obj_set (i := 1) og _)
                  have K2 := Lib.hid (show wz.heap[w.heap.size]? = some (Obj.cells #[Value.slice none 0 0, Value.slice none 0 0] 28) by rw [hwz]; exact obj_other (g' := G) (i := 1) ob (by omega) _)
                  have K3 := Lib.hid ((hO9.span hsp (.inr (Nat.le_refl _))).wider (Nat.le_refl _) hsp.size)
                  have K4 := Lib.hid (show Below w.heap.size w wz by rw [hwz]; exact hb9.setCell (p := ⟨G, 1, none⟩) (by show w.heap.size ≤ G; omega) _)
                  rw [← hwz]
                  have K5 := Lib.hid (show wr.heap.size ≤ wz.heap.size by have := hsp.size; have := hg9.size; have : wr.drew.heap.size = wr.heap.size := rfl; omega)
                  clear og ob fG uG hO5 hOW hown9 hgrow9 hg9 hO9 hb9 hb6 hsp hne hnr hwz hlies9 hglt9
                  go_wp2_with fail
                  go_meet
                  case rel => exact Lib.hid ⟨some ⟨g, 0, none⟩, cap, ps ++ [⟨D, dk, patL b⟩], by rw [List.length_append]; exact K1.out, K2.out, by rw [List.map_append]; exact K3.out, by rw [List.map_append, HPS.out, List.map_append]; rfl, K4.out⟩
            obtain ⟨wz, rfl⟩ : ∃ w', w' = wc := ⟨_, rfl⟩
            obtain ⟨P2, pk2, ps2, og2, ob2, hO2, hPS2, hb2⟩ := hcut.out
            have HPS2 := Lib.hid hPS2
            have c1 : wz.cell? ⟨bp, op + a, none⟩ = some (.int .i64 (headL b)) := by rw [← HHD.out]; exact (hb2.cell hbp).trans (HCP.out a (by omega))
            have hown : wz.ownsRow (G + 1) 3 1 (.slice H ds.length hc) ds.length ((ds.map headL).map (Value.int .i64)) := by
              have := hO2.rows ⟨H, hc, ds.map headL⟩ (by simp)
              simpa [Row.v] using this
            have hs2 := hb2.size
            have hGz := obj_lt og2
            have hl0 : (0 : Int) ≤ (a : Int) := Int.natCast_nonneg _
            clear hcut hPS2 og ob hO hb HPS hsl hin
            go_wp2_with (at_builtin; refine wpList_append_own_at _ rfl _ _ 24 rfl (G + 1) 3 i0 (.int .i64 0) 1 8 Tryz.underlying24 hi hz0 hz1 hz2 rfl (by decide) _ _ _ rfl (World.ownsRow.alloc hown _) ⟨wz.heap.size, 0, none⟩ 1 1 [.int .i64 (headL b)] rfl rfl (cell_one_new _ _ _) (by intro u hu; simp at hu; subst hu; rfl) (by unfold maxLen; omega) (by omega) (by simp; omega) ?_; intro v1 w1 hown1 hgrow1 _ hat1)
            obtain ⟨H2, hc2, rfl, _, _⟩ := own_shape hown1
            have hal := (Below.refl wz.heap.size wz).alloc (Nat.le_refl _) (Obj.cells #[Value.int .i64 (headL b)] 3)
            have hne : ∀ g, g ≤ G → some g ≠ (Value.slice H ds.length hc).ownBlock := fun g hg e => by have := (hown.lt g e.symm).1; omega
            have og3 := (hgrow1.block G (by simp; omega) (hne G (Nat.le_refl _))).trans (obj_alloc og2 (Obj.cells #[Value.int .i64 (headL b)] 3))
            have ob3 := (hgrow1.block w.heap.size (by simp; omega) (hne w.heap.size (by omega))).trans (obj_alloc ob2 (Obj.cells #[Value.int .i64 (headL b)] 3))
            have hO3 := Own.push (hO2.below hal) (by simp) (by simp) (x := headL b) (by rw [List.map_append]; exact hown1) hgrow1 hat1
            have hb3 := (hb2.alloc hs2 (Obj.cells #[Value.int .i64 (headL b)] 3)).grown hgrow1 (by simp; omega) (fun g hg => by have := (hown.lt g hg).1; omega)
            have K := Lib.hid (And.intro ob3 (And.intro og3 (And.intro hO3 hb3)))
            clear hown1 hgrow1 hat1 hown hal hne og3 ob3 hO3 hb3 og2 ob2 hO2 hb2 c1
            go_wp2_with fail
            go_roundw
            case rel => exact ⟨ds ++ [b], f', s.drop L, H2, hc2, P2, pk2, ps2, by rw [HFL.out]; go_num, by rw [List.length_append]; rfl, HST2, K.out.1, K.out.2.1, by rw [List.map_append]; exact K.out.2.2.1, HPS2, K.out.2.2.2⟩
            case measure => simp [intOf]; omega
    case pos =>
      subst hs
      have hBK := HST.out.done
      have HE2 := Lib.hid (show splitR p = patL (ds.map headL) ∧ splitP p = ds.map patL by rw [HE.out.1, HE.out.2, hBK]; exact ⟨rfl, rfl⟩)
      have hda : decide ((a : Int) < (p.length : Int)) = false := decide_eq_false (by simp only [List.length_nil] at hlen1 hlen2; omega)
      have hai : ¬ (a : Int) < (p.length : Int) := by simp only [List.length_nil] at hlen1 hlen2; omega
      have hrow0 := hO.rows ⟨H, hc, ds.map headL⟩ (by simp)
      have HC := Lib.hid (pattern_spec H hc ds.length (ds.map headL) wr (by simp) (by omega) (Rd.of_own (c := hc) hrow0))
      clear hBK hrow0
      go_wp2_with fail
      (with_reducible refine HC.out.mono ?_)
      rintro e w5 ⟨RA, rc, rfl, _, _, ownR, hb5⟩
      obtain ⟨root, hroot⟩ : ∃ r, r = patL (ds.map headL) := ⟨_, rfl⟩
      rw [← hroot] at ownR HE2 ⊢
      have og5 := obj_below og hb5 (obj_lt og)
      have ob5 := obj_below ob hb5 (obj_lt ob)
      have hO5 := (hO.below hb5).add (r := ⟨RA, rc, root⟩) ownR hb5.size (by omega)
      have hO6 : Own w5 (G + 1) w5.heap.size (⟨RA, rc, root⟩ :: ps) [⟨P, pk, ps.map Row.v⟩] := (hO5.perm (show ((⟨H, hc, ds.map headL⟩ : Row) :: ps ++ [(⟨RA, rc, root⟩ : Row)]).Perm (⟨H, hc, ds.map headL⟩ :: ⟨RA, rc, root⟩ :: ps) from (List.perm_append_singleton _ ps).cons _)).sub (List.sublist_cons_self _ _)
      have hb6 := hb.trans (hb5.mono hsz)
      have f0 : w5.cell? ⟨G, 0, none⟩ = some (Value.slice none 0 0) := (obj_cell og5).trans rfl
      have u0 : w5.frozen? ⟨G, 0, none⟩ = false := obj_frozen og5
      obtain ⟨w6, hw6⟩ : ∃ w6, w6 = w5.setCell ⟨G, 0, none⟩ (Value.slice RA root.length rc) := ⟨_, rfl⟩
      have og6 : w6.heap[G]? = some (Obj.cells #[Value.slice RA root.length rc, Value.slice P ps.length pk] 28) := by rw [hw6]; exact obj_set (i := 0) og5 _
      have obz : w6.heap[w.heap.size]? = some (Obj.cells #[Value.slice none 0 0, Value.slice none 0 0] 28) := by rw [hw6]; exact obj_other (g' := G) (i := 0) ob5 (by omega) _
      have hsp : Span G (G + 1) w5 w6 := by rw [hw6]; exact Span.set (p := ⟨G, 0, none⟩) (Nat.le_refl _) (Nat.lt_succ_self _) _
      have hrow : Own w6 (w.heap.size + 1) w6.heap.size (⟨RA, rc, root⟩ :: ps) [⟨P, pk, ps.map Row.v⟩] := (hO6.span hsp (.inr (Nat.le_refl _))).wider (by omega) hsp.size
      have hbz : Below w.heap.size w w6 := by rw [hw6]; exact hb6.setCell (p := ⟨G, 0, none⟩) (by show w.heap.size ≤ G; omega) _
      have k0 : w6.cell? ⟨G, 0, none⟩ = some (Value.slice RA root.length rc) := (obj_cell og6).trans rfl
      have k1 : w6.cell? ⟨G, 1, none⟩ = some (Value.slice P ps.length pk) := (obj_cell og6).trans rfl
      obtain ⟨l0, l1, hOf, hbf⟩ := ret_cell (n := root.length) (m := ps.length) obz hrow hbz rfl rfl
      have hOF := Lib.hid hOf
      have hBF := Lib.hid hbf
      have g0 : w6.cell? ⟨w.heap.size, 0, none⟩ = some (Value.slice none 0 0) := (obj_cell obz).trans rfl
      have g1 : w6.cell? ⟨w.heap.size, 1, none⟩ = some (Value.slice none 0 0) := (obj_cell obz).trans rfl
      have g2 : w6.frozen? ⟨w.heap.size, 0, none⟩ = false := obj_frozen obz
      have g3 : w6.frozen? ⟨w.heap.size, 1, none⟩ = false := obj_frozen obz
      clear hOf hbf obz hrow hbz og og5 og6 ob ob5 hO hO5 hO6 hb hb5 hb6 hsp HC ownR hroot
      subst hw6
      go_wp2_with fail
      try simp only [Exit.inBlock, Exit.then]
      refine bodyPost_ret (v := .agg #[.slice RA root.length rc, .slice P ps.length pk]) (by simp [results, Tryz.results30, go_sem, l0, l1]) rfl ?_
      rw [HE2.out.1, HE2.out.2]
      exact ⟨_, _, _, _, ps, rfl, HPS.out, hOF.out, hBF.out⟩
end Go.Proofs.YtldknpjeegdbmaaGreat

/- spec.SplitPerm. Written by gen/gents9.py. -/
namespace Go.Proofs.YtldknpjeegdbmaaGreat
set_option maxRecDepth 100000
open Go Go.RowKit

def spOk (p : List Int) : Bool := permB p && !p.isEmpty
def spR (p : List Int) : List Int := if spOk p = true then splitR p else []
def spP (p : List Int) : List (List Int) := if spOk p = true then splitP p else []
theorem sp_bad {p : List Int} (h : spOk p = false) : spR p = [] ∧ spP p = [] ∧ spOk p = false := by unfold spR spP; rw [h]; exact ⟨rfl, rfl, rfl⟩
theorem sp_good {p : List Int} (hp : permB p = true) (h0 : p ≠ []) : spR p = splitR p ∧ spP p = splitP p ∧ spOk p = true := by
  have h : spOk p = true := by unfold spOk; rw [hp]; cases p with
    | nil => exact absurd rfl h0
    | cons a t => rfl
  unfold spR spP; rw [h]; exact ⟨rfl, rfl, rfl⟩
/-- A root and parts of the call's own, and a bool. -/
def RetSb (w : World) (r : List Int) (L : List (List Int)) (b : Bool) (e : Ending) (w' : World) : Prop :=
  ∃ A c B k rs, e = .returned (.tuple #[.agg #[.slice A r.length c, .slice B rs.length k], .bool b]) ∧ rs.map Row.xs = L ∧ Own w' w.heap.size w'.heap.size (⟨A, c, r⟩ :: rs) [⟨B, k, rs.map Row.v⟩] ∧ Below w.heap.size w w'
theorem own_nilinf (w : World) (lo hi : Nat) : Own w lo hi [⟨none, 0, []⟩] [⟨none, 0, ([] : List Row).map Row.v⟩] := by
  refine ⟨fun r hr => ?_, fun r hr g hg => ?_, List.pairwise_singleton _ _, fun o ho => ?_, fun o ho g hg => ?_⟩
  · obtain rfl := List.mem_singleton.1 hr
    exact ⟨rfl, .inl ⟨rfl, rfl⟩⟩
  · obtain rfl := List.mem_singleton.1 hr
    cases hg
  · obtain rfl := List.mem_singleton.1 ho
    exact ⟨rfl, .inl ⟨rfl, rfl⟩⟩
  · obtain rfl := List.mem_singleton.1 ho
    cases hg
set_option maxHeartbeats 2000000 in
theorem splitPerm_spec (A : Option Addr) (c : Nat) (p : List Int) (w : World) (h : In w A c p) :
    Calls Tryz.prog 7 #[.slice A p.length c] w (RetSb w (spR p) (spP p) (spOk p)) := by
  have hb0 : Below w.heap.size w (w.alloc (Obj.cells #[Value.slice none 0 0, Value.slice none 0 0] 28)) := (Below.refl _ _).alloc (Nat.le_refl _) _
  have ob := obj_new w (Obj.cells #[Value.slice none 0 0, Value.slice none 0 0] 28)
  have hz : (w.alloc (Obj.cells #[Value.slice none 0 0, Value.slice none 0 0] 28)).heap.size = w.heap.size + 1 := by simp
  rcases hp : permB p with _ | _
  · have HP := Lib.hid hp
    have HE := Lib.hid (sp_bad (p := p) (by unfold spOk; rw [hp]; rfl))
    have HC := Lib.hid (isPerm_sb A c p _ false (h.next hb0) HP.out)
    clear hp
    go_enter Tryz.func7, Tryz.ntmps7
    go_wp2_with fail
    generalize (w.alloc (Obj.cells #[Value.slice none 0 0, Value.slice none 0 0] 28)) = w0 at hb0 ob hz HC ⊢
    (with_reducible refine HC.out.mono ?_)
    rintro e w1 ⟨rfl, hd⟩
    have hb1 := below_dr (Below.refl w0.heap.size w0) hd
    have ob := obj_below ob hb1 (obj_lt ob)
    have hbw := hb0.trans (hb1.mono hb0.size)
    have hs1 := hb1.size
    clear HC hb1 hb0 hd
    have hrow : Own w1 (w.heap.size + 1) w1.heap.size (⟨none, 0, []⟩ :: ([] : List Row)) [⟨none, 0, ([] : List Row).map Row.v⟩] := own_nilinf _ _ _
    obtain ⟨l0, l1, hOf, hbf⟩ := ret_cell (n := 0) (m := 0) ob hrow hbw rfl rfl
    have hOF := Lib.hid hOf
    have hBF := Lib.hid hbf
    have g0 : w1.cell? ⟨w.heap.size, 0, none⟩ = some (Value.slice none 0 0) := (obj_cell ob).trans rfl
    have g1 : w1.cell? ⟨w.heap.size, 1, none⟩ = some (Value.slice none 0 0) := (obj_cell ob).trans rfl
    have g2 : w1.frozen? ⟨w.heap.size, 0, none⟩ = false := obj_frozen ob
    have g3 : w1.frozen? ⟨w.heap.size, 1, none⟩ = false := obj_frozen ob
    clear hOf hbf hrow ob hbw
    go_wp2_with fail
    try simp only [Exit.inBlock, Exit.then]
    refine bodyPost_ret (v := .tuple #[.agg #[.slice none 0 0, .slice none 0 0], .bool false]) (by simp [results, Tryz.results7, go_sem, l0, l1]) rfl ?_
    rw [HE.out.1, HE.out.2.1, HE.out.2.2]
    exact ⟨none, 0, none, 0, [], rfl, rfl, hOF.out, hBF.out⟩
  · by_cases hl : p.length = 0
    · have HP := Lib.hid hp
      have HE := Lib.hid (sp_bad (p := p) (by unfold spOk; rw [List.eq_nil_of_length_eq_zero hl]; simp))
      have HC := Lib.hid (isPerm_sb A c p _ true (h.next hb0) HP.out)
      have d1 : ((p.length : Int) == 0) = true := by rw [hl]; rfl
      clear hp hl
      go_enter Tryz.func7, Tryz.ntmps7
      go_wp2_with fail
      generalize (w.alloc (Obj.cells #[Value.slice none 0 0, Value.slice none 0 0] 28)) = w0 at hb0 ob hz HC ⊢
      (with_reducible refine HC.out.mono ?_)
      rintro e w1 ⟨rfl, hd⟩
      have hb1 := below_dr (Below.refl w0.heap.size w0) hd
      have ob := obj_below ob hb1 (obj_lt ob)
      have hbw := hb0.trans (hb1.mono hb0.size)
      have hs1 := hb1.size
      clear HC hb1 hb0 hd
      have hrow : Own w1 (w.heap.size + 1) w1.heap.size (⟨none, 0, []⟩ :: ([] : List Row)) [⟨none, 0, ([] : List Row).map Row.v⟩] := own_nilinf _ _ _
      obtain ⟨l0, l1, hOf, hbf⟩ := ret_cell (n := 0) (m := 0) ob hrow hbw rfl rfl
      have hOF := Lib.hid hOf
      have hBF := Lib.hid hbf
      have g0 : w1.cell? ⟨w.heap.size, 0, none⟩ = some (Value.slice none 0 0) := (obj_cell ob).trans rfl
      have g1 : w1.cell? ⟨w.heap.size, 1, none⟩ = some (Value.slice none 0 0) := (obj_cell ob).trans rfl
      have g2 : w1.frozen? ⟨w.heap.size, 0, none⟩ = false := obj_frozen ob
      have g3 : w1.frozen? ⟨w.heap.size, 1, none⟩ = false := obj_frozen ob
      clear hOf hbf hrow ob hbw
      go_wp2_with fail
      try simp only [Exit.inBlock, Exit.then]
      refine bodyPost_ret (v := .tuple #[.agg #[.slice none 0 0, .slice none 0 0], .bool false]) (by simp [results, Tryz.results7, go_sem, l0, l1]) rfl ?_
      rw [HE.out.1, HE.out.2.1, HE.out.2.2]
      exact ⟨none, 0, none, 0, [], rfl, rfl, hOF.out, hBF.out⟩
    · have HP := Lib.hid hp
      have hne : p ≠ [] := fun e => hl (by rw [e]; rfl)
      have HE := Lib.hid (sp_good hp hne)
      have HC := Lib.hid (isPerm_sb A c p _ true (h.next hb0) HP.out)
      have d1 : ((p.length : Int) == 0) = false := by rw [beq_eq_false_iff_ne]; omega
      clear hp
      go_enter Tryz.func7, Tryz.ntmps7
      go_wp2_with fail
      generalize (w.alloc (Obj.cells #[Value.slice none 0 0, Value.slice none 0 0] 28)) = w0 at hb0 ob hz HC ⊢
      (with_reducible refine HC.out.mono ?_)
      rintro e w1 ⟨rfl, hd⟩
      have hb1 := below_dr (Below.refl w0.heap.size w0) hd
      have ob := obj_below ob hb1 (obj_lt ob)
      have hbw := hb0.trans (hb1.mono hb0.size)
      have hs1 := hb1.size
      clear HC hb1 hb0 hd
      have HD := Lib.hid (l6Split_spec A c p w1 (h.next hbw) HP.out hne)
      go_wp2_with fail
      (with_reducible refine HD.out.mono ?_)
      rintro e w9 ⟨RA, rc, PA, pc, rs, rfl, hXr, hOr, hb2⟩
      obtain ⟨R, hR⟩ : ∃ R, R = splitR p := ⟨_, rfl⟩
      rw [← hR] at hOr ⊢
      have HR := Lib.hid hR
      clear hR
      have obz := obj_below ob hb2 (obj_lt ob)
      have hbz := hbw.trans (hb2.mono hbw.size)
      have hrow : Own w9 (w.heap.size + 1) w9.heap.size (⟨RA, rc, R⟩ :: rs) [⟨PA, pc, rs.map Row.v⟩] := hOr.wider (by omega) (Nat.le_refl _)
      obtain ⟨l0, l1, hOf, hbf⟩ := ret_cell (n := R.length) (m := rs.length) obz hrow hbz rfl rfl
      have hOF := Lib.hid hOf
      have hBF := Lib.hid hbf
      have g0 : w9.cell? ⟨w.heap.size, 0, none⟩ = some (Value.slice none 0 0) := (obj_cell obz).trans rfl
      have g1 : w9.cell? ⟨w.heap.size, 1, none⟩ = some (Value.slice none 0 0) := (obj_cell obz).trans rfl
      have g2 : w9.frozen? ⟨w.heap.size, 0, none⟩ = false := obj_frozen obz
      have g3 : w9.frozen? ⟨w.heap.size, 1, none⟩ = false := obj_frozen obz
      clear hOf hbf obz hrow hbz hOr hb2 ob hbw HD
      go_wp2_with fail
      try simp only [Exit.inBlock, Exit.then]
      refine bodyPost_ret (v := .tuple #[.agg #[.slice RA R.length rc, .slice PA rs.length pc], .bool true]) (by simp [results, Tryz.results7, go_sem, l0, l1]) rfl ?_
      rw [HE.out.1, HE.out.2.1, HE.out.2.2]
      rw [← HR.out]
      exact ⟨RA, rc, PA, pc, rs, rfl, hXr, hOF.out, hBF.out⟩
end Go.Proofs.YtldknpjeegdbmaaGreat

/- EqualInflation, program and reference; slices.EqualFunc of two lists of rows. Written by gen/gente1.py. -/
namespace Go.Proofs.YtldknpjeegdbmaaGreat
set_option maxRecDepth 100000
open Go Go.RowKit

/-- An inflation that is read. -/
structure InI (w : World) (A : Option Addr) (c : Nat) (r : List Int) (B : Option Addr) (k : Nat) (rs : List Row) : Prop where
  fst : In w A c r
  snd : InL w B k rs
theorem InI.next {w w' : World} {A : Option Addr} {c : Nat} {r : List Int} {B : Option Addr} {k : Nat} {rs : List Row} (h : InI w A c r B k rs) (hb : Below w.heap.size w w') : InI w' A c r B k rs := ⟨h.1.next hb, h.2.next hb⟩
theorem take_ne {X Y : List (List Int)} {k : Nat} (hX : k < X.length) (hY : k < Y.length) (h : X[k] ≠ Y[k]) : X ≠ Y := fun e => h (by subst e; rfl)
theorem take_step {X Y : List (List Int)} {k : Nat} (hX : k < X.length) (hY : k < Y.length) (h : X.take k = Y.take k) (he : X[k] = Y[k]) : X.take (k + 1) = Y.take (k + 1) := by
  rw [List.take_succ_eq_append_getElem hX, List.take_succ_eq_append_getElem hY, h, he]
set_option maxHeartbeats 2000000 in
theorem l6Same_any (A B : Option Addr) (c d : Nat) (ps qs : List Row) (w : World) (h : InL w A c ps) (h' : InL w B d qs) :
    Calls Tryz.prog 35 #[.slice A ps.length c, .slice B qs.length d] w (Rq w (.bool (decide (ps.map Row.xs = qs.map Row.xs)))) := by
  have hlp := h.len
  have hlq := h'.len
  by_cases hl : ps.length = qs.length
  case neg =>
    have HF := Lib.hid (show decide (ps.map Row.xs = qs.map Row.xs) = false from decide_eq_false fun e => hl (by have := congrArg List.length e; simpa using this))
    have d1 : ((ps.length : Int) != (qs.length : Int)) = true := by simp; omega
    clear hl
    go_enter Tryz.func35, Tryz.ntmps35
    go_wp2_with fail
    go_ret
    exact ⟨by rw [HF.out]; rfl, Dr.refl _⟩
  have d1 : ((ps.length : Int) != (qs.length : Int)) = false := by simp; omega
  have HL := Lib.hid hl
  clear hl
  go_enter Tryz.func35, Tryz.ntmps35
  go_wp2_with fail
  go_loopw [5] (fun i wr => ∃ k : Nat, k ≤ ps.length ∧ i = .int .i64 k ∧ Dr w wr ∧ Hid ((ps.map Row.xs).take k = (qs.map Row.xs).take k)) (fun i _ => ps.length - (intOf i).toNat)
  case atStart => exact ⟨0, Nat.zero_le _, rfl, Dr.refl _, Lib.hid rfl⟩
  case round =>
    obtain ⟨k, hk, rfl, hd, HT⟩ := hrel
    rcases Nat.lt_or_ge k ps.length with hlt | hge
    · have hlq2 : k < qs.length := by rw [← HL.out]; exact hlt
      have i1 := h.dr hd
      have i2 := h'.dr hd
      obtain ⟨b1, o1, rfl, _, hc1⟩ := i1.read.at (by omega)
      obtain ⟨b2, o2, rfl, _, hc2⟩ := i2.read.at (by omega)
      have c1 := hc1 k hlt
      have c2 := hc2 k hlq2
      have r1 := i1.row (List.getElem_mem hlt)
      have r2 := i2.row (List.getElem_mem hlq2)
      have hk1 : k < (ps.map Row.xs).length := by rw [List.length_map]; exact hlt
      have hk2 : k < (qs.map Row.xs).length := by rw [List.length_map]; exact hlq2
      have x1 : (ps.map Row.xs)[k] = ps[k].xs := List.getElem_map _
      have x2 : (qs.map Row.xs)[k] = qs[k].xs := List.getElem_map _
      have HS := Lib.hid (take_step hk1 hk2 HT.out)
      have HN := Lib.hid (take_ne hk1 hk2)
      rw [x1, x2] at HS HN
      obtain ⟨R1, hR1⟩ : ∃ R : Row, R = ps[k] := ⟨_, rfl⟩
      obtain ⟨R2, hR2⟩ : ∃ R : Row, R = qs[k] := ⟨_, rfl⟩
      rw [← hR1] at c1 r1 HS HN
      rw [← hR2] at c2 r2 HS HN
      clear hc1 hc2 hR1 hR2 x1 x2 i1 i2 hk1 hk2
      obtain ⟨A1, e1, xs⟩ := R1
      obtain ⟨A2, e2, ys⟩ := R2
      replace c1 : wr.cell? ⟨b1, o1 + k, none⟩ = some (Value.slice A1 xs.length e1) := c1
      replace c2 : wr.cell? ⟨b2, o2 + k, none⟩ = some (Value.slice A2 ys.length e2) := c2
      have hx1 : xs.length ≤ 1048576 := r1.len
      have l0 : (0 : Int) ≤ (k : Int) := Int.natCast_nonneg _
      have l1 : (k : Int) < (ps.length : Int) := by omega
      have l2 : (k : Int) < (qs.length : Int) := by omega
      by_cases he : xs = ys
      · have HS2 := Lib.hid (HS.out he)
        have HE := Lib.hid (decide_eq_true he)
        clear HN HS he
        go_wp2_with fail
        go_quiet ((go_at_call 34; exact quiet_rq (l2Same_b A1 A2 e1 e2 _ _ xs ys _ true rfl rfl (by omega) (r1.rd.drewN _) (r2.rd.drewN _) HE.out)))
        go_wp2_with fail
        go_roundw
        case rel => exact ⟨k + 1, by omega, by go_num, hd.drewN _, HS2⟩
        case measure => simp [intOf]; omega
      · have HF := Lib.hid (show decide (ps.map Row.xs = qs.map Row.xs) = false from decide_eq_false (HN.out he))
        have HE := Lib.hid (decide_eq_false he)
        clear HN HS he
        go_wp2_with fail
        go_quiet ((go_at_call 34; exact quiet_rq (l2Same_b A1 A2 e1 e2 _ _ xs ys _ false rfl rfl (by omega) (r1.rd.drewN _) (r2.rd.drewN _) HE.out)))
        go_wp2_with fail
        go_ret
        exact ⟨by rw [HF.out]; rfl, hd.drewN _⟩
    · obtain rfl : k = ps.length := by omega
      have HF := Lib.hid (show decide (ps.map Row.xs = qs.map Row.xs) = true from decide_eq_true (by
        have := HT.out
        rwa [List.take_of_length_le (by simp), List.take_of_length_le (by rw [List.length_map, ← HL.out]; exact Nat.le_refl _)] at this))
      go_wp2_with fail
      go_ret
      exact ⟨by rw [HF.out]; rfl, hd⟩
set_option maxHeartbeats 2000000 in
theorem equalFunc_any (A B : Option Addr) (c d : Nat) (ps qs : List Row) (w : World) (h : InL w A c ps) (h' : InL w B d qs) :
    Calls Tryz.prog 37 #[.slice A ps.length c, .slice B qs.length d, .func (.func 36) #[] #[]] w (Rq w (.bool (decide (ps.map Row.xs = qs.map Row.xs)))) := by
  have hlp := h.len
  have hlq := h'.len
  have hcf := call_eqf
  by_cases hl : ps.length = qs.length
  case neg =>
    have HF := Lib.hid (show decide (ps.map Row.xs = qs.map Row.xs) = false from decide_eq_false fun e => hl (by have := congrArg List.length e; simpa using this))
    have d1 : ((ps.length : Int) != (qs.length : Int)) = true := by simp; omega
    clear hl
    go_enter Tryz.func37, Tryz.ntmps37
    go_wp2_with fail
    go_ret
    exact ⟨by rw [HF.out]; rfl, Dr.refl _⟩
  have d1 : ((ps.length : Int) != (qs.length : Int)) = false := by simp; omega
  have HL := Lib.hid hl
  clear hl
  go_enter Tryz.func37, Tryz.ntmps37
  go_wp2_with fail
  go_loopw [17] (fun i wr => ∃ k : Nat, k ≤ ps.length ∧ i = .int .i64 k ∧ Dr w wr ∧ Hid ((ps.map Row.xs).take k = (qs.map Row.xs).take k)) (fun i _ => ps.length - (intOf i).toNat)
  case atStart => exact ⟨0, Nat.zero_le _, rfl, Dr.refl _, Lib.hid rfl⟩
  case round =>
    obtain ⟨k, hk, rfl, hd, HT⟩ := hrel
    rcases Nat.lt_or_ge k ps.length with hlt | hge
    · have hlq2 : k < qs.length := by rw [← HL.out]; exact hlt
      have i1 := h.dr hd
      have i2 := h'.dr hd
      obtain ⟨b1, o1, rfl, _, hc1⟩ := i1.read.at (by omega)
      obtain ⟨b2, o2, rfl, _, hc2⟩ := i2.read.at (by omega)
      have c1 := hc1 k hlt
      have c2 := hc2 k hlq2
      have r1 := i1.row (List.getElem_mem hlt)
      have r2 := i2.row (List.getElem_mem hlq2)
      have hk1 : k < (ps.map Row.xs).length := by rw [List.length_map]; exact hlt
      have hk2 : k < (qs.map Row.xs).length := by rw [List.length_map]; exact hlq2
      have x1 : (ps.map Row.xs)[k] = ps[k].xs := List.getElem_map _
      have x2 : (qs.map Row.xs)[k] = qs[k].xs := List.getElem_map _
      have HS := Lib.hid (take_step hk1 hk2 HT.out)
      have HN := Lib.hid (take_ne hk1 hk2)
      rw [x1, x2] at HS HN
      obtain ⟨R1, hR1⟩ : ∃ R : Row, R = ps[k] := ⟨_, rfl⟩
      obtain ⟨R2, hR2⟩ : ∃ R : Row, R = qs[k] := ⟨_, rfl⟩
      rw [← hR1] at c1 r1 HS HN
      rw [← hR2] at c2 r2 HS HN
      clear hc1 hc2 hR1 hR2 x1 x2 i1 i2 hk1 hk2
      obtain ⟨A1, e1, xs⟩ := R1
      obtain ⟨A2, e2, ys⟩ := R2
      replace c1 : wr.cell? ⟨b1, o1 + k, none⟩ = some (Value.slice A1 xs.length e1) := c1
      replace c2 : wr.cell? ⟨b2, o2 + k, none⟩ = some (Value.slice A2 ys.length e2) := c2
      have hx1 : xs.length ≤ 1048576 := r1.len
      have l0 : (0 : Int) ≤ (k : Int) := Int.natCast_nonneg _
      have l1 : (k : Int) < (ps.length : Int) := by omega
      have l2 : (k : Int) < (qs.length : Int) := by omega
      by_cases he : xs = ys
      · have HS2 := Lib.hid (HS.out he)
        have HE := Lib.hid (decide_eq_true he)
        clear HN HS he
        go_wp2_with fail
        (with_reducible refine (equal_b A1 A2 e1 e2 _ _ xs ys wr true rfl rfl (by omega) r1.rd r2.rd HE.out).mono ?_)
        rintro e w2 ⟨rfl, hd2⟩
        go_wp2_with fail
        go_roundw
        case rel => exact ⟨k + 1, by omega, by go_num, hd.trans hd2, HS2⟩
        case measure => simp [intOf]; omega
      · have HF := Lib.hid (show decide (ps.map Row.xs = qs.map Row.xs) = false from decide_eq_false (HN.out he))
        have HE := Lib.hid (decide_eq_false he)
        clear HN HS he
        go_wp2_with fail
        (with_reducible refine (equal_b A1 A2 e1 e2 _ _ xs ys wr false rfl rfl (by omega) r1.rd r2.rd HE.out).mono ?_)
        rintro e w2 ⟨rfl, hd2⟩
        go_wp2_with fail
        go_ret
        exact ⟨by rw [HF.out]; rfl, hd.trans hd2⟩
    · obtain rfl : k = ps.length := by omega
      have HF := Lib.hid (show decide (ps.map Row.xs = qs.map Row.xs) = true from decide_eq_true (by
        have := HT.out
        rwa [List.take_of_length_le (by simp), List.take_of_length_le (by rw [List.length_map, ← HL.out]; exact Nat.le_refl _)] at this))
      go_wp2_with fail
      go_ret
      exact ⟨by rw [HF.out]; rfl, hd⟩
set_option maxHeartbeats 1000000 in
theorem equalInf_spec (A B A' B' : Option Addr) (c k c' k' : Nat) (r r' : List Int) (rs rs' : List Row) (w : World) (h : InI w A c r B k rs) (h' : InI w A' c' r' B' k' rs') :
    Calls Tryz.prog 10 #[.agg #[.slice A r.length c, .slice B rs.length k], .agg #[.slice A' r'.length c', .slice B' rs'.length k']] w (Rb w (.bool (decide (r = r') && decide (rs.map Row.xs = rs'.map Row.xs)))) := by
  have hb0 := ((Below.refl w.heap.size w).alloc (Nat.le_refl _) (Obj.cells #[Value.slice A r.length c, Value.slice B rs.length k] 28)).alloc (by simp) (Obj.cells #[Value.slice A' r'.length c', Value.slice B' rs'.length k'] 28)
  have oa := obj_alloc (obj_new w (Obj.cells #[Value.slice A r.length c, Value.slice B rs.length k] 28)) (Obj.cells #[Value.slice A' r'.length c', Value.slice B' rs'.length k'] 28)
  have ob := obj_new (w.alloc (Obj.cells #[Value.slice A r.length c, Value.slice B rs.length k] 28)) (Obj.cells #[Value.slice A' r'.length c', Value.slice B' rs'.length k'] 28)
  simp only [World.size_alloc] at ob
  go_enter Tryz.func10, Tryz.ntmps10
  go_upto_region 1 with fail
  generalize ((w.alloc (Obj.cells #[Value.slice A r.length c, Value.slice B rs.length k] 28)).alloc (Obj.cells #[Value.slice A' r'.length c', Value.slice B' rs'.length k'] 28)) = w0 at hb0 oa ob ⊢
  have h := h.next hb0
  have h' := h'.next hb0
  have f0 : w0.cell? ⟨w.heap.size, 0, none⟩ = some (Value.slice A r.length c) := (obj_cell oa).trans rfl
  have f1 : w0.cell? ⟨w.heap.size + 1, 0, none⟩ = some (Value.slice A' r'.length c') := (obj_cell ob).trans rfl
  have hl := h.1.len
  rcases he : decide (r = r') with _ | _
  · have HV := Lib.hid (show Value.bool (decide (r = r') && decide (rs.map Row.xs = rs'.map Row.xs)) = Value.bool false by rw [he]; rfl)
    have HC := Lib.hid (l2Same_b A A' c c' _ _ r r' w0 false rfl rfl (by omega) h.1.rd h'.1.rd he)
    go_wp2_with fail
    (with_reducible refine HC.out.mono ?_)
    rintro e w1 ⟨rfl, hd⟩
    go_wp2_with fail
    go_ret
    exact ⟨by rw [HV.out]; rfl, below_dr hb0 hd⟩
  · have HV := Lib.hid (show Value.bool (decide (r = r') && decide (rs.map Row.xs = rs'.map Row.xs)) = Value.bool (decide (rs.map Row.xs = rs'.map Row.xs)) by rw [he]; rfl)
    have HC := Lib.hid (l2Same_b A A' c c' _ _ r r' w0 true rfl rfl (by omega) h.1.rd h'.1.rd he)
    go_wp2_with fail
    (with_reducible refine HC.out.mono ?_)
    rintro e w1 ⟨rfl, hd⟩
    have hbd := below_dr (Below.refl w0.heap.size w0) hd
    have oa := obj_dr oa hd
    have ob := obj_dr ob hd
    have g0 : w1.cell? ⟨w.heap.size, 1, none⟩ = some (Value.slice B rs.length k) := (obj_cell oa).trans rfl
    have g1 : w1.cell? ⟨w.heap.size + 1, 1, none⟩ = some (Value.slice B' rs'.length k') := (obj_cell ob).trans rfl
    have HC := Lib.hid (l6Same_any B B' k k' rs rs' w1 (h.2.next hbd) (h'.2.next hbd))
    have hb1 := hb0.trans (hbd.mono hb0.size)
    clear f0 f1 hd
    go_wp2_with fail
    (with_reducible refine HC.out.mono ?_)
    rintro e w2 ⟨rfl, hd2⟩
    go_wp2_with fail
    go_ret
    exact ⟨by rw [HV.out]; rfl, below_dr hb1 hd2⟩
set_option maxHeartbeats 1000000 in
theorem equalInf_impl (A B A' B' : Option Addr) (c k c' k' : Nat) (r r' : List Int) (rs rs' : List Row) (w : World) (h : InI w A c r B k rs) (h' : InI w A' c' r' B' k' rs') :
    Calls Tryz.prog 11 #[.agg #[.slice A r.length c, .slice B rs.length k], .agg #[.slice A' r'.length c', .slice B' rs'.length k']] w (Rb w (.bool (decide (r = r') && decide (rs.map Row.xs = rs'.map Row.xs)))) := by
  have hb0 := ((Below.refl w.heap.size w).alloc (Nat.le_refl _) (Obj.cells #[Value.slice A r.length c, Value.slice B rs.length k] 28)).alloc (by simp) (Obj.cells #[Value.slice A' r'.length c', Value.slice B' rs'.length k'] 28)
  have oa := obj_alloc (obj_new w (Obj.cells #[Value.slice A r.length c, Value.slice B rs.length k] 28)) (Obj.cells #[Value.slice A' r'.length c', Value.slice B' rs'.length k'] 28)
  have ob := obj_new (w.alloc (Obj.cells #[Value.slice A r.length c, Value.slice B rs.length k] 28)) (Obj.cells #[Value.slice A' r'.length c', Value.slice B' rs'.length k'] 28)
  simp only [World.size_alloc] at ob
  go_enter Tryz.func11, Tryz.ntmps11
  go_upto_region 1 with fail
  generalize ((w.alloc (Obj.cells #[Value.slice A r.length c, Value.slice B rs.length k] 28)).alloc (Obj.cells #[Value.slice A' r'.length c', Value.slice B' rs'.length k'] 28)) = w0 at hb0 oa ob ⊢
  have h := h.next hb0
  have h' := h'.next hb0
  have f0 : w0.cell? ⟨w.heap.size, 0, none⟩ = some (Value.slice A r.length c) := (obj_cell oa).trans rfl
  have f1 : w0.cell? ⟨w.heap.size + 1, 0, none⟩ = some (Value.slice A' r'.length c') := (obj_cell ob).trans rfl
  have hl := h.1.len
  rcases he : decide (r = r') with _ | _
  · have HV := Lib.hid (show Value.bool (decide (r = r') && decide (rs.map Row.xs = rs'.map Row.xs)) = Value.bool false by rw [he]; rfl)
    have HC := Lib.hid (equal_b A A' c c' _ _ r r' w0 false rfl rfl (by omega) h.1.rd h'.1.rd he)
    go_wp2_with fail
    (with_reducible refine HC.out.mono ?_)
    rintro e w1 ⟨rfl, hd⟩
    go_wp2_with fail
    go_ret
    exact ⟨by rw [HV.out]; rfl, below_dr hb0 hd⟩
  · have HV := Lib.hid (show Value.bool (decide (r = r') && decide (rs.map Row.xs = rs'.map Row.xs)) = Value.bool (decide (rs.map Row.xs = rs'.map Row.xs)) by rw [he]; rfl)
    have HC := Lib.hid (equal_b A A' c c' _ _ r r' w0 true rfl rfl (by omega) h.1.rd h'.1.rd he)
    go_wp2_with fail
    (with_reducible refine HC.out.mono ?_)
    rintro e w1 ⟨rfl, hd⟩
    have hbd := below_dr (Below.refl w0.heap.size w0) hd
    have oa := obj_dr oa hd
    have ob := obj_dr ob hd
    have g0 : w1.cell? ⟨w.heap.size, 1, none⟩ = some (Value.slice B rs.length k) := (obj_cell oa).trans rfl
    have g1 : w1.cell? ⟨w.heap.size + 1, 1, none⟩ = some (Value.slice B' rs'.length k') := (obj_cell ob).trans rfl
    have HC := Lib.hid (equalFunc_any B B' k k' rs rs' w1 (h.2.next hbd) (h'.2.next hbd))
    have hb1 := hb0.trans (hbd.mono hb0.size)
    clear f0 f1 hd
    go_wp2_with fail
    (with_reducible refine HC.out.mono ?_)
    rintro e w2 ⟨rfl, hd2⟩
    go_wp2_with fail
    go_ret
    exact ⟨by rw [HV.out]; rfl, below_dr hb1 hd2⟩
end Go.Proofs.YtldknpjeegdbmaaGreat
