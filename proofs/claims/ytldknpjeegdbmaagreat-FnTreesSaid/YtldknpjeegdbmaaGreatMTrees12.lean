/- Several texts in one, each with its own head: TI9, TD1, TD2, TR1, TR2, TP1. No program of ours. -/
import Derived.Test.YtldknpjeegdbmaaGreatMTrees11
/- impl.SplitPerm. Written by gen/gents9.py. -/
namespace Go.Proofs.YtldknpjeegdbmaaGreat
set_option maxRecDepth 100000
open Go Go.RowKit

set_option maxHeartbeats 2000000 in
theorem splitPerm_impl (A : Option Addr) (c : Nat) (p : List Int) (w : World) (h : In w A c p) :
    Calls Tryz.prog 6 #[.slice A p.length c] w (RetSb w (spR p) (spP p) (spOk p)) := by
  have hb0 : Below w.heap.size w (w.alloc (Obj.cells #[Value.slice none 0 0, Value.slice none 0 0] 28)) := (Below.refl _ _).alloc (Nat.le_refl _) _
  have ob := obj_new w (Obj.cells #[Value.slice none 0 0, Value.slice none 0 0] 28)
  have hz : (w.alloc (Obj.cells #[Value.slice none 0 0, Value.slice none 0 0] 28)).heap.size = w.heap.size + 1 := by simp
  rcases hp : permB p with _ | _
  · have HP := Lib.hid hp
    have HE := Lib.hid (sp_bad (p := p) (by unfold spOk; rw [hp]; rfl))
    have HC := Lib.hid (isPerm_ib A c p _ false (h.next hb0) HP.out)
    clear hp
    go_enter Tryz.func6, Tryz.ntmps6
    go_wp2_with fail
    generalize (w.alloc (Obj.cells #[Value.slice none 0 0, Value.slice none 0 0] 28)) = w0 at hb0 ob hz HC ⊢
    (with_reducible refine HC.out.mono ?_)
    rintro e w1 ⟨rfl, hb1⟩
    have ob := obj_below ob hb1 (obj_lt ob)
    have hbw := hb0.trans (hb1.mono hb0.size)
    have hs1 := hb1.size
    clear HC hb1 hb0
    have hrow : Own w1 (w.heap.size + 1) w1.heap.size (⟨none, 0, []⟩ :: ([] : List Row)) [⟨none, 0, ([] : List Row).map Row.v⟩] := own_nilinf _ _ _
    obtain ⟨l0, l1, hOf, hbf⟩ := ret_cell (n := 0) (m := 0) ob hrow hbw rfl rfl
    have hOF := Lib.hid hOf
    have hBF := Lib.hid hbf
    have g0 : w1.cell? ⟨w.heap.size, 0, none⟩ = some (Value.slice none 0 0) := (obj_cell ob).trans rfl
    have g1 : w1.cell? ⟨w.heap.size, 1, none⟩ = some (Value.slice none 0 0) := (obj_cell ob).trans rfl
    have g2 : w1.frozen? ⟨w.heap.size, 0, none⟩ = false := obj_frozen ob
    have g3 : w1.frozen? ⟨w.heap.size, 1, none⟩ = false := obj_frozen ob
    clear hOf hbf hrow ob hbw
    go_wp2_with fail
    try simp only [Exit.inBlock, Exit.then]
    refine bodyPost_ret (v := .tuple #[.agg #[.slice none 0 0, .slice none 0 0], .bool false]) (by simp [results, Tryz.results6, go_sem, l0, l1]) rfl ?_
    rw [HE.out.1, HE.out.2.1, HE.out.2.2]
    exact ⟨none, 0, none, 0, [], rfl, rfl, hOF.out, hBF.out⟩
  · by_cases hl : p.length = 0
    · have HP := Lib.hid hp
      have HE := Lib.hid (sp_bad (p := p) (by unfold spOk; rw [List.eq_nil_of_length_eq_zero hl]; simp))
      have HC := Lib.hid (isPerm_ib A c p _ true (h.next hb0) HP.out)
      have d1 : ((p.length : Int) == 0) = true := by rw [hl]; rfl
      clear hp hl
      go_enter Tryz.func6, Tryz.ntmps6
      go_wp2_with fail
      generalize (w.alloc (Obj.cells #[Value.slice none 0 0, Value.slice none 0 0] 28)) = w0 at hb0 ob hz HC ⊢
      (with_reducible refine HC.out.mono ?_)
      rintro e w1 ⟨rfl, hb1⟩
      have ob := obj_below ob hb1 (obj_lt ob)
      have hbw := hb0.trans (hb1.mono hb0.size)
      have hs1 := hb1.size
      clear HC hb1 hb0
      have hrow : Own w1 (w.heap.size + 1) w1.heap.size (⟨none, 0, []⟩ :: ([] : List Row)) [⟨none, 0, ([] : List Row).map Row.v⟩] := own_nilinf _ _ _
      obtain ⟨l0, l1, hOf, hbf⟩ := ret_cell (n := 0) (m := 0) ob hrow hbw rfl rfl
      have hOF := Lib.hid hOf
      have hBF := Lib.hid hbf
      have g0 : w1.cell? ⟨w.heap.size, 0, none⟩ = some (Value.slice none 0 0) := (obj_cell ob).trans rfl
      have g1 : w1.cell? ⟨w.heap.size, 1, none⟩ = some (Value.slice none 0 0) := (obj_cell ob).trans rfl
      have g2 : w1.frozen? ⟨w.heap.size, 0, none⟩ = false := obj_frozen ob
      have g3 : w1.frozen? ⟨w.heap.size, 1, none⟩ = false := obj_frozen ob
      clear hOf hbf hrow ob hbw
      go_wp2_with fail
      try simp only [Exit.inBlock, Exit.then]
      refine bodyPost_ret (v := .tuple #[.agg #[.slice none 0 0, .slice none 0 0], .bool false]) (by simp [results, Tryz.results6, go_sem, l0, l1]) rfl ?_
      rw [HE.out.1, HE.out.2.1, HE.out.2.2]
      exact ⟨none, 0, none, 0, [], rfl, rfl, hOF.out, hBF.out⟩
    · have HP := Lib.hid hp
      have hne : p ≠ [] := fun e => hl (by rw [e]; rfl)
      have HE := Lib.hid (sp_good hp hne)
      have HC := Lib.hid (isPerm_ib A c p _ true (h.next hb0) HP.out)
      have d1 : ((p.length : Int) == 0) = false := by rw [beq_eq_false_iff_ne]; omega
      clear hp
      go_enter Tryz.func6, Tryz.ntmps6
      go_wp2_with fail
      generalize (w.alloc (Obj.cells #[Value.slice none 0 0, Value.slice none 0 0] 28)) = w0 at hb0 ob hz HC ⊢
      (with_reducible refine HC.out.mono ?_)
      rintro e w1 ⟨rfl, hb1⟩
      have ob := obj_below ob hb1 (obj_lt ob)
      have hbw := hb0.trans (hb1.mono hb0.size)
      have hs1 := hb1.size
      clear HC hb1 hb0
      have HD := Lib.hid (split_impl A c p w1 (h.next hbw) HP.out hne)
      go_wp2_with fail
      (with_reducible refine HD.out.mono ?_)
      rintro e w9 ⟨RA, rc, PA, pc, rs, rfl, hXr, hOr, hb2⟩
      obtain ⟨R, hR⟩ : ∃ R, R = splitR p := ⟨_, rfl⟩
      rw [← hR] at hOr ⊢
      have HR := Lib.hid hR
      clear hR
      have obz := obj_below ob hb2 (obj_lt ob)
      have hbz := hbw.trans (hb2.mono hbw.size)
      have hrow : Own w9 (w.heap.size + 1) w9.heap.size (⟨RA, rc, R⟩ :: rs) [⟨PA, pc, rs.map Row.v⟩] := hOr.wider (by omega) (Nat.le_refl _)
      obtain ⟨l0, l1, hOf, hbf⟩ := ret_cell (n := R.length) (m := rs.length) obz hrow hbz rfl rfl
      have hOF := Lib.hid hOf
      have hBF := Lib.hid hbf
      have g0 : w9.cell? ⟨w.heap.size, 0, none⟩ = some (Value.slice none 0 0) := (obj_cell obz).trans rfl
      have g1 : w9.cell? ⟨w.heap.size, 1, none⟩ = some (Value.slice none 0 0) := (obj_cell obz).trans rfl
      have g2 : w9.frozen? ⟨w.heap.size, 0, none⟩ = false := obj_frozen obz
      have g3 : w9.frozen? ⟨w.heap.size, 1, none⟩ = false := obj_frozen obz
      clear hOf hbf obz hrow hbz hOr hb2 ob hbw HD
      go_wp2_with fail
      try simp only [Exit.inBlock, Exit.then]
      refine bodyPost_ret (v := .tuple #[.agg #[.slice RA R.length rc, .slice PA rs.length pc], .bool true]) (by simp [results, Tryz.results6, go_sem, l0, l1]) rfl ?_
      rw [HE.out.1, HE.out.2.1, HE.out.2.2]
      rw [← HR.out]
      exact ⟨RA, rc, PA, pc, rs, rfl, hXr, hOF.out, hBF.out⟩
end Go.Proofs.YtldknpjeegdbmaaGreat

/- TreeDepth, program and reference. -/
namespace Go.Proofs.YtldknpjeegdbmaaGreat
set_option maxRecDepth 100000
open Go Go.RowKit

/-- The depth of a tree, by fuel. -/
def mxL : List Nat → Nat := fun l => l.foldl max 0
def depthN : Nat → List Int → Nat
  | 0, _ => 0
  | f + 1, p => if p.length ≤ 1 then 0 else mxL ((splitP p).map (depthN f)) + 1
def dpTo (f : Nat) (L : List (List Int)) (k : Nat) : Nat := mxL ((L.take k).map (depthN f))
theorem dpTo_succ (f : Nat) (L : List (List Int)) (k : Nat) (h : k < L.length) : dpTo f L (k + 1) = max (dpTo f L k) (depthN f L[k]) := by
  unfold dpTo mxL; rw [List.take_succ_eq_append_getElem h, List.map_append, List.foldl_append]; rfl
theorem foldl_max_le (l : List Nat) (m : Nat) (h : ∀ x ∈ l, x ≤ m) : ∀ b, b ≤ m → l.foldl max b ≤ m := by
  induction l with
  | nil => intro b hb; exact hb
  | cons a t ih => intro b hb; exact ih (fun x hx => h x (by simp [hx])) _ (by have := h a (by simp); omega)
theorem depthN_le (f : Nat) : ∀ p, depthN f p ≤ f := by
  induction f with
  | zero => intro p; exact Nat.le_refl _
  | succ f ih =>
    intro p
    unfold depthN
    split
    · omega
    · have : mxL ((splitP p).map (depthN f)) ≤ f := foldl_max_le _ f (fun x hx => by obtain ⟨q, _, rfl⟩ := List.mem_map.1 hx; exact ih q) 0 (by omega)
      omega
theorem dpTo_le (f : Nat) (L : List (List Int)) (k : Nat) : dpTo f L k ≤ f := foldl_max_le _ f (fun x hx => by obtain ⟨q, _, rfl⟩ := List.mem_map.1 hx; exact depthN_le f q) 0 (by omega)
theorem depthN_one (f : Nat) {p : List Int} (h : p.length = 1) : depthN f p = 0 := by
  cases f with
  | zero => rfl
  | succ f => unfold depthN; rw [if_pos (by omega)]
theorem depthN_many (f : Nat) {p : List Int} (h : 2 ≤ p.length) : depthN (f + 1) p = dpTo f (splitP p) (splitP p).length + 1 := by
  show (if p.length ≤ 1 then 0 else _) = _
  rw [if_neg (by omega)]
  unfold dpTo; rw [List.take_length]
/-- What the parts of a split are. -/
theorem parts_of {p : List Int} (hp : permB p = true) (h0 : p ≠ []) : (∀ q ∈ splitP p, permB q = true ∧ q ≠ [] ∧ (2 ≤ p.length → q.length < p.length)) ∧ (splitP p).length = (splitR p).length ∧ permB (splitR p) = true ∧ splitR p ≠ [] := by
  have := split_part hp (split_is hp h0)
  exact ⟨this.1, this.2.1, this.2.2.1, this.2.2.2.2⟩
theorem parts_size {p : List Int} {rs : List Row} (hp : permB p = true) (h0 : p ≠ []) (hX : rs.map Row.xs = splitP p) : rs.length + sizeR rs ≤ 1048576 :=
  rows_bound (n := 8) (m := 8) hX (by have h1 := parts_of hp h0; have := (permB_true h1.2.2.1).1; omega) (fun q hq => (permB_true ((parts_of hp h0).1 q hq).1).1) (by omega)
theorem part_at {p : List Int} {rs : List Row} {k : Nat} (hp : permB p = true) (h0 : p ≠ []) (hX : rs.map Row.xs = splitP p) (hk : k < rs.length) : permB rs[k].xs = true ∧ rs[k].xs ≠ [] ∧ (2 ≤ p.length → rs[k].xs.length < p.length) ∧ ∃ h : k < (splitP p).length, (splitP p)[k] = rs[k].xs := by
  have hm : rs[k].xs ∈ splitP p := by rw [← hX]; exact List.mem_map.2 ⟨_, List.getElem_mem hk, rfl⟩
  obtain ⟨a, b, c⟩ := (parts_of hp h0).1 _ hm
  refine ⟨a, b, c, by rw [← hX, List.length_map]; exact hk, ?_⟩
  simp only [← hX, List.getElem_map]
theorem field_parts (A B : Option Addr) (n c m k : Nat) (w : World) : (Instr.field 28 (.agg #[.slice A n c, .slice B m k]) 1).run Tryz.prog w = .ok (.slice B m k) w := by kernel_rfl
set_option maxHeartbeats 2000000 in
theorem treeDepth_rec (f : Nat) : f ≤ 8 → ∀ (A : Option Addr) (c : Nat) (p : List Int) (w : World), In w A c p → permB p = true → p ≠ [] → p.length ≤ f →
    Calls Tryz.prog 41 #[.slice A p.length c] w (Rb w (.int .i64 ((depthN f p : Nat) : Int))) := by
  induction f with
  | zero => intro _ A c p w h hp h0 hf; exact absurd (List.eq_nil_of_length_eq_zero (by omega)) h0
  | succ f ih =>
    intro hf8 A c p w h hp h0 hf
    have IH := Lib.hid (ih (by omega))
    clear ih
    have hl := len_pos h0
    by_cases h1 : p.length = 1
    · have HV := Lib.hid (depthN_one (f + 1) h1)
      have d0 : ((p.length : Int) == 1) = true := by rw [h1]; rfl
      clear h1
      go_enter Tryz.func41, Tryz.ntmps41
      go_wp2_with fail
      go_ret
      exact ⟨by rw [HV.out]; rfl, Below.refl _ _⟩
    · have d0 : ((p.length : Int) == 1) = false := by rw [beq_eq_false_iff_ne]; omega
      have h2 : 2 ≤ p.length := by omega
      have HV := Lib.hid (depthN_many f h2)
      have HS := Lib.hid (split_impl A c p w h hp h0)
      have HP := Lib.hid (fun (rs : List Row) hX => @parts_size p rs hp h0 hX)
      have HQ := Lib.hid (fun (rs : List Row) (k : Nat) hX hk => @part_at p rs k hp h0 hX hk)
      clear hp h0 h1
      go_enter Tryz.func41, Tryz.ntmps41
      go_wp2_with fail
      (with_reducible refine HS.out.mono ?_)
      rintro e w9 ⟨RA, rc, PA, pc, rs, rfl, hX, hO, hb⟩
      have hin : InL w9 PA pc rs := (hO.sub (List.sublist_cons_self _ _)).read.toL (HP.out rs hX) (Nat.le_refl _)
      have HX := Lib.hid hX
      have HB := Lib.hid hb
      have hrl := hin.len
      clear hX hO hb HS
      have hfd := fun w => field_parts RA PA (splitR p).length rc rs.length pc w
      go_wp2_with fail
      clear hfd
      go_loopw [3, 13] (fun m i wr => ∃ k : Nat, k ≤ rs.length ∧ i = .int .i64 k ∧ m = .int .i64 ((dpTo f (splitP p) k : Nat) : Int) ∧ Below w9.heap.size w9 wr) (fun _ i _ => rs.length - (intOf i).toNat)
      case atStart => exact ⟨0, Nat.zero_le _, rfl, rfl, Below.refl _ _⟩
      case round =>
        obtain ⟨k, hk, rfl, rfl, hb⟩ := hrel
        have hsz := hb.size
        have hm8 := dpTo_le f (splitP p) k
        rcases Nat.lt_or_ge k rs.length with hlt | hge
        · obtain ⟨hq, hq0, hql, hks, hqe⟩ := HQ.out rs k HX.out hlt
          have HM := Lib.hid (dpTo_succ f (splitP p) k hks)
          rw [hqe] at HM
          have i1 := hin.next hb
          obtain ⟨b', off, rfl, _, hc⟩ := i1.read.at (by omega)
          have g1 := hc k hlt
          have hrow := i1.row (List.getElem_mem hlt)
          have hql := hql h2
          obtain ⟨R, hR⟩ : ∃ R : Row, R = rs[k] := ⟨_, rfl⟩
          rw [← hR] at g1 hrow hq hq0 hql HM
          clear hc hR hqe
          obtain ⟨A1, c1, q⟩ := R
          replace g1 : wr.cell? ⟨b', off + k, none⟩ = some (Value.slice A1 q.length c1) := g1
          have hql : q.length < p.length := hql
          have HC := Lib.hid (IH.out A1 c1 q wr hrow hq hq0 (by omega))
          replace HM : Hid (dpTo f (splitP p) (k + 1) = max (dpTo f (splitP p) k) (depthN f q)) := HM
          have hd8 := depthN_le f q
          clear hq hq0 hks
          go_wp2_with fail
          (with_reducible refine HC.out.mono ?_)
          rintro e w2 ⟨rfl, hb2⟩
          go_wp2_with fail
          go_roundw
          case rel => exact ⟨k + 1, by omega, by go_num, by rw [HM.out]; go_num, hb.trans (hb2.mono hb.size)⟩
          case measure => simp [intOf]; omega
        · obtain rfl : k = rs.length := by omega
          have hke : rs.length = (splitP p).length := by rw [← HX.out, List.length_map]
          have HV2 := Lib.hid (show depthN (f + 1) p = dpTo f (splitP p) rs.length + 1 by rw [HV.out, hke])
          clear hke
          go_wp2_with fail
          go_ret
          exact ⟨by rw [HV2.out]; go_num, HB.out.trans (hb.mono HB.out.size)⟩
end Go.Proofs.YtldknpjeegdbmaaGreat

/- TreeDepth: the outer function of the program; the reference. -/
namespace Go.Proofs.YtldknpjeegdbmaaGreat
set_option maxRecDepth 100000
open Go Go.RowKit

def tdV (p : List Int) : Int := if spOk p = true then ((depthN 8 p : Nat) : Int) else -1
theorem tdV_ok {p : List Int} (h : spOk p = true) : tdV p = ((depthN 8 p : Nat) : Int) := by unfold tdV; rw [if_pos h]
theorem tdV_no {p : List Int} (h : spOk p = false) : tdV p = -1 := by unfold tdV; rw [h]; rfl
theorem spOk_true {p : List Int} (h : spOk p = true) : permB p = true ∧ p ≠ [] := by
  unfold spOk at h
  rw [Bool.and_eq_true] at h
  refine ⟨h.1, fun e => ?_⟩
  rw [e] at h
  exact absurd h.2 (by decide)
theorem spOk_of {p : List Int} (hp : permB p = true) (h0 : p ≠ []) : spOk p = true := (sp_good hp h0).2.2
theorem spOk_nil {p : List Int} (h : p.length = 0) : spOk p = false := by rw [List.eq_nil_of_length_eq_zero h]; rfl
theorem spOk_bad {p : List Int} (h : permB p = false) : spOk p = false := by unfold spOk; rw [h]; rfl
theorem treeDepth_impl (A : Option Addr) (c : Nat) (p : List Int) (w : World) (h : In w A c p) :
    Calls Tryz.prog 14 #[.slice A p.length c] w (Rb w (.int .i64 (tdV p))) := by
  rcases hp : permB p with _ | _
  · have HP := Lib.hid hp
    have HV := Lib.hid (tdV_no (spOk_bad hp))
    clear hp
    go_enter Tryz.func14, Tryz.ntmps14
    go_wp2_with fail
    (with_reducible refine (isPerm_ib A c p w false h HP.out).mono ?_)
    rintro e w1 ⟨rfl, hb⟩
    go_wp2_with fail
    go_ret
    exact ⟨by rw [HV.out]; rfl, hb⟩
  · have HP := Lib.hid hp
    by_cases hl : p.length = 0
    · have HV := Lib.hid (tdV_no (spOk_nil hl))
      have d0 : ((p.length : Int) == 0) = true := by rw [hl]; rfl
      clear hl hp
      go_enter Tryz.func14, Tryz.ntmps14
      go_wp2_with fail
      (with_reducible refine (isPerm_ib A c p w true h HP.out).mono ?_)
      rintro e w1 ⟨rfl, hb⟩
      go_wp2_with fail
      go_ret
      exact ⟨by rw [HV.out]; rfl, hb⟩
    · have hne : p ≠ [] := fun e => hl (by rw [e]; rfl)
      have HV := Lib.hid (tdV_ok (spOk_of hp hne))
      have h8 := (permB_true hp).1
      have d0 : ((p.length : Int) == 0) = false := by rw [beq_eq_false_iff_ne]; omega
      clear hl hp
      go_enter Tryz.func14, Tryz.ntmps14
      go_wp2_with fail
      (with_reducible refine (isPerm_ib A c p w true h HP.out).mono ?_)
      rintro e w1 ⟨rfl, hb⟩
      have HC := Lib.hid (treeDepth_rec 8 (by omega) A c p w1 (h.next hb) HP.out hne h8)
      clear hne
      go_wp2_with fail
      (with_reducible refine HC.out.mono ?_)
      rintro e w2 ⟨rfl, hb2⟩
      go_wp2_with fail
      go_ret
      exact ⟨by rw [HV.out]; rfl, hb.trans (hb2.mono hb.size)⟩
def btTo (f : Nat) (L : List (List Int)) (k : Nat) : Nat := if k = 0 then 0 else dpTo f L k + 1
theorem btTo_succ (f : Nat) (L : List (List Int)) (k : Nat) (h : k < L.length) : max ((btTo f L k : Nat) : Int) (1 + ((depthN f L[k] : Nat) : Int)) = ((btTo f L (k + 1) : Nat) : Int) := by
  have e := dpTo_succ f L k h
  unfold btTo
  rw [if_neg (by omega : ¬ k + 1 = 0), e]
  split
  · next h0 => subst h0; have : dpTo f L 0 = 0 := rfl; omega
  · omega
theorem btTo_le (f : Nat) (L : List (List Int)) (k : Nat) : btTo f L k ≤ f + 1 := by
  have := dpTo_le f L k
  unfold btTo; split <;> omega
set_option maxHeartbeats 2000000 in
theorem treeDepth_bad (A : Option Addr) (c : Nat) (p : List Int) (w : World) (h : In w A c p) (hp : spOk p = false) :
    Calls Tryz.prog 15 #[.slice A p.length c] w (Rb w (.int .i64 (-1))) := by
  have HS := Lib.hid (splitPerm_spec A c p w h)
  rw [hp] at HS
  clear hp
  go_enter Tryz.func15, Tryz.ntmps15
  go_wp2_with fail
  (with_reducible refine HS.out.mono ?_)
  rintro e w9 ⟨RA, rc, PA, pc, rs, rfl, hX, hO, hb⟩
  clear hX hO
  have hb2 := hb.alloc hb.size (Obj.cells #[Value.slice RA (spR p).length rc, Value.slice PA rs.length pc] 28)
  go_wp2_with fail
  go_ret
  exact ⟨rfl, hb2⟩
set_option maxHeartbeats 2000000 in
theorem treeDepth_srec (f : Nat) : f ≤ 8 → ∀ (A : Option Addr) (c : Nat) (p : List Int) (w : World), In w A c p → permB p = true → p ≠ [] → p.length ≤ f →
    Calls Tryz.prog 15 #[.slice A p.length c] w (Rb w (.int .i64 ((depthN f p : Nat) : Int))) := by
  induction f with
  | zero => intro _ A c p w h hp h0 hf; exact absurd (List.eq_nil_of_length_eq_zero (by omega)) h0
  | succ f ih =>
    intro hf8 A c p w h hp h0 hf
    have IH := Lib.hid (ih (by omega))
    clear ih
    have hl := len_pos h0
    obtain ⟨e1, e2, e3⟩ := sp_good hp h0
    have HS := Lib.hid (splitPerm_spec A c p w h)
    rw [e1, e2, e3] at HS
    clear e1 e2 e3
    have HP := Lib.hid (fun (rs : List Row) hX => @parts_size p rs hp h0 hX)
    have HQ := Lib.hid (fun (rs : List Row) (k : Nat) hX hk => @part_at p rs k hp h0 hX hk)
    have HN := Lib.hid (show (splitP p) ≠ [] from fun e => (parts_of hp h0).2.2.2 (List.eq_nil_of_length_eq_zero (by rw [← (parts_of hp h0).2.1, e]; rfl)))
    clear hp h0
    go_enter Tryz.func15, Tryz.ntmps15
    go_wp2_with fail
    (with_reducible refine HS.out.mono ?_)
    rintro e w9 ⟨RA, rc, PA, pc, rs, rfl, hX, hO, hb⟩
    obtain ⟨OB, hOB⟩ : ∃ o, o = Obj.cells #[Value.slice RA (splitR p).length rc, Value.slice PA rs.length pc] 28 := ⟨_, rfl⟩
    have hb9 := (Below.refl w9.heap.size w9).alloc (Nat.le_refl _) OB
    have hbW := Lib.hid (hb.trans (hb9.mono hb.size))
    have hin : InL (w9.alloc OB) PA pc rs := ((hO.sub (List.sublist_cons_self _ _)).read.toL (HP.out rs hX) (Nat.le_refl _)).next hb9
    have ob := obj_new w9 OB
    have hx9 : (w9.alloc OB).heap.size = w9.heap.size + 1 := by simp
    have HX := Lib.hid hX
    have hrl := hin.len
    have hrp : 0 < rs.length := by
      rcases Nat.eq_zero_or_pos rs.length with h | h
      · exact absurd (by rw [← hX, List.eq_nil_of_length_eq_zero h]; rfl) HN.out
      · exact h
    clear hX hO HS hb hb9
    subst hOB
    go_wp2_with fail
    go_loopw [5, 6] (fun m i wr => ∃ k : Nat, k ≤ rs.length ∧ i = .int .i64 k ∧ m = .int .i64 ((btTo f (splitP p) k : Nat) : Int) ∧ Hid (p.length = 1 → k = 0) ∧ Below (w9.heap.size + 1) (w9.alloc (Obj.cells #[Value.slice RA (splitR p).length rc, Value.slice PA rs.length pc] 28)) wr) (fun _ i _ => rs.length - (intOf i).toNat)
    case atStart => exact ⟨0, Nat.zero_le _, rfl, rfl, Lib.hid (fun _ => rfl), by rw [← hx9]; exact Below.refl _ _⟩
    case round =>
      obtain ⟨k, hk, rfl, rfl, HK, hb⟩ := hrel
      have hsz := hb.size
      simp only [World.size_alloc] at hsz
      have hb' : Below (w9.alloc (Obj.cells #[Value.slice RA (splitR p).length rc, Value.slice PA rs.length pc] 28)).heap.size (w9.alloc (Obj.cells #[Value.slice RA (splitR p).length rc, Value.slice PA rs.length pc] 28)) wr := by rw [hx9]; exact hb
      have hbx := hbW.out.trans (hb'.mono hbW.out.size)
      have ob2 := obj_below ob hb' (obj_lt ob)
      have g0 : wr.cell? ⟨w9.heap.size, 1, none⟩ = some (Value.slice PA rs.length pc) := (obj_cell ob2).trans rfl
      have i1 := hin.next hb'
      have hm8 := btTo_le f (splitP p) k
      by_cases h1 : p.length = 1
      · have HV := Lib.hid (depthN_one (f + 1) h1)
        have d1 : decide ((p.length : Int) > 1) = false := decide_eq_false (by omega)
        have hks : (splitP p).length = 1 := by unfold splitP; rw [if_pos h1]; rfl
        have hrs : rs.length = 1 := by rw [← hks, ← HX.out, List.length_map]
        obtain rfl := HK.out h1
        have hr1 : ((rs.length : Nat) : Int) = 1 := by omega
        clear hks hrs h1 HK
        go_wp2_with fail
        go_ret
        exact ⟨by rw [HV.out]; rfl, hbx⟩
      · have h2 : 2 ≤ p.length := by omega
        have d1 : decide ((p.length : Int) > 1) = true := decide_eq_true (by omega)
        rcases Nat.lt_or_ge k rs.length with hlt | hge
        · obtain ⟨hq, hq0, hql, hks, hqe⟩ := HQ.out rs k HX.out hlt
          have HM := Lib.hid (btTo_succ f (splitP p) k hks)
          rw [hqe] at HM
          obtain ⟨b', off, rfl, _, hc⟩ := i1.read.at (by omega)
          have g1 := hc k hlt
          have hrow := i1.row (List.getElem_mem hlt)
          have hql := hql h2
          obtain ⟨R, hR⟩ : ∃ R : Row, R = rs[k] := ⟨_, rfl⟩
          rw [← hR] at g1 hrow hq hq0 hql HM
          clear hc hR hqe
          obtain ⟨A1, c1, q⟩ := R
          replace g1 : wr.cell? ⟨b', off + k, none⟩ = some (Value.slice A1 q.length c1) := g1
          have hql : q.length < p.length := hql
          have HC := Lib.hid (IH.out A1 c1 q wr hrow hq hq0 (by omega))
          replace HM : Hid (max ((btTo f (splitP p) k : Nat) : Int) (1 + ((depthN f q : Nat) : Int)) = ((btTo f (splitP p) (k + 1) : Nat) : Int)) := HM
          have HT := Lib.hid (l1Max_b ((btTo f (splitP p) k : Nat) : Int) (1 + ((depthN f q : Nat) : Int)) _ · HM.out)
          have hd8 := depthN_le f q
          clear hq hq0 hks
          go_wp2_with fail
          (with_reducible refine HC.out.mono ?_)
          rintro e w2 ⟨rfl, hb2⟩
          go_wp2_with fail
          (with_reducible refine (HT.out w2).mono ?_)
          rintro e w3 ⟨rfl, rfl⟩
          go_wp2_with fail
          go_roundw
          case rel => exact ⟨k + 1, by omega, by go_num, rfl, Lib.hid (fun e => absurd e h1), hb.trans (hb2.mono (by omega))⟩
          case measure => simp [intOf]; omega
        · obtain rfl : k = rs.length := by omega
          have hke : rs.length = (splitP p).length := by rw [← HX.out, List.length_map]
          have HV := Lib.hid (show depthN (f + 1) p = btTo f (splitP p) rs.length by rw [depthN_many f h2, hke]; unfold btTo; rw [if_neg (by omega)])
          clear hke
          go_wp2_with fail
          go_ret
          exact ⟨by rw [HV.out]; rfl, hbx⟩
theorem treeDepth_spec (A : Option Addr) (c : Nat) (p : List Int) (w : World) (h : In w A c p) :
    Calls Tryz.prog 15 #[.slice A p.length c] w (Rb w (.int .i64 (tdV p))) := by
  rcases hp : spOk p with _ | _
  · rw [tdV_no hp]; exact treeDepth_bad A c p w h hp
  · rw [tdV_ok hp]
    obtain ⟨h1, h2⟩ := spOk_true hp
    exact treeDepth_srec 8 (by omega) A c p w h h1 h2 (permB_true h1).1
end Go.Proofs.YtldknpjeegdbmaaGreat

/- RootsIn of the program: roots, ordered. -/
namespace Go.Proofs.YtldknpjeegdbmaaGreat
set_option maxRecDepth 100000
open Go Go.RowKit

def rtTo (f : Nat) (r : List Int) (L : List (List Int)) (k : Nat) : List (List Int) := r :: (L.take k).flatMap (rootsN f)
theorem rtTo_succ (f : Nat) (r : List Int) (L : List (List Int)) (k : Nat) (h : k < L.length) : rtTo f r L (k + 1) = rtTo f r L k ++ rootsN f L[k] := by
  unfold rtTo; rw [List.take_succ_eq_append_getElem h, List.flatMap_append]; simp
theorem roots_few (f : Nat) {p : List Int} (h : p.length < 2) : rootsN f p = [] := by
  cases f with
  | zero => rfl
  | succ f => unfold rootsN; rw [if_pos h]
theorem roots_many (f : Nat) {p : List Int} (h : 2 ≤ p.length) : rootsN (f + 1) p = rtTo f (splitR p) (splitP p) (splitP p).length := by
  show (if p.length < 2 then [] else _) = _
  rw [if_neg (by omega)]
  unfold rtTo; rw [List.take_length]
/-- There are fewer roots than numbers, and each is short. -/
theorem roots_len (f : Nat) : ∀ p, permB p = true → (rootsN f p).length ≤ p.length - 1 ∧ ∀ r ∈ rootsN f p, r.length ≤ 8 := by
  induction f with
  | zero => intro p _; exact ⟨Nat.zero_le _, fun r hr => by cases hr⟩
  | succ f ih =>
    intro p hp
    by_cases h2 : p.length < 2
    · rw [roots_few _ h2]; exact ⟨Nat.zero_le _, fun r hr => by cases hr⟩
    have h0 : p ≠ [] := fun e => h2 (by rw [e]; decide)
    have hs := split_part hp (split_is hp h0)
    have hlr : 2 ≤ (splitP p).length := by
      rcases Nat.lt_or_ge (splitP p).length 2 with h | h
      · exfalso
        have hsum := hs.2.2.2.1
        rcases hL : splitP p with _ | ⟨a, _ | ⟨b, t⟩⟩
        · rw [hL] at hsum
          have hz : ([] : List Nat).sum = p.length := hsum
          rw [List.sum_nil] at hz; omega
        · rw [hL] at hsum
          have := (hs.1 a (by rw [hL]; simp)).2.2 (by omega)
          simp at hsum; omega
        · rw [hL] at h; simp only [List.length_cons] at h; omega
      · exact h
    rw [roots_many f (by omega)]
    unfold rtTo
    rw [List.take_length]
    have key : ∀ L : List (List Int), (∀ q ∈ L, permB q = true ∧ q ≠ []) → (L.flatMap (rootsN f)).length + L.length ≤ (L.map List.length).sum ∧ ∀ r ∈ L.flatMap (rootsN f), r.length ≤ 8 := by
      intro L
      induction L with
      | nil => intro _; exact ⟨by simp, fun r hr => by simp at hr⟩
      | cons a t iht =>
        intro hL
        have h1 := iht (fun q hq => hL q (by simp [hq]))
        have h2 := ih a (hL a (by simp)).1
        have h3 := len_pos (hL a (by simp)).2
        refine ⟨?_, fun r hr => ?_⟩
        · simp only [List.flatMap_cons, List.length_append, List.length_cons, List.map_cons, List.sum_cons]; omega
        · rw [List.flatMap_cons, List.mem_append] at hr
          rcases hr with hr | hr
          · exact h2.2 r hr
          · exact h1.2 r hr
    obtain ⟨k1, k2⟩ := key (splitP p) (fun q hq => ⟨(hs.1 q hq).1, (hs.1 q hq).2.1⟩)
    rw [hs.2.2.2.1] at k1
    refine ⟨by simp only [List.length_cons]; omega, fun r hr => ?_⟩
    rcases List.mem_cons.1 hr with rfl | hr
    · exact (permB_true hs.2.2.1).1
    · exact k2 r hr
/-- So many roots come of the first parts. -/
theorem rtTo_len {p : List Int} (f k : Nat) (hp : permB p = true) (h0 : p ≠ []) : (rtTo f (splitR p) (splitP p) k).length ≤ 65 ∧ ∀ r ∈ rtTo f (splitR p) (splitP p) k, r.length ≤ 8 := by
  have hs := parts_of hp h0
  have h8 := (permB_true hs.2.2.1).1
  have key : ∀ L : List (List Int), (∀ q ∈ L, permB q = true) → (L.flatMap (rootsN f)).length ≤ 8 * L.length ∧ ∀ r ∈ L.flatMap (rootsN f), r.length ≤ 8 := by
    intro L
    induction L with
    | nil => intro _; exact ⟨by simp, fun r hr => by simp at hr⟩
    | cons a t iht =>
      intro hL
      have h1 := iht (fun q hq => hL q (by simp [hq]))
      have h2 := roots_len f a (hL a (by simp))
      have h3 := (permB_true (hL a (by simp))).1
      refine ⟨?_, fun r hr => ?_⟩
      · simp only [List.flatMap_cons, List.length_append, List.length_cons]; omega
      · rw [List.flatMap_cons, List.mem_append] at hr
        rcases hr with hr | hr
        · exact h2.2 r hr
        · exact h1.2 r hr
  obtain ⟨k1, k2⟩ := key ((splitP p).take k) (fun q hq => (hs.1 q (List.mem_of_mem_take hq)).1)
  unfold rtTo
  have k3 : ((splitP p).take k).length ≤ (splitP p).length := by rw [List.length_take]; omega
  refine ⟨by simp only [List.length_cons]; omega, fun r hr => ?_⟩
  rcases List.mem_cons.1 hr with rfl | hr
  · exact h8
  · exact k2 r hr
/-- A list's rows that were made just now go behind the rows of another list. -/
theorem own_joinT {w w1 w2 : World} {lo : Nat} {prior ns : List Row} {A A3 : Option Addr} {c c3 n : Nat} {v : Value} (hlo : lo ≤ w.heap.size) (hO : Own w lo w.heap.size prior [⟨A, c, prior.map Row.v⟩]) (hN : Own w1 w.heap.size w1.heap.size ns [⟨A3, c3, ns.map Row.v⟩]) (hb : Below w.heap.size w w1)
    (hn : prior.length = n) (h1 : w2.ownsRow lo 24 1 v (n + ns.length) (prior.map Row.v ++ ns.map Row.v)) (hg : w1.grownBy w2 (Value.slice A n c).ownBlock) :
    ∃ A5 c5, v = .slice A5 (n + ns.length) c5 ∧ Own w2 lo w2.heap.size (prior ++ ns) [⟨A5, c5, (prior ++ ns).map Row.v⟩] := by
  subst hn
  obtain ⟨A5, c5, rfl, _, _⟩ := own_shape h1
  have hr : Own w1 lo w1.heap.size (prior ++ ns) [] := (hO.below hb).bare.app hN.bare hlo hb.size
  have h2 := (hr.with_ (A := A) (c := c) (vs := prior.map Row.v) (own_below hO.out hb) (Nat.le_refl _)).kept (Nat.le_refl _) (show (prior.map Row.v).length = prior.length by simp) hg
  refine ⟨A5, c5, rfl, h2.with_ (A := A5) (c := c5) ?_ (Nat.le_refl _)⟩
  have e : ((prior ++ ns).map Row.v).length = prior.length + ns.length := by simp
  rw [e, List.map_append]
  exact h1
theorem own_litV {w : World} {lo bl n c : Nat} {A : Option Addr} (h : w.heap[bl]? = some (Obj.cells #[.slice A n c] 24 (0, 0))) (hl : lo ≤ bl) : w.ownsRow lo 24 1 (.slice (some ⟨bl, 0, none⟩) 1 1) 1 [.slice A n c] :=
  ⟨rfl, .inr ⟨bl, 1, _, rfl, hl, h, Nat.le_refl _, by unfold maxLen; omega, rfl, rfl⟩⟩
set_option maxHeartbeats 2000000 in
theorem roots_rec (f : Nat) : f ≤ 8 → ∀ (A : Option Addr) (c : Nat) (p : List Int) (w : World), In w A c p → permB p = true → p.length ≤ f →
    Calls Tryz.prog 44 #[.slice A p.length c] w (RetL w (rootsN f p)) := by
  have few : ∀ (A : Option Addr) (c : Nat) (p : List Int) (w : World), In w A c p → p.length < 2 → Calls Tryz.prog 44 #[.slice A p.length c] w (RetL w []) := by
    intro A c p w h h2
    have d0 : decide ((p.length : Int) < 2) = true := decide_eq_true (by omega)
    go_enter Tryz.func44, Tryz.ntmps44
    go_wp2_with fail
    go_ret
    exact ⟨none, 0, [], rfl, rfl, Own.nil_list _ _ _, Below.refl _ _⟩
  induction f with
  | zero => intro _ A c p w h hp hf; rw [show rootsN 0 p = [] from rfl]; exact few A c p w h (by omega)
  | succ f ih =>
    intro hf8 A c p w h hp hf
    by_cases h2 : p.length < 2
    · rw [roots_few _ h2]; exact few A c p w h h2
    clear few
    obtain ⟨j0, hj, hy0, hy1, hy2⟩ := info_parts infoL
    have IH := Lib.hid (ih (by omega))
    clear ih
    have h2 : 2 ≤ p.length := by omega
    have h0 : p ≠ [] := fun e => by rw [e] at h2; simp at h2
    have d0 : decide ((p.length : Int) < 2) = false := decide_eq_false (by omega)
    have HV := Lib.hid (roots_many f h2)
    have HS := Lib.hid (split_impl A c p w h hp h0)
    have HP := Lib.hid (fun (rs : List Row) hX => @parts_size p rs hp h0 hX)
    have HQ := Lib.hid (fun (rs : List Row) (k : Nat) hX hk => @part_at p rs k hp h0 hX hk)
    have HL := Lib.hid (fun k => rtTo_len f k hp h0)
    have HN := Lib.hid (fun q hq => roots_len f q hq)
    clear hp h0
    obtain ⟨R, hR⟩ : ∃ R, R = splitR p := ⟨_, rfl⟩
    rw [← hR] at HV HS HL
    clear hR
    go_enter Tryz.func44, Tryz.ntmps44
    go_wp2_with fail
    (with_reducible refine HS.out.mono ?_)
    rintro e w9 ⟨RA, rc, PA, pc, rs, rfl, hX, hO, hb⟩
    obtain ⟨OB, hOB⟩ : ∃ o, o = Obj.cells #[Value.slice RA R.length rc, Value.slice PA rs.length pc] 28 := ⟨_, rfl⟩
    have ob := obj_new w9 OB
    have f0 : (w9.alloc OB).cell? ⟨w9.heap.size, 0, none⟩ = some (Value.slice RA R.length rc) := by subst hOB; exact (obj_cell ob).trans rfl
    obtain ⟨OC, hOC⟩ : ∃ o, o = Obj.cells #[Value.slice RA R.length rc] 24 := ⟨_, rfl⟩
    obtain ⟨wa, hwa⟩ : ∃ wa, wa = (w9.alloc OB).alloc OC := ⟨_, rfl⟩
    have hb9 : Below w9.heap.size w9 wa := by rw [hwa]; exact ((Below.refl w9.heap.size w9).alloc (Nat.le_refl _) OB).alloc (by simp) OC
    have hxa : wa.heap.size = w9.heap.size + 2 := by rw [hwa]; simp
    have oba : wa.heap[w9.heap.size]? = some OB := by rw [hwa]; exact obj_alloc ob OC
    have onew : wa.heap[w9.heap.size + 1]? = some OC := by rw [hwa]; have := obj_new (w9.alloc OB) OC; simpa using this
    have own0 : wa.ownsRow (w9.heap.size + 1) 24 1 (.slice (some ⟨w9.heap.size + 1, 0, none⟩) 1 1) 1 [.slice RA R.length rc] := own_litV (by rw [onew, hOC]) (Nat.le_refl _)
    have hO0 : Own wa w.heap.size wa.heap.size [(⟨RA, rc, R⟩ : Row)] [⟨some ⟨w9.heap.size + 1, 0, none⟩, 1, [(⟨RA, rc, R⟩ : Row)].map Row.v⟩] := by
      have h1 : Own wa w.heap.size wa.heap.size [(⟨RA, rc, R⟩ : Row)] [] := (((hO.sub (List.Sublist.cons_cons _ (List.nil_sublist rs))).bare).below hb9).wider (Nat.le_refl _) hb9.size
      exact h1.with_ (own_mono own0 (by have := hb.size; omega)) (Nat.le_refl _)
    have hin : InL w9 PA pc rs := (hO.sub (List.sublist_cons_self _ _)).read.toL (HP.out rs hX) (Nat.le_refl _)
    have HB9 := Lib.hid hb9
    have hbW := Lib.hid (hb.trans (hb9.mono hb.size))
    have HX := Lib.hid hX
    have hrl := hin.len
    have hws : w.heap.size ≤ w9.heap.size := hb.size
    rw [hOB] at oba
    have hwa2 := hwa.symm
    clear hX hO HS hb hb9 onew hwa
    subst hOB hOC
    have e5 : wa.cell? ⟨w9.heap.size, 1, none⟩ = some (Value.slice PA rs.length pc) := (obj_cell oba).trans rfl
    go_wp2_with fail
    go_loopw [4, 18] (fun v i wr => ∃ (k : Nat) (A1 : Option Addr) (c1 : Nat) (ds : List Row), k ≤ rs.length ∧ i = .int .i64 k ∧ v = .slice A1 ds.length c1 ∧ Hid (ds.map Row.xs = rtTo f R (splitP p) k) ∧ wr.ownsRow (w9.heap.size + 1) 24 1 (.slice A1 ds.length c1) ds.length (ds.map Row.v) ∧ Own wr w.heap.size wr.heap.size ds [⟨A1, c1, ds.map Row.v⟩] ∧ Below (w9.heap.size + 1) wa wr) (fun _ i _ => rs.length - (intOf i).toNat)
    case atStart => exact ⟨0, _, _, [(⟨RA, rc, R⟩ : Row)], Nat.zero_le _, rfl, rfl, Lib.hid rfl, own0, hO0, Below.refl _ _⟩
    case round =>
      clear own0 hO0
      obtain ⟨k, A1, c1, ds, hk, rfl, rfl, HD, own1, hO1, hb⟩ := hrel
      have hb9r := HB9.out.trans (hb.mono (Nat.le_succ _))
      have hsz := hb.size
      have hbx := hbW.out.trans (hb.mono (by omega))
      have hdl : ds.length ≤ 65 := by have h1 := congrArg List.length HD.out; have := (HL.out k).1; rw [List.length_map] at h1; omega
      rcases Nat.lt_or_ge k rs.length with hlt | hge
      · have i1 := hin.next hb9r
        obtain ⟨hq, hq0, hql, hks, hqe⟩ := HQ.out rs k HX.out hlt
        have HM := Lib.hid (rtTo_succ f R (splitP p) k hks)
        rw [hqe] at HM
        obtain ⟨b', off, rfl, _, hc⟩ := i1.read.at (by omega)
        have g1 := hc k hlt
        have hrow := i1.row (List.getElem_mem hlt)
        have hql := hql h2
        obtain ⟨R0, hR⟩ : ∃ R : Row, R = rs[k] := ⟨_, rfl⟩
        rw [← hR] at g1 hrow hq hq0 hql HM
        clear hc hR hqe
        obtain ⟨A2, c2, q⟩ := R0
        replace g1 : wr.cell? ⟨b', off + k, none⟩ = some (Value.slice A2 q.length c2) := g1
        replace HM : Hid (rtTo f R (splitP p) (k + 1) = rtTo f R (splitP p) k ++ rootsN f q) := HM
        have hql : q.length < p.length := hql
        have HC := Lib.hid (IH.out A2 c2 q wr hrow hq (by omega))
        have hq8 := (permB_true hq).1
        have HR := Lib.hid (HN.out q hq)
        clear hq hq0 hks hrow
        go_wp2_with fail
        (with_reducible refine HC.out.mono ?_)
        rintro e w3 ⟨A3, c3, xs, rfl, hX3, hO3, hb3⟩
        have hxl : xs.length ≤ 8 := by have h1 := congrArg List.length hX3; have h2 := HR.out.1; rw [List.length_map] at h1; omega
        have own3 := own_below own1 hb3
        have hx3 := read_rows hO3.read
        have hs3 := hb3.size
        have hb9s : w9.heap.size + 1 ≤ w3.heap.size := by omega
        go_wp2_with (at_builtin; refine wpList_append_rd _ rfl _ _ 26 rfl (w9.heap.size + 1) 24 j0 (.slice none 0 0) 24 Tryz.underlying26 hj hy0 hy1 hy2 rfl _ _ _ rfl own3 _ _ _ _ (xs) rfl rfl hx3 (fun _ => rfl) (by unfold maxLen; omega) (by omega) (by first | omega | (simp; done) | (simp; omega)) ?_; intro v1 w1 hown1 hgrow1)
        obtain ⟨A5, c5, rfl, hO5⟩ := own_joinT (by omega) hO1 hO3 hb3 rfl (own_mono hown1 (by omega)) hgrow1
        have hb5 := (hb.trans (hb3.mono (by omega))).grown hgrow1 (by omega) (fun g hg => (own3.lt g hg).1)
        have HX5 := Lib.hid (show (ds ++ xs).map Row.xs = rtTo f R (splitP p) (k + 1) by rw [HM.out, List.map_append, HD.out, hX3])
        have own5 : w1.ownsRow (w9.heap.size + 1) 24 1 (.slice A5 (ds ++ xs).length c5) (ds ++ xs).length ((ds ++ xs).map Row.v) := by rw [List.length_append, List.map_append]; exact hown1
        have K := Lib.hid (And.intro own5 (And.intro hO5 hb5))
        clear hown1 hgrow1 own3 hx3 hO3 hb3 hX3 hO5 hb5 own5 own1 hO1 hb hb9r hbx
        go_wp2_with fail
        go_roundw
        case rel => exact ⟨k + 1, A5, c5, ds ++ xs, by omega, by go_num, by rw [List.length_append], HX5, K.out.1, K.out.2.1, K.out.2.2⟩
        case measure => simp [intOf]; omega
      · obtain rfl : k = rs.length := by omega
        have hke : rs.length = (splitP p).length := by rw [← HX.out, List.length_map]
        have HV2 := Lib.hid (show ds.map Row.xs = rootsN (f + 1) p by rw [HV.out, ← hke, HD.out])
        clear hke
        go_wp2_with fail
        go_ret
        exact ⟨A1, c1, ds, rfl, HV2.out, hO1, hbx⟩
end Go.Proofs.YtldknpjeegdbmaaGreat

/- RootsIn: the outer function of the program; the reference. -/
namespace Go.Proofs.YtldknpjeegdbmaaGreat
set_option maxRecDepth 100000
open Go Go.RowKit

def rtX (p : List Int) : List (List Int) := if permB p = true then ordL (rootsN 8 p) else []
theorem rtX_ok {p : List Int} (h : permB p = true) : rtX p = ordL (rootsN 8 p) := by unfold rtX; rw [if_pos h]
theorem rtX_no {p : List Int} (h : permB p = false) : rtX p = [] := by unfold rtX; rw [h]; rfl
theorem roots_size {p : List Int} {rs : List Row} (hp : permB p = true) (hX : rs.map Row.xs = rootsN 8 p) : rs.length + sizeR rs ≤ 1048576 :=
  rows_bound (n := 8) (m := 8) hX (by have h1 := (roots_len 8 p hp).1; have h2 := (permB_true hp).1; omega) (fun q hq => (roots_len 8 p hp).2 q hq) (by omega)
theorem rootsIn_impl (A : Option Addr) (c : Nat) (p : List Int) (w : World) (h : In w A c p) :
    Calls Tryz.prog 17 #[.slice A p.length c] w (RetL w (rtX p)) := by
  rcases hp : permB p with _ | _
  · have HP := Lib.hid hp
    have HV := Lib.hid (rtX_no hp)
    clear hp
    go_enter Tryz.func17, Tryz.ntmps17
    go_wp2_with fail
    (with_reducible refine (isPerm_ib A c p w false h HP.out).mono ?_)
    rintro e w1 ⟨rfl, hb⟩
    go_wp2_with fail
    go_ret
    rw [HV.out]
    exact ⟨none, 0, [], rfl, rfl, Own.nil_list _ _ _, hb⟩
  · have HP := Lib.hid hp
    by_cases hl : p.length = 0
    · have HV := Lib.hid (show rtX p = [] by rw [rtX_ok hp, roots_few 8 (by omega)]; rfl)
      have d0 : ((p.length : Int) == 0) = true := by rw [hl]; rfl
      clear hl hp
      go_enter Tryz.func17, Tryz.ntmps17
      go_wp2_with fail
      (with_reducible refine (isPerm_ib A c p w true h HP.out).mono ?_)
      rintro e w1 ⟨rfl, hb⟩
      go_wp2_with fail
      go_ret
      rw [HV.out]
      exact ⟨none, 0, [], rfl, rfl, Own.nil_list _ _ _, hb⟩
    · have HV := Lib.hid (rtX_ok hp)
      have h8 := (permB_true hp).1
      have d0 : ((p.length : Int) == 0) = false := by rw [beq_eq_false_iff_ne]; omega
      clear hl hp
      go_enter Tryz.func17, Tryz.ntmps17
      go_wp2_with fail
      (with_reducible refine (isPerm_ib A c p w true h HP.out).mono ?_)
      rintro e w1 ⟨rfl, hb⟩
      have HC := Lib.hid (roots_rec 8 (by omega) A c p w1 (h.next hb) HP.out h8)
      go_wp2_with fail
      (with_reducible refine HC.out.mono ?_)
      rintro e w2 ⟨A2, c2, rs, rfl, hX, hO, hb2⟩
      have hbw := hb.trans (hb2.mono hb.size)
      have HD := Lib.hid (ordered_impl A2 c2 rs w2 (hO.read.toL (roots_size HP.out hX) (Nat.le_refl _)))
      rw [hX] at HD
      clear hX hO hb2 hb HC
      go_wp2_with fail
      (with_reducible refine HD.out.mono ?_)
      rintro e w3 ⟨A3, c3, ks, rfl, hX3, hO3, hb3⟩
      have hOz := hO3.wider hbw.size (Nat.le_refl _)
      have hbz := hbw.trans (hb3.mono hbw.size)
      clear hO3 hb3
      go_wp2_with fail
      go_ret
      rw [HV.out]
      exact ⟨A3, c3, ks, rfl, hX3, hOz, hbz⟩
def putTo (f : Nat) (Y : List (List Int)) (r : List Int) (L : List (List Int)) (k : Nat) : List (List Int) := (rtTo f r L k).foldl putL Y
theorem putTo_succ (f : Nat) (Y : List (List Int)) (r : List Int) (L : List (List Int)) (k : Nat) (h : k < L.length) : putTo f Y r L (k + 1) = (rootsN f L[k]).foldl putL (putTo f Y r L k) := by
  unfold putTo; rw [rtTo_succ _ _ _ _ h, List.foldl_append]
theorem putTo_zero (f : Nat) (Y : List (List Int)) (r : List Int) (L : List (List Int)) : putTo f Y r L 0 = putL Y r := rfl
theorem foldl_put_len (X : List (List Int)) : ∀ Y : List (List Int), (X.foldl putL Y).length ≤ Y.length + X.length := by
  induction X with
  | nil => intro Y; exact Nat.le_refl _
  | cons a t ih =>
    intro Y
    have h1 := ih (putL Y a)
    have h2 := putL_len Y a
    simp only [List.foldl_cons, List.length_cons] at h1 ⊢
    omega
theorem foldl_put_mem (X : List (List Int)) : ∀ Y : List (List Int), ∀ q ∈ X.foldl putL Y, q ∈ X ∨ q ∈ Y := by
  induction X with
  | nil => intro Y q hq; exact .inr hq
  | cons a t ih =>
    intro Y q hq
    rcases ih _ q hq with h | h
    · exact .inl (by simp [h])
    · rcases (putL_mem Y a q).1 h with rfl | h
      · exact .inl (by simp)
      · exact .inr h
theorem put_facts {es ds : List Row} {f k : Nat} {R : List Int} {L : List (List Int)} (hE : es.map Row.xs = putTo f (ds.map Row.xs) R L k) (hL : (rtTo f R L k).length ≤ 65 ∧ ∀ r ∈ rtTo f R L k, r.length ≤ 8) (hd : ∀ r ∈ ds, r.xs.length ≤ 8) :
    es.length ≤ ds.length + 65 ∧ ∀ r ∈ es, r.xs.length ≤ 8 := by
  refine ⟨?_, fun r hr => ?_⟩
  · have h1 := congrArg List.length hE
    have h2 := foldl_put_len (rtTo f R L k) (ds.map Row.xs)
    unfold putTo at h1
    rw [List.length_map] at h1 h2
    omega
  · have hm : r.xs ∈ es.map Row.xs := List.mem_map.2 ⟨r, hr, rfl⟩
    rw [hE] at hm
    rcases foldl_put_mem _ _ _ hm with h | h
    · exact hL.2 _ h
    · obtain ⟨r', h1, h2⟩ := List.mem_map.1 h
      rw [← h2]; exact hd r' h1
theorem grown_more {w w' w'' : World} {row row' : Option Nat} (h : w.grownBy w' row) (k : w'.grownBy w'' row') (hr : ∀ g, row' = some g → row = some g ∨ w.heap.size ≤ g) : w.grownBy w'' row :=
  ⟨k.os.trans h.os, k.tape.trans h.tape, k.output.trans h.output, Nat.le_trans h.size k.size, fun i hi hne => (k.block i (Nat.lt_of_lt_of_le hi h.size) (fun e => by
    rcases hr i e.symm with e2 | e2
    · exact hne e2.symm
    · omega)).trans (h.block i hi hne)⟩
set_option maxHeartbeats 2000000 in
theorem l6Roots_rec (f : Nat) : f ≤ 8 → ∀ (A B : Option Addr) (c d lo : Nat) (p : List Int) (ds : List Row) (w : World), In w A c p → permB p = true → p.length ≤ f →
    Own w lo w.heap.size ds [⟨B, d, ds.map Row.v⟩] → lo ≤ w.heap.size → ds.length ≤ 1000000 - 1000 * f → (∀ r ∈ ds, r.xs.length ≤ 8) →
    Calls Tryz.prog 45 #[.slice A p.length c, .slice B ds.length d] w (RetPA w lo B ((rootsN f p).foldl putL (ds.map Row.xs))) := by
  have few : ∀ (A B : Option Addr) (c d lo : Nat) (p : List Int) (ds : List Row) (w : World), In w A c p → p.length < 2 → Own w lo w.heap.size ds [⟨B, d, ds.map Row.v⟩] →
      Calls Tryz.prog 45 #[.slice A p.length c, .slice B ds.length d] w (RetPA w lo B (ds.map Row.xs)) := by
    intro A B c d lo p ds w h h2 hO
    have d0 : decide ((p.length : Int) < 2) = true := decide_eq_true (by omega)
    go_enter Tryz.func45, Tryz.ntmps45
    go_wp2_with fail
    go_ret
    exact ⟨B, d, ds, rfl, rfl, hO, below_grown (Below.refl _ _), fun g hg => .inl hg⟩
  induction f with
  | zero => intro _ A B c d lo p ds w h hp hf hO hlo hn hr8; rw [show rootsN 0 p = [] from rfl]; exact few A B c d lo p ds w h (by omega) hO
  | succ f ih =>
    intro hf8 A B c d lo p ds w h hp hf hO hlo hn hr8
    by_cases h2 : p.length < 2
    · rw [roots_few _ h2]; exact few A B c d lo p ds w h h2 hO
    clear few
    have IH := Lib.hid (ih (by omega))
    clear ih
    have h2 : 2 ≤ p.length := by omega
    have h0 : p ≠ [] := fun e => by rw [e] at h2; simp at h2
    have d0 : decide ((p.length : Int) < 2) = false := decide_eq_false (by omega)
    have HV := Lib.hid (roots_many f h2)
    have HS := Lib.hid (l6Split_spec A c p w h hp h0)
    have HP := Lib.hid (fun (rs : List Row) hX => @parts_size p rs hp h0 hX)
    have HQ := Lib.hid (fun (rs : List Row) (k : Nat) hX hk => @part_at p rs k hp h0 hX hk)
    have HL := Lib.hid (fun k => rtTo_len f k hp h0)
    have HN := Lib.hid (fun q hq => roots_len f q hq)
    have HR8 := Lib.hid hr8
    clear hp h0 hr8
    obtain ⟨R, hR⟩ : ∃ R, R = splitR p := ⟨_, rfl⟩
    rw [← hR] at HV HS HL
    clear hR
    go_enter Tryz.func45, Tryz.ntmps45
    go_wp2_with fail
    (with_reducible refine HS.out.mono ?_)
    rintro e w9 ⟨RA, rc, PA, pc, rs, rfl, hX, hOr, hb⟩
    obtain ⟨OB, hOB⟩ : ∃ o, o = Obj.cells #[Value.slice RA R.length rc, Value.slice PA rs.length pc] 28 := ⟨_, rfl⟩
    have hb9 : Below w9.heap.size w9 (w9.alloc OB) := (Below.refl w9.heap.size w9).alloc (Nat.le_refl _) OB
    have ob := obj_new w9 OB
    have f0 : (w9.alloc OB).cell? ⟨w9.heap.size, 0, none⟩ = some (Value.slice RA R.length rc) := by subst hOB; exact (obj_cell ob).trans rfl
    have hx9 : (w9.alloc OB).heap.size = w9.heap.size + 1 := by simp
    have hOr := (hOr.below hb9).wider (Nat.le_refl _) hb9.size
    have hbA := hb.trans (hb9.mono hb.size)
    have hO0 := (hO.below hbA).wider (Nat.le_refl _) hbA.size
    have hRl := (HL.out 0).2 R (by unfold rtTo; simp)
    have hrd : In (w9.alloc OB) RA rc R := (hOr.read (hi := (w9.alloc OB).heap.size)).mem (r := ⟨RA, rc, R⟩) (by simp) (by show R.length ≤ 1048576; omega) (Nat.le_refl _)
    have hBl : ∀ g, (Value.slice B 0 0).ownBlock = some g → g < w.heap.size := fun g hg => by
      rw [ownBlock_len B 0 ds.length 0 d] at hg
      exact (hO.olim (n := ds.length) (by simp) g hg).2
    have HBL := Lib.hid hBl
    have HX := Lib.hid hX
    have hrl := HP.out rs hX
    have hws := hb.size
    have HT := Lib.hid (l3PutA_any B RA d rc lo ds R (w9.alloc OB) hO0 (by have := hbA.size; omega) hrd (by omega) (fun r hr => by have := HR8.out r hr; omega))
    have HOR := Lib.hid hOr
    have HBA := Lib.hid hbA
    have obw : (w9.alloc OB).heap[w9.heap.size]? = some (Obj.cells #[Value.slice RA R.length rc, Value.slice PA rs.length pc] 28) := ob.trans (by rw [hOB])
    obtain ⟨wa, hwa⟩ : ∃ wa, wa = w9.alloc OB := ⟨_, rfl⟩
    rw [← hwa] at obw f0 hx9 HT HOR HBA
    have HWA := Lib.hid hwa
    clear ob hO hX HS hb hb9 hO0 hOr hbA hrd hBl hRl
    subst hOB
    have hwa2 := hwa.symm
    clear hwa
    go_wp2_with fail
    (with_reducible refine HT.out.mono ?_)
    rintro e w1 ⟨A1, c1, es, rfl, hE1, hO1, hg1, hf1⟩
    clear HT f0
    go_wp2_with fail
    go_loopw [1, 6] (fun v i wr => ∃ (k : Nat) (A1 : Option Addr) (c1 : Nat) (es : List Row), k ≤ rs.length ∧ i = .int .i64 k ∧ v = .slice A1 es.length c1 ∧ Hid (es.map Row.xs = putTo f (ds.map Row.xs) R (splitP p) k) ∧ Own wr lo wr.heap.size es [⟨A1, c1, es.map Row.v⟩] ∧ wa.grownBy wr (Value.slice B 0 0).ownBlock ∧ Hid (∀ g, (Value.slice A1 0 0).ownBlock = some g → (Value.slice B 0 0).ownBlock = some g ∨ wa.heap.size ≤ g)) (fun _ i _ => rs.length - (intOf i).toNat)
    case atStart => exact ⟨0, A1, c1, es, Nat.zero_le _, rfl, rfl, Lib.hid hE1, hO1, hg1, Lib.hid hf1⟩
    case round =>
      clear hE1 hO1 hg1 hf1
      obtain ⟨k, A1, c1, es, hk, rfl, rfl, HE, hO1, hg1, HF⟩ := hrel
      have hsz := hg1.size
      obtain ⟨hel, he8⟩ := put_facts HE.out (HL.out k) HR8.out
      have HE8 := Lib.hid he8
      clear he8
      have hOr := HOR.out.by_ hg1 (fun g hg => .inl (HBL.out g hg))
      have obr := (hg1.block _ (obj_lt obw) (fun e => by have hlt : w9.heap.size < w.heap.size := HBL.out w9.heap.size e.symm; omega)).trans obw
      have g5 : wr.cell? ⟨w9.heap.size, 1, none⟩ = some (Value.slice PA rs.length pc) := (obj_cell obr).trans rfl
      have hws1 : w.heap.size ≤ wr.heap.size := by omega
      rcases Nat.lt_or_ge k rs.length with hlt | hge
      · have i1 : InL wr PA pc rs := (hOr.sub (List.sublist_cons_self _ _)).read.toL hrl hsz
        obtain ⟨hq, hq0, hql, hks, hqe⟩ := HQ.out rs k HX.out hlt
        have HM := Lib.hid (putTo_succ f (ds.map Row.xs) R (splitP p) k hks)
        rw [hqe] at HM
        obtain ⟨b', off, rfl, _, hc⟩ := i1.read.at (by omega)
        have g1 := hc k hlt
        have hrow := i1.row (List.getElem_mem hlt)
        have hql := hql h2
        obtain ⟨R0, hR⟩ : ∃ R : Row, R = rs[k] := ⟨_, rfl⟩
        rw [← hR] at g1 hrow hq hq0 hql HM
        clear hc hR hqe
        obtain ⟨A2, c2, q⟩ := R0
        replace g1 : wr.cell? ⟨b', off + k, none⟩ = some (Value.slice A2 q.length c2) := g1
        replace HM : Hid (putTo f (ds.map Row.xs) R (splitP p) (k + 1) = (rootsN f q).foldl putL (putTo f (ds.map Row.xs) R (splitP p) k)) := HM
        have hql : q.length < p.length := hql
        have HC := Lib.hid (IH.out A2 A1 c2 c1 lo q es wr hrow hq (by omega) hO1 (by omega) (by omega) HE8.out)
        have hq8 := (permB_true hq).1
        have HG1 := Lib.hid hg1
        clear hq hq0 hks hrow hO1 hOr obr hg1 i1
        go_wp2_with fail
        (with_reducible refine HC.out.mono ?_)
        rintro e w3 ⟨A3, c3, gs, rfl, hX3, hO3, hg3, hf3⟩
        have hgz := grown_more HG1.out hg3 HF.out
        have HX5 := Lib.hid (show gs.map Row.xs = putTo f (ds.map Row.xs) R (splitP p) (k + 1) by rw [HM.out, ← HE.out, hX3])
        have HF3 := Lib.hid (show ∀ g, (Value.slice A3 0 0).ownBlock = some g → (Value.slice B 0 0).ownBlock = some g ∨ wa.heap.size ≤ g from fun g hg => by
          rcases hf3 g hg with h | h
          · exact HF.out g h
          · right; omega)
        have K := Lib.hid (And.intro hO3 hgz)
        clear hX3 hO3 hg3 hf3 hgz
        go_wp2_with fail
        go_roundw
        case rel => exact ⟨k + 1, A3, c3, gs, by omega, by go_num, rfl, HX5, K.out.1, K.out.2, HF3⟩
        case measure => simp [intOf]; omega
      · obtain rfl : k = rs.length := by omega
        have hke : rs.length = (splitP p).length := by rw [← HX.out, List.length_map]
        have HV2 := Lib.hid (show es.map Row.xs = (rootsN (f + 1) p).foldl putL (ds.map Row.xs) by rw [HV.out, ← hke, HE.out]; rfl)
        have K := Lib.hid (And.intro hO1 (And.intro (grown_trans (below_grown HBA.out) hg1) (show ∀ g, (Value.slice A1 0 0).ownBlock = some g → (Value.slice B 0 0).ownBlock = some g ∨ w.heap.size ≤ g from fun g hg => by
          rcases HF.out g hg with h | h
          · exact .inl h
          · right; have := HBA.out.size; omega)))
        clear hke hO1 hg1
        go_wp2_with fail
        go_ret
        exact ⟨A1, c1, es, rfl, HV2.out, K.out.1, K.out.2.1, K.out.2.2⟩
theorem rootsIn_spec (A : Option Addr) (c : Nat) (p : List Int) (w : World) (h : In w A c p) :
    Calls Tryz.prog 18 #[.slice A p.length c] w (RetL w (rtX p)) := by
  rcases hp : permB p with _ | _
  · have HP := Lib.hid hp
    have HV := Lib.hid (rtX_no hp)
    clear hp
    go_enter Tryz.func18, Tryz.ntmps18
    go_wp2_with fail
    (with_reducible refine (isPerm_sb A c p w false h HP.out).mono ?_)
    rintro e w1 ⟨rfl, hd⟩
    have hb := below_dr (Below.refl w.heap.size w) hd
    have hO := (Own.lit (lo := w.heap.size) w1 hb.size)
    have hb2 := hb.alloc hb.size (.cells #[] 24)
    go_wp2_with fail
    go_ret
    rw [HV.out]
    exact ⟨_, 0, [], rfl, rfl, hO, hb2⟩
  · have HP := Lib.hid hp
    have HV := Lib.hid (rtX_ok hp)
    have h8 := (permB_true hp).1
    clear hp
    go_enter Tryz.func18, Tryz.ntmps18
    go_wp2_with fail
    (with_reducible refine (isPerm_sb A c p w true h HP.out).mono ?_)
    rintro e w1 ⟨rfl, hd⟩
    have hb := below_dr (Below.refl w.heap.size w) hd
    have hO := (Own.lit (lo := w1.heap.size) w1 (Nat.le_refl _))
    have hb2 := hb.alloc hb.size (.cells #[] 24)
    have HC0 := (l6Roots_rec 8 (by omega) A (some ⟨w1.heap.size, 0, none⟩) c 0 w1.heap.size p [] (w1.alloc (.cells #[] 24)) (h.next hb2) HP.out h8 hO (by simp) (by simp) (fun r hr => by cases hr))
    rw [List.length_nil] at HC0
    have HC := Lib.hid HC0
    clear HC0
    have hsz := hb.size
    have hsz2 : (w1.alloc (.cells #[] 24)).heap.size = w1.heap.size + 1 := by simp
    have HB2 := Lib.hid hb2
    clear hO hb2 hd
    go_wp2_with fail
    (with_reducible refine HC.out.mono ?_)
    rintro e w3 ⟨A3, c3, ks, rfl, hX3, hO3, hg3, _⟩
    have hOz := hO3.wider hsz (Nat.le_refl _)
    have hbz := HB2.out.grown hg3 (by omega) (fun g hg => by have hg : some w1.heap.size = some g := hg; injection hg with hg; omega)
    clear hO3 hg3
    go_wp2_with fail
    go_ret
    rw [HV.out]
    exact ⟨A3, c3, ks, rfl, hX3, hOz, hbz⟩
end Go.Proofs.YtldknpjeegdbmaaGreat

/- IsSeparable, program and reference. -/
namespace Go.Proofs.YtldknpjeegdbmaaGreat
set_option maxRecDepth 100000
open Go Go.RowKit

theorem sepB_no {p : List Int} (h : permB p = false) : sepB p = false := by unfold sepB; rw [h]; rfl
theorem sepB_ok {p : List Int} (h : permB p = true) : sepB p = (rootsN 8 p).all fun r => decide (r.length ≤ 2) := by unfold sepB; rw [h]; rfl
theorem any_long (X : List (List Int)) : (!X.any fun r => decide (2 < r.length)) = X.all fun r => decide (r.length ≤ 2) := by
  induction X with
  | nil => rfl
  | cons a t ih =>
    rw [List.any_cons, List.all_cons, ← ih, Bool.not_or]
    congr 1
    by_cases h : 2 < a.length
    · rw [decide_eq_true h, decide_eq_false (by omega)]; rfl
    · rw [decide_eq_false h, decide_eq_true (by omega)]; rfl
theorem call_sep1 (args : Array Value) (w : World) : (callFunc 47 args).run Tryz.prog w = .ok (.enter 47 args) w := by kernel_rfl
theorem sep_cl (A : Option Addr) (c : Nat) (r : List Int) (w : World) : Calls Tryz.prog 47 #[.slice A r.length c] w (Rb w (.bool (decide (2 < r.length)))) := by
  rcases hb : decide (2 < r.length) with _ | _
  · have d0 : decide ((r.length : Int) > 2) = false := decide_eq_false (by have := of_decide_eq_false hb; omega)
    clear hb
    go_enter Tryz.func47, Tryz.ntmps47
    go_wp2_with fail
    go_ret
    exact ⟨rfl, Below.refl _ _⟩
  · have d0 : decide ((r.length : Int) > 2) = true := decide_eq_true (by have := of_decide_eq_true hb; omega)
    clear hb
    go_enter Tryz.func47, Tryz.ntmps47
    go_wp2_with fail
    go_ret
    exact ⟨rfl, Below.refl _ _⟩
set_option maxHeartbeats 1000000 in
theorem isSeparable_impl (A : Option Addr) (c : Nat) (p : List Int) (w : World) (h : In w A c p) :
    Calls Tryz.prog 19 #[.slice A p.length c] w (Rb w (.bool (sepB p))) := by
  rcases hp : permB p with _ | _
  · have HP := Lib.hid hp
    have HV := Lib.hid (sepB_no hp)
    clear hp
    go_enter Tryz.func19, Tryz.ntmps19
    go_wp2_with fail
    (with_reducible refine (isPerm_ib A c p w false h HP.out).mono ?_)
    rintro e w1 ⟨rfl, hb⟩
    go_wp2_with fail
    go_ret
    exact ⟨by rw [HV.out]; rfl, hb⟩
  · have HP := Lib.hid hp
    have HV := Lib.hid (sepB_ok hp)
    have h8 := (permB_true hp).1
    clear hp
    go_enter Tryz.func19, Tryz.ntmps19
    go_wp2_with fail
    (with_reducible refine (isPerm_ib A c p w true h HP.out).mono ?_)
    rintro e w1 ⟨rfl, hb⟩
    have HC := Lib.hid (roots_rec 8 (by omega) A c p w1 (h.next hb) HP.out h8)
    go_wp2_with fail
    (with_reducible refine HC.out.mono ?_)
    rintro e w2 ⟨A2, c2, rs, rfl, hX, hO, hb2⟩
    have hbw := hb.trans (hb2.mono hb.size)
    have hin := hO.read.toL (roots_size HP.out hX) (Nat.le_refl _)
    have HV2 := Lib.hid (show sepB p = !(rs.any fun r : Row => decide (2 < r.xs.length)) by
      rw [HV.out, ← any_long, ← hX, List.any_map]; rfl)
    have HR := Lib.hid (fun b hb' => containsFuncL0 A2 c2 rs 47 (fun r => decide (2 < r.length)) w2 (by have := hin.len; omega) hin.read (call_sep1 · ·) (fun w' k hk _ => sep_cl _ _ _ w') b hb')
    clear hX hO hb2 hb HC hin
    rcases ha : rs.any (fun r : Row => decide (2 < r.xs.length)) with _ | _
    · have HV3 := Lib.hid (show sepB p = true by rw [HV2.out, ha]; rfl)
      have HC := Lib.hid (HR.out false ha)
      clear ha
      go_wp2_with fail
      (with_reducible refine HC.out.mono ?_)
      rintro e w3 ⟨rfl, hb3⟩
      go_wp2_with fail
      go_ret
      exact ⟨by rw [HV3.out]; rfl, hbw.trans (hb3.mono hbw.size)⟩
    · have HV3 := Lib.hid (show sepB p = false by rw [HV2.out, ha]; rfl)
      have HC := Lib.hid (HR.out true ha)
      clear ha
      go_wp2_with fail
      (with_reducible refine HC.out.mono ?_)
      rintro e w3 ⟨rfl, hb3⟩
      go_wp2_with fail
      go_ret
      exact ⟨by rw [HV3.out]; rfl, hbw.trans (hb3.mono hbw.size)⟩
theorem all_take_step {X : List (List Int)} {k : Nat} (h : (X.take k).all (fun r => decide (r.length ≤ 2)) = true) (hk : k < X.length) (hr : X[k].length ≤ 2) : (X.take (k + 1)).all (fun r => decide (r.length ≤ 2)) = true := by
  rw [List.take_succ_eq_append_getElem hk, List.all_append, h]
  simp [hr]
theorem all_at_false {X : List (List Int)} {k : Nat} (hk : k < X.length) (hr : 2 < X[k].length) : X.all (fun r => decide (r.length ≤ 2)) = false := by
  rw [List.all_eq_false]
  exact ⟨X[k], List.getElem_mem hk, by simpa using hr⟩
/-- The roots of the reference, in order, tell the same. -/
theorem sep_ord (p : List Int) : (permB p && (rtX p).all fun r => decide (r.length ≤ 2)) = sepB p := by
  rcases hp : permB p with _ | _
  · rw [sepB_no hp]; rfl
  · rw [sepB_ok hp, rtX_ok hp, Bool.true_and]
    rw [Bool.eq_iff_iff, List.all_eq_true, List.all_eq_true]
    exact ⟨fun h r hr => h r ((ordL_mem _ r).2 hr), fun h r hr => h r ((ordL_mem _ r).1 hr)⟩
theorem rtX_size {p : List Int} {rs : List Row} (hX : rs.map Row.xs = rtX p) : rs.length + sizeR rs ≤ 1048576 := by
  rcases hp : permB p with _ | _
  · rw [rtX_no hp] at hX
    have : rs = [] := List.map_eq_nil_iff.1 hX
    subst this; simp [sizeR]
  · rw [rtX_ok hp] at hX
    exact rows_bound (n := 8) (m := 8) hX (by have h1 := ordL_len (rootsN 8 p); have h2 := (roots_len 8 p hp).1; have h3 := (permB_true hp).1; omega) (fun q hq => (roots_len 8 p hp).2 q ((ordL_mem _ q).1 hq)) (by omega)
set_option maxHeartbeats 1000000 in
theorem isSeparable_spec (A : Option Addr) (c : Nat) (p : List Int) (w : World) (h : In w A c p) :
    Calls Tryz.prog 20 #[.slice A p.length c] w (Rb w (.bool (sepB p))) := by
  have HV := Lib.hid (sep_ord p)
  go_enter Tryz.func20, Tryz.ntmps20
  go_wp2_with fail
  (with_reducible refine (rootsIn_spec A c p w h).mono ?_)
  rintro e w1 ⟨A1, c1, rs, rfl, hX, hO, hb1⟩
  have hin := hO.read.toL (rtX_size hX) (Nat.le_refl _)
  have HX := Lib.hid hX
  have hrl := hin.len
  have HB1 := Lib.hid hb1
  clear hX hO hb1
  go_wp2_with fail
  go_loopw [4] (fun i wr => ∃ k : Nat, k ≤ rs.length ∧ i = .int .i64 k ∧ Hid (((rtX p).take k).all (fun r => decide (r.length ≤ 2)) = true) ∧ Below w1.heap.size w1 wr) (fun i _ => rs.length - (intOf i).toNat)
  case atStart => exact ⟨0, Nat.zero_le _, rfl, Lib.hid rfl, Below.refl _ _⟩
  case round =>
    obtain ⟨k, hk, rfl, HN, hb⟩ := hrel
    have hbw := HB1.out.trans (hb.mono HB1.out.size)
    rcases Nat.lt_or_ge k rs.length with hlt | hge
    · have hkx : k < (rtX p).length := by rw [← HX.out, List.length_map]; exact hlt
      have hxe : (rtX p)[k] = rs[k].xs := by simp only [← HX.out, List.getElem_map]
      have HN1 := Lib.hid (all_take_step HN.out hkx)
      have HN2 := Lib.hid (all_at_false (X := rtX p) hkx)
      rw [hxe] at HN1 HN2
      obtain ⟨b, off, rfl, _, hc⟩ := (hin.next hb).read.at (by omega)
      have g1 := hc k hlt
      obtain ⟨R0, hR⟩ : ∃ R : Row, R = rs[k] := ⟨_, rfl⟩
      rw [← hR] at g1 HN1 HN2
      clear hc hR hxe hkx
      obtain ⟨A2, c2, q⟩ := R0
      replace g1 : wr.cell? ⟨b, off + k, none⟩ = some (Value.slice A2 q.length c2) := g1
      replace HN1 : Hid (q.length ≤ 2 → _) := HN1
      replace HN2 : Hid (2 < q.length → _) := HN2
      by_cases h2 : 2 < q.length
      · have d1 : decide ((q.length : Int) > 2) = true := decide_eq_true (by omega)
        have HF := Lib.hid (show sepB p = false by rw [← HV.out, HN2.out h2, Bool.and_false])
        go_wp2_with fail
        go_ret
        exact ⟨by rw [HF.out]; rfl, hbw⟩
      · have d1 : decide ((q.length : Int) > 2) = false := decide_eq_false (by omega)
        have HN3 := Lib.hid (HN1.out (by omega))
        go_wp2_with fail
        go_roundw
        case rel => exact ⟨k + 1, by omega, by go_num, HN3, hb⟩
        case measure => simp [intOf]; omega
    · obtain rfl : k = rs.length := by omega
      have HT := Lib.hid (show sepB p = permB p by
        have := HN.out
        rw [List.take_of_length_le (by rw [← HX.out, List.length_map]; exact Nat.le_refl _)] at this
        rw [← HV.out, this, Bool.and_true])
      go_wp2_with fail
      (with_reducible refine (isPerm_sb A c p wr (permB p) (h.next hbw) rfl).mono ?_)
      rintro e w3 ⟨rfl, hd⟩
      have hbz := below_dr hbw hd
      go_wp2_with fail
      go_ret
      exact ⟨by rw [HT.out]; rfl, hbz⟩
end Go.Proofs.YtldknpjeegdbmaaGreat
