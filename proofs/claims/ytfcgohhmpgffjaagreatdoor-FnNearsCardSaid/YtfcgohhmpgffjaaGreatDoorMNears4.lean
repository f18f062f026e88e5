/- Several texts in one, each with its own head: T2, K3, PN1, PN2, H2, H1, H3, G1, G2. No program of ours. -/
import Derived.Deep.RegionHeld3
import Derived.StillTailTactics
import Derived.Deep.RegionLaw
import Derived.Deep.AppendLies
import Derived.Lib.Replace
import Derived.Lib.SplitLaws
import Derived.Deep.DeepCutAuto
import Derived.Deep.CutRange
import Derived.Test.YtfcgohhmpgffjaaGreatDoorMNears3
/- NearText, program and reference. -/
namespace Go.Proofs.YtfcgohhmpgffjaaGreatDoor
set_option maxRecDepth 100000
open Go Go.RowKit

/-- The text of the first k letters, a mark ahead of each place that is not joined. -/
def joinT (l : List UInt8) (ys : List Int) : Nat → List UInt8
  | 0 => []
  | k + 1 => joinT l ys k ++ (if 0 < k ∧ (k : Int) ∉ ys then [95] else []) ++ [l[k]?.getD 0]
def ntext (xs ys : List Int) : ByteArray := if nearB xs ys then bs (joinT (textD xs) ys (textD xs).length) else bs []
theorem joinT_size (l : List UInt8) (ys : List Int) (k : Nat) : (joinT l ys k).length ≤ 2 * k := by
  induction k with
  | zero => simp [joinT]
  | succ k ih => simp only [joinT, List.length_append, List.length_cons, List.length_nil]; split <;> simp <;> omega
theorem textD_len (xs : List Int) : (textD xs).length ≤ xs.length + 1 := by unfold textD; split <;> simp
theorem nearB_perm {xs ys : List Int} (h : nearB xs ys = true) : permB xs = true := by
  unfold nearB at h; simp only [Bool.and_eq_true] at h; exact h.1

set_option maxHeartbeats 2000000 in
theorem nearText_impl (A B : Option Addr) (c k : Nat) (xs ys : List Int) (w : World) (h : InN w A c xs B k ys) :
    Calls Tryz.prog 19 #[.agg #[.slice A xs.length c, .slice B ys.length k]] w (Rb w (.string (ntext xs ys))) := by
  have hlx := h.1.len
  have hly := h.2.len
  go_enter Tryz.func19, Tryz.ntmps19
  have hb0 : Below w.heap.size w (w.alloc (Obj.cells #[Value.slice A xs.length c, Value.slice B ys.length k] 26)) := (Below.refl _ _).alloc (Nat.le_refl _) _
  have ob := obj_new w (Obj.cells #[Value.slice A xs.length c, Value.slice B ys.length k] 26)
  go_wp2_with fail
  generalize (w.alloc (Obj.cells #[Value.slice A xs.length c, Value.slice B ys.length k] 26)) = w0 at hb0 ob ⊢
  (with_reducible refine (near_impl A B c k xs ys _ (h.next hb0)).mono ?_)
  rintro e w1 ⟨rfl, hb1⟩
  have hb := hb0.trans (hb1.mono hb0.size)
  have ob := obj_below ob hb1 (obj_lt ob)
  have f0 : w1.cell? ⟨w.heap.size, 0, none⟩ = some (Value.slice A xs.length c) := (obj_cell ob).trans rfl
  by_cases hp : nearB xs ys = true
  · have HT := Lib.hid (show ntext xs ys = bs (joinT (textD xs) ys (textD xs).length) by unfold ntext; rw [if_pos hp])
    have hpp := nearB_perm hp
    have HP := Lib.hid (show ptext xs = bs (textD xs) by unfold ptext; rw [if_pos hpp])
    have h8 := (permB_true hpp).1
    have ht9 : (textD xs).length ≤ 9 := by have := textD_len xs; omega
    rw [hp]
    clear hp hpp
    go_wp2_with fail
    (with_reducible refine (permText_impl A c xs _ (h.next hb).1).mono ?_)
    rintro e w2 ⟨rfl, hb2⟩
    rw [HP.out]
    have ob := obj_below ob hb2 (obj_lt ob)
    have hb := hb.trans (hb2.mono hb.size)
    have hbs := bs_size (textD xs)
    generalize hl : textD xs = l at HT ht9 hbs ⊢
    clear f0
    go_wp2
    go_loopw [4, 14] (fun o i wr => ∃ j : Nat, j ≤ l.length ∧ i = .int .i64 j ∧ o = .string (bs (joinT l ys j)) ∧ Below w2.heap.size w2 wr) (fun _ i _ => l.length - (intOf i).toNat)
    case atStart => exact ⟨0, Nat.zero_le _, rfl, rfl, Below.refl _ _⟩
    case round =>
      obtain ⟨j, hj, rfl, rfl, hbw⟩ := hrel
      have hsw := hbw.size
      by_cases hlt : j < l.length
      · have ob := obj_below ob hbw (obj_lt ob)
        have f1 : wr.cell? ⟨w.heap.size, 1, none⟩ = some (Value.slice B ys.length k) := (obj_cell ob).trans rfl
        have hxt := bs_extract l j hlt
        have hsd : (bs [l[j]]).size = 1 := bs_size [l[j]]
        have hsz := bs_size (joinT l ys j)
        have hjs := joinT_size l ys j
        have hsz2 : (bs (joinT l ys j ++ [95])).size = (joinT l ys j).length + 1 := by rw [bs_size]; simp
        have hap := bs_append (joinT l ys j) [95]
        have e1 : IntKind.i64.wrap ((j : Int) + 1) = (j : Int) + 1 := IntWalk.i64_in _ (by omega)
        have hgl : l[j]?.getD 0 = l[j] := by rw [List.getElem?_eq_getElem hlt]; rfl
        rcases Nat.eq_zero_or_pos j with h0 | h0
        · subst h0
          have HS := Lib.hid (show joinT l ys 1 = [] ++ [l[0]] by show [] ++ (if 0 < 0 ∧ _ then [95] else []) ++ [l[0]?.getD 0] = _; rw [if_neg (by simp), hgl]; rfl)
          clear hgl
          go_wp2
          go_roundw
          case rel => exact ⟨1, hlt, rfl, by rw [HS.out]; exact congrArg Value.string (bs_append [] [l[0]]), hbw⟩
          case measure => simp [intOf]; omega
        · have hy := (h.2.next (hb.trans (hbw.mono hb.size))).rd
          have d0 : decide ((j : Int) > 0) = true := decide_eq_true (by omega)
          by_cases hin : (j : Int) ∈ ys
          · have dm : decide ((j : Int) ∈ ys) = true := decide_eq_true hin
            have HS := Lib.hid (show joinT l ys (j + 1) = joinT l ys j ++ [l[j]] by rw [joinT, if_neg (fun hc => hc.2 hin), hgl, List.append_nil])
            clear hgl hin
            go_wp2_with fail
            (with_reducible refine (contains_any B k ys.length ys (j : Int) wr rfl (by omega) hy).mono ?_)
            rintro e w' ⟨rfl, rfl⟩
            rw [dm]
            go_wp2
            go_roundw
            case rel => exact ⟨j + 1, by omega, by go_num, by rw [HS.out]; exact congrArg Value.string (bs_append _ _), hbw⟩
            case measure => simp [intOf]; omega
          · have dm : decide ((j : Int) ∈ ys) = false := decide_eq_false hin
            have HS := Lib.hid (show joinT l ys (j + 1) = joinT l ys j ++ [95] ++ [l[j]] by rw [joinT, if_pos ⟨h0, hin⟩, hgl])
            clear hgl hin
            go_wp2_with fail
            (with_reducible refine (contains_any B k ys.length ys (j : Int) wr rfl (by omega) hy).mono ?_)
            rintro e w' ⟨rfl, rfl⟩
            rw [dm]
            go_wp2
            go_roundw
            case rel => exact ⟨j + 1, by omega, by go_num, by rw [HS.out, ← bs_append, ← bs_append]; rfl, hbw⟩
            case measure => simp [intOf]; omega
      · obtain rfl : j = l.length := by omega
        go_wp2
        go_ret
        exact ⟨by rw [HT.out]; rfl, hb.trans (hbw.mono hb.size)⟩
  · have hpf : nearB xs ys = false := by simpa using hp
    have HT := Lib.hid (show ntext xs ys = bs [] by unfold ntext; rw [hpf]; rfl)
    rw [hpf]
    go_wp2
    go_ret
    exact ⟨by rw [HT.out]; rfl, hb⟩

set_option maxHeartbeats 2000000 in
theorem nearText_spec (A B : Option Addr) (c k : Nat) (xs ys : List Int) (w : World) (h : InN w A c xs B k ys) :
    Calls Tryz.prog 20 #[.agg #[.slice A xs.length c, .slice B ys.length k]] w (Rb w (.string (ntext xs ys))) := by
  have hlx := h.1.len
  have hly := h.2.len
  go_enter Tryz.func20, Tryz.ntmps20
  have hb0 : Below w.heap.size w (w.alloc (Obj.cells #[Value.slice A xs.length c, Value.slice B ys.length k] 26)) := (Below.refl _ _).alloc (Nat.le_refl _) _
  have ob := obj_new w (Obj.cells #[Value.slice A xs.length c, Value.slice B ys.length k] 26)
  go_wp2_with fail
  generalize (w.alloc (Obj.cells #[Value.slice A xs.length c, Value.slice B ys.length k] 26)) = w0 at hb0 ob ⊢
  (with_reducible refine (near_spec A B c k xs ys _ (h.next hb0)).mono ?_)
  rintro e w1 ⟨rfl, hb1⟩
  have hb := hb0.trans (hb1.mono hb0.size)
  have ob := obj_below ob hb1 (obj_lt ob)
  have f0 : w1.cell? ⟨w.heap.size, 0, none⟩ = some (Value.slice A xs.length c) := (obj_cell ob).trans rfl
  by_cases hp : nearB xs ys = true
  · have HT := Lib.hid (show ntext xs ys = bs (joinT (textD xs) ys (textD xs).length) by unfold ntext; rw [if_pos hp])
    have hpp := nearB_perm hp
    have h8 := (permB_true hpp).1
    have HR := Lib.hid (permB_true hpp).2.1
    rw [hp]
    clear hp hpp
    by_cases hx0 : xs = []
    · subst hx0
      have HD := Lib.hid (show joinT (textD []) ys (textD []).length = [45] from rfl)
      go_wp2
      go_ret
      exact ⟨by rw [HT.out, HD.out]; rfl, hb⟩
    have hne : 0 < xs.length := List.length_pos_iff.2 hx0
    have d0 : ((xs.length : Int) == 0) = false := by simp; omega
    have hl : textD xs = xs.map dig := by unfold textD; rw [if_neg hx0]
    have hll : (textD xs).length = xs.length := by rw [hl, List.length_map]
    have HL := Lib.hid (show ∀ (j : Nat) (hj : j < xs.length), (textD xs)[j]?.getD 0 = dig xs[j] from fun j hj => by rw [hl, List.getElem?_map, List.getElem?_eq_getElem hj]; rfl)
    rw [hll] at HT
    generalize textD xs = l at HT HL hll
    clear hl hx0
    go_wp2
    go_loopw [3, 4] (fun o i wr => ∃ j : Nat, j ≤ xs.length ∧ i = .int .i64 j ∧ o = .string (bs (joinT l ys j)) ∧ Below w1.heap.size w1 wr) (fun _ i _ => xs.length - (intOf i).toNat)
    case atStart => exact ⟨0, Nat.zero_le _, rfl, rfl, Below.refl _ _⟩
    case round =>
      obtain ⟨j, hj, rfl, rfl, hbw⟩ := hrel
      have hsw := hbw.size
      have ob := obj_below ob hbw (obj_lt ob)
      have f0 : wr.cell? ⟨w.heap.size, 0, none⟩ = some (Value.slice A xs.length c) := (obj_cell ob).trans rfl
      by_cases hlt : j < xs.length
      · have f1 : wr.cell? ⟨w.heap.size, 1, none⟩ = some (Value.slice B ys.length k) := (obj_cell ob).trans rfl
        have hbr := hb.trans (hbw.mono hb.size)
        obtain ⟨b, off, rfl, _, hc⟩ := (h.1.next hbr).rd hne
        have c1 := hc j hlt
        have hsz := bs_size (joinT l ys j)
        have hjs := joinT_size l ys j
        have hsz2 : (bs (joinT l ys j ++ [95])).size = (joinT l ys j).length + 1 := by rw [bs_size]; simp
        have hap := bs_append (joinT l ys j) [95]
        have hsd : (bs [dig xs[j]]).size = 1 := bs_size [dig xs[j]]
        have hgl : l[j]?.getD 0 = dig xs[j] := HL.out j hlt
        have hv := HR.out xs[j] (List.getElem_mem hlt)
        clear hc
        rcases Nat.eq_zero_or_pos j with h0 | h0
        · subst h0
          have HS := Lib.hid (show joinT l ys 1 = [] ++ [dig xs[0]] by show [] ++ (if 0 < 0 ∧ _ then [95] else []) ++ [l[0]?.getD 0] = _; rw [if_neg (by simp), hgl]; rfl)
          have c1' : wr.cell? ⟨b, off, none⟩ = some (.int .i64 xs[0]) := c1
          clear hgl
          go_wp2_with fail
          (with_reducible refine (format_one xs[0] wr ⟨hv.1, by omega⟩).mono ?_)
          rintro e w' ⟨rfl, hbf⟩
          go_wp2
          go_roundw
          case rel => exact ⟨1, hlt, rfl, by rw [HS.out]; exact congrArg Value.string (bs_append [] [dig xs[0]]), hbw.trans (hbf.mono hbw.size)⟩
          case measure => simp [intOf]; omega
        · have hy := (h.2.next hbr).rd
          have d0 : decide ((j : Int) > 0) = true := decide_eq_true (by omega)
          by_cases hin : (j : Int) ∈ ys
          · have dm : decide ((j : Int) ∈ ys) = true := decide_eq_true hin
            have HS := Lib.hid (show joinT l ys (j + 1) = joinT l ys j ++ [dig xs[j]] by rw [joinT, if_neg (fun hc => hc.2 hin), hgl, List.append_nil])
            clear hgl hin
            go_wp2_with fail
            (with_reducible refine (l2Has_any B k ys.length ys (j : Int) wr rfl (by omega) hy).mono ?_)
            rintro e w' ⟨rfl, rfl⟩
            rw [dm]
            go_wp2_with fail
            (with_reducible refine (format_one xs[j] wr ⟨hv.1, by omega⟩).mono ?_)
            rintro e w' ⟨rfl, hbf⟩
            go_wp2
            go_roundw
            case rel => exact ⟨j + 1, by omega, by go_num, by rw [HS.out]; exact congrArg Value.string (bs_append _ _), hbw.trans (hbf.mono hbw.size)⟩
            case measure => simp [intOf]; omega
          · have dm : decide ((j : Int) ∈ ys) = false := decide_eq_false hin
            have HS := Lib.hid (show joinT l ys (j + 1) = joinT l ys j ++ [95] ++ [dig xs[j]] by rw [joinT, if_pos ⟨h0, hin⟩, hgl])
            clear hgl hin
            go_wp2_with fail
            (with_reducible refine (l2Has_any B k ys.length ys (j : Int) wr rfl (by omega) hy).mono ?_)
            rintro e w' ⟨rfl, rfl⟩
            rw [dm]
            go_wp2_with fail
            (with_reducible refine (format_one xs[j] wr ⟨hv.1, by omega⟩).mono ?_)
            rintro e w' ⟨rfl, hbf⟩
            go_wp2
            go_roundw
            case rel => exact ⟨j + 1, by omega, by go_num, by rw [HS.out, ← bs_append, ← bs_append]; rfl, hbw.trans (hbf.mono hbw.size)⟩
            case measure => simp [intOf]; omega
      · obtain rfl : j = xs.length := by omega
        go_wp2
        go_ret
        exact ⟨by rw [HT.out]; rfl, hb.trans (hbw.mono hb.size)⟩
  · have hpf : nearB xs ys = false := by simpa using hp
    have HT := Lib.hid (show ntext xs ys = bs [] by unfold ntext; rw [hpf]; rfl)
    rw [hpf]
    go_wp2
    go_ret
    exact ⟨by rw [HT.out]; rfl, hb⟩
end Go.Proofs.YtfcgohhmpgffjaaGreatDoor

/- MeshOf, program and reference. -/
namespace Go.Proofs.YtfcgohhmpgffjaaGreatDoor
set_option maxRecDepth 100000
open Go Go.RowKit

def boxesTo (i : Int) (y : Nat) : List (List Int) := (List.range y).map fun y : Nat => [i, (y : Int)]
theorem boxesTo_succ (i : Int) (y : Nat) : boxesTo i (y + 1) = boxesTo i y ++ [[i, (y : Int)]] := by simp [boxesTo, List.range_succ]
theorem boxesTo_length (i : Int) (y : Nat) : (boxesTo i y).length = y := by simp [boxesTo]
def boxesL (n : Nat) (ys : List Int) : List (List Int) := ys.flatMap fun i => boxesTo i (n + 1)
theorem boxesL_succ (n : Nat) (ys : List Int) (k : Nat) (h : k < ys.length) : boxesL n (ys.take (k + 1)) = boxesL n (ys.take k) ++ boxesTo ys[k] (n + 1) := by
  unfold boxesL
  rw [List.take_succ_eq_append_getElem h, List.flatMap_append]; simp
theorem boxesL_le (n : Nat) (ys : List Int) : (boxesL n ys).length ≤ ys.length * (n + 1) := flatMap_le _ _ _ fun i _ => by rw [boxesTo_length]; exact Nat.le_refl _
theorem boxesL_two {n : Nat} {ys : List Int} {s : List Int} (h : s ∈ boxesL n ys) : s.length = 2 := by
  obtain ⟨i, _, hs⟩ := List.mem_flatMap.1 h
  obtain ⟨y, _, rfl⟩ := List.mem_map.1 hs
  rfl
theorem sizeX_two {X : List (List Int)} (h : ∀ s ∈ X, s.length = 2) : sizeX X = 2 * X.length := by
  induction X with
  | nil => rfl
  | cons a t ih =>
    have h1 := h a (by simp)
    have h2 := ih (fun s hs => h s (by simp [hs]))
    simp only [sizeX, List.map_cons, List.sum_cons, List.length_cons] at h2 ⊢
    omega
theorem nearB_len {xs ys : List Int} (h : nearB xs ys = true) : ys.length ≤ 8 := by
  unfold nearB at h
  rw [Bool.and_eq_true] at h
  have h8 := (permB_true h.1).1
  have hj : ∀ j, j < ys.length → joinAt xs.length ys j = true := fun j hj => by
    have := h.2
    unfold joinTo at this
    exact List.all_eq_true.1 this j (List.mem_range.2 hj)
  have hge : ∀ j (hj' : j < ys.length), (j : Int) + 1 ≤ ys[j] := by
    intro j
    induction j with
    | zero =>
      intro h0
      have := hj 0 h0
      simp only [joinAt, List.getElem?_eq_getElem h0, Option.getD_some, decide_eq_true_eq] at this
      omega
    | succ j ih =>
      intro h0
      have h1 := ih (by omega)
      have := hj (j + 1) h0
      simp only [joinAt, List.getElem?_eq_getElem h0, Nat.add_sub_cancel, List.getElem?_eq_getElem (show j < ys.length by omega), Option.getD_some, decide_eq_true_eq] at this
      omega
  rcases Nat.eq_zero_or_pos ys.length with h0 | h0
  · omega
  · have h1 := hge (ys.length - 1) (by omega)
    have := hj (ys.length - 1) (by omega)
    simp only [joinAt, List.getElem?_eq_getElem (show ys.length - 1 < ys.length by omega), Option.getD_some, decide_eq_true_eq] at this
    omega

def moB (xs ys : List Int) : Bool := nearB xs ys && decide (xs.length ≤ 4)
def moG1 (xs ys : List Int) : List Int := if moB xs ys = true then xs else []
def moG2 (xs ys : List Int) : List (List Int) := if moB xs ys = true then boxesL xs.length ys else []
theorem moG_le (xs ys : List Int) : (moG1 xs ys).length + ((moG2 xs ys).length + sizeX (moG2 xs ys)) ≤ 1048576 := by
  unfold moG1 moG2
  by_cases h : moB xs ys = true
  · rw [if_pos h, if_pos h]
    unfold moB at h
    rw [Bool.and_eq_true, decide_eq_true_eq] at h
    have h1 := nearB_len h.1
    have h2 := boxesL_le xs.length ys
    have h3 := Nat.mul_le_mul h1 (show xs.length + 1 ≤ 5 by omega)
    rw [sizeX_two fun s hs => boxesL_two hs]
    omega
  · rw [if_neg h, if_neg h]
    simp [sizeX]
/-- A call's result: a mesh of its own, and a truth value. -/
def RetMb (w : World) (xs : List Int) (X : List (List Int)) (b : Bool) (e : Ending) (w' : World) : Prop :=
  ∃ A B c k rs, e = .returned (.tuple #[.agg #[.slice A xs.length c, .slice B rs.length k], .bool b]) ∧ rs.map Row.xs = X ∧ Own w' w.heap.size w'.heap.size (⟨A, c, xs⟩ :: rs) [⟨B, k, rs.map Row.v⟩] ∧ Below w.heap.size w w'
theorem own_nilmesh (w : World) (lo hi : Nat) : Own w lo hi [⟨none, 0, []⟩] [⟨none, 0, ([] : List Row).map Row.v⟩] := by
  refine ⟨fun r hr => ?_, fun r hr g hg => ?_, List.pairwise_singleton _ _, fun o ho => ?_, fun o ho g hg => ?_⟩
  · obtain rfl := List.mem_singleton.1 hr
    exact ⟨rfl, .inl ⟨rfl, rfl⟩⟩
  · obtain rfl := List.mem_singleton.1 hr
    cases hg
  · obtain rfl := List.mem_singleton.1 ho
    exact ⟨rfl, .inl ⟨rfl, rfl⟩⟩
  · obtain rfl := List.mem_singleton.1 ho
    cases hg
theorem grown_drew {w w' : World} {row : Option Nat} (h : w.drew.grownBy w' row) : w.grownBy w' row := ⟨h.os, h.tape, h.output, h.size, h.block⟩
theorem near_ib (A B : Option Addr) (c k : Nat) (xs ys : List Int) (w : World) (b : Bool) (h : InN w A c xs B k ys) (hb : nearB xs ys = b) :
    Calls Tryz.prog 17 #[.agg #[.slice A xs.length c, .slice B ys.length k]] w (Rb w (.bool b)) := by subst hb; exact near_impl A B c k xs ys w h
theorem near_sb (A B : Option Addr) (c k : Nat) (xs ys : List Int) (w : World) (b : Bool) (h : InN w A c xs B k ys) (hb : nearB xs ys = b) :
    Calls Tryz.prog 18 #[.agg #[.slice A xs.length c, .slice B ys.length k]] w (Rb w (.bool b)) := by subst hb; exact near_spec A B c k xs ys w h


end Go.Proofs.YtfcgohhmpgffjaaGreatDoor

/- ParseNear: plain lists. -/
namespace Go.Proofs.YtfcgohhmpgffjaaGreatDoor
set_option maxRecDepth 100000
open Go Go.RowKit

theorem replace_lib (c : UInt8) : ∀ (l : List UInt8) (k : Nat), Lib.count l [c] = k → Lib.replaceK [c] [] k l = l.filter fun x => !decide (x = c)
  | [], k, h => by
    rw [Lib.count_miss (by simp [Lib.index])] at h
    subst h
    rfl
  | b :: l, k, h => by
    by_cases hb : b = c
    · subst hb
      rw [Lib.count_cons_eq] at h
      have hix : Lib.index (b :: l) [b] = ((0 : Nat) : Int) := by rw [Lib.index]; simp [List.isPrefixOf]
      obtain ⟨k', rfl⟩ : ∃ k', k = k' + 1 := ⟨k - 1, by omega⟩
      rw [Lib.replaceK, hix]
      have ih := replace_lib b l k' (by omega)
      rw [if_neg (by decide)]
      show (b :: l).take 0 ++ [] ++ Lib.replaceK [b] [] k' ((b :: l).drop 1) = _
      rw [List.filter_cons_of_neg (by simp), ← ih]
      rfl
    · rw [Lib.count_cons_ne b c l hb] at h
      have ih := replace_lib c l k h
      have hp : ([c] : List UInt8).isPrefixOf (b :: l) = false := by simp [List.isPrefixOf, Ne.symm hb]
      have hix : Lib.index (b :: l) [c] = if Lib.index l [c] == -1 then -1 else Lib.index l [c] + 1 := by rw [Lib.index, hp]; simp
      rw [List.filter_cons_of_pos (by simp [hb]), ← ih]
      cases k with
      | zero => rfl
      | succ k' =>
        rw [Lib.replaceK, Lib.replaceK]
        by_cases hm : Lib.index l [c] = -1
        · rw [Lib.count_miss hm] at h; omega
        · have hge := Lib.index_ge l [c]
          obtain ⟨j, hj⟩ : ∃ j : Nat, Lib.index l [c] = j := ⟨(Lib.index l [c]).toNat, by omega⟩
          rw [hix, if_neg (fun e => hm (beq_iff_eq.1 e)), if_neg (fun e => by have := beq_iff_eq.1 e; omega), if_neg (fun e => hm (beq_iff_eq.1 e)), hj]
          have e1 : ((j : Int) + 1).toNat = j + 1 := by omega
          simp [e1]
def dgs (l : List UInt8) : List UInt8 := l.filter fun x => !decide (x = 95)
theorem replaceAll_dgs (l : List UInt8) : Lib.replaceAll l [95] [] = dgs l := by
  unfold Lib.replaceAll Lib.replace Lib.replaceNum
  rw [if_neg (by decide), if_pos (.inl (by decide))]
  exact replace_lib 95 l _ rfl
theorem dgs_len (l : List UInt8) : (dgs l).length ≤ l.length := List.length_filter_le _ _
theorem dgs_snoc (l : List UInt8) (x : UInt8) : dgs (l ++ [x]) = if x = 95 then dgs l else dgs l ++ [x] := by
  unfold dgs
  rw [List.filter_append]
  by_cases h : x = 95 <;> simp [h]
/-- The joined places of the first k letters. -/
def jnTo (l : List UInt8) : Nat → List Int
  | 0 => []
  | k + 1 => if l[k]?.getD 0 = 95 then jnTo l k else if 0 < k ∧ l[k - 1]?.getD 0 ≠ 95 then jnTo l k ++ [((dgs (l.take k)).length : Int)] else jnTo l k
theorem jnTo_len (l : List UInt8) (k : Nat) : (jnTo l k).length ≤ k - 1 ∨ (jnTo l k).length = 0 := by
  induction k with
  | zero => exact .inr rfl
  | succ k ih =>
    unfold jnTo
    split
    · rcases ih with ih | ih
      · exact .inl (by omega)
      · exact .inr ih
    · split
      · left
        rw [List.length_append, List.length_singleton]
        rename_i h
        rcases ih with ih | ih <;> omega
      · rcases ih with ih | ih
        · exact .inl (by omega)
        · exact .inr ih
theorem jnTo_le (l : List UInt8) (k : Nat) : (jnTo l k).length ≤ k := by
  rcases jnTo_len l k with h | h <;> omega
def pnT (l : List UInt8) : ByteArray := ntext (ppG (dgs l)) (jnTo l l.length)
def pnOk (l : List UInt8) : Bool := ppB (dgs l) && decide ((pnT l).data.toList = l)
def pnG1 (l : List UInt8) : List Int := if pnOk l = true then ppG (dgs l) else []
def pnG2 (l : List UInt8) : List Int := if pnOk l = true then jnTo l l.length else []
theorem ntext_near {xs ys : List Int} (h : (ntext xs ys).data.toList ≠ []) : nearB xs ys = true := by
  unfold ntext at h
  split at h
  · assumption
  · exact absurd rfl h
theorem ppB_ne {l : List UInt8} (h : ppB l = true) : l ≠ [] := by
  intro e
  subst e
  exact absurd h (by decide)
/-- Where the digits are fine, each letter is ASCII. -/
theorem pp_ascii {l : List UInt8} (h : ppB (dgs l) = true) : ∀ x ∈ l, x.toNat < 128 := fun x hx => by
  by_cases h95 : x = 95
  · subst h95; decide
  · have hd : x ∈ dgs l := List.mem_filter.2 ⟨hx, by simp [h95]⟩
    unfold ppB at h
    rw [Bool.or_eq_true, Bool.and_eq_true, decide_eq_true_eq] at h
    rcases h with h | h
    · rw [h, List.mem_singleton] at hd
      subst hd; decide
    · have hp := permB_true h.2
      have hm : ((x.toNat : Int) - 48) ∈ ppL (dgs l) := List.mem_map.2 ⟨x, hd, rfl⟩
      have := hp.2.1 _ hm
      rw [ppL_len] at hp this
      omega
end Go.Proofs.YtfcgohhmpgffjaaGreatDoor

/- ParseNear of the reference. -/
namespace Go.Proofs.YtfcgohhmpgffjaaGreatDoor
set_option maxRecDepth 100000
open Go Go.RowKit

theorem nearB_len8 {xs ys : List Int} (h : nearB xs ys = true) : ys.length ≤ 8 := by
  unfold nearB at h
  rw [Bool.and_eq_true] at h
  have h8 := (permB_true h.1).1
  have hj : ∀ j, j < ys.length → joinAt xs.length ys j = true := fun j hj => by
    have := h.2
    unfold joinTo at this
    exact List.all_eq_true.1 this j (List.mem_range.2 hj)
  have hge : ∀ j (hj' : j < ys.length), (j : Int) + 1 ≤ ys[j] := by
    intro j
    induction j with
    | zero =>
      intro h0
      have := hj 0 h0
      simp only [joinAt, List.getElem?_eq_getElem h0, Option.getD_some, decide_eq_true_eq] at this
      omega
    | succ j ih =>
      intro h0
      have h1 := ih (by omega)
      have := hj (j + 1) h0
      simp only [joinAt, List.getElem?_eq_getElem h0, Nat.add_sub_cancel, List.getElem?_eq_getElem (show j < ys.length by omega), Option.getD_some, decide_eq_true_eq] at this
      omega
  rcases Nat.eq_zero_or_pos ys.length with h0 | h0
  · omega
  · have h1 := hge (ys.length - 1) (by omega)
    have := hj (ys.length - 1) (by omega)
    simp only [joinAt, List.getElem?_eq_getElem (show ys.length - 1 < ys.length by omega), Option.getD_some, decide_eq_true_eq] at this
    omega

theorem pnG_le (l : List UInt8) : (pnG1 l).length + (pnG2 l).length ≤ 16 := by
  unfold pnG1 pnG2
  by_cases h : pnOk l = true
  · rw [if_pos h, if_pos h]
    have h1 := (ppG_len (dgs l)).2
    unfold pnOk at h
    rw [Bool.and_eq_true, decide_eq_true_eq] at h
    have hn : nearB (ppG (dgs l)) (jnTo l l.length) = true := by
      apply ntext_near
      show (pnT l).data.toList ≠ []
      rw [h.2]
      intro e
      have := ppB_ne h.1
      rw [e] at this
      exact this rfl
    have h2 := nearB_len8 hn
    omega
  · rw [if_neg h, if_neg h]; simp
theorem bs_get (l : List UInt8) (i : Nat) (h : i < l.length) : (bs l)[i]'(by rw [bs_size]; exact h) = l[i] := by
  show (l.toArray)[i]'(by simpa using h) = l[i]
  exact List.getElem_toArray _
set_option maxHeartbeats 4000000 in
theorem parseNear_spec (l : List UInt8) (w : World) (hs : l.length ≤ 1048576) :
    Calls Tryz.prog 9 #[.string (bs l)] w (RetNb w (pnG1 l) (pnG2 l) (pnOk l)) := by
  obtain ⟨i0, hi, hz0, hz1, hz2⟩ := info_parts infoI
  have hbz := bs_size l
  have hb0 : Below w.heap.size w ((w.alloc (Obj.cells #[Value.slice none 0 0, Value.slice none 0 0] 26)).alloc (Obj.cells #[Value.slice none 0 0, Value.slice none 0 0] 26)) := ((Below.refl _ _).alloc (Nat.le_refl _) _).alloc (by simp) _
  have or0 := obj_alloc (obj_new w (Obj.cells #[Value.slice none 0 0, Value.slice none 0 0] 26)) (Obj.cells #[Value.slice none 0 0, Value.slice none 0 0] 26)
  have og0 := obj_new (w.alloc (Obj.cells #[Value.slice none 0 0, Value.slice none 0 0] 26)) (Obj.cells #[Value.slice none 0 0, Value.slice none 0 0] 26)
  have hzw : ((w.alloc (Obj.cells #[Value.slice none 0 0, Value.slice none 0 0] 26)).alloc (Obj.cells #[Value.slice none 0 0, Value.slice none 0 0] 26)).heap.size = w.heap.size + 1 + 1 := by simp
  simp only [World.size_alloc] at og0
  go_enter Tryz.func9, Tryz.ntmps9
  go_wp2_with fail
  generalize ((w.alloc (Obj.cells #[Value.slice none 0 0, Value.slice none 0 0] 26)).alloc (Obj.cells #[Value.slice none 0 0, Value.slice none 0 0] 26)) = w0 at hb0 or0 og0 hzw ⊢
  obtain ⟨g, hg⟩ : ∃ g, g = w.heap.size + 1 := ⟨_, rfl⟩
  rw [← hg] at og0 hzw ⊢
  have HG := Lib.hid hg
  clear hg
  go_loopw [5, 6] (fun v i wr => ∃ (k : Nat) (D : Option Addr) (d n : Nat), k ≤ l.length ∧ i = .int .i64 k ∧ v = .string (bs (dgs (l.take k))) ∧ Hid (n = (jnTo l k).length) ∧ wr.heap[g]? = some (Obj.cells #[Value.slice none 0 0, Value.slice D n d] 26) ∧
    wr.heap[w.heap.size]? = some (Obj.cells #[Value.slice none 0 0, Value.slice none 0 0] 26) ∧ wr.ownsRow (g + 1) 3 1 (.slice D n d) n ((jnTo l k).map (Value.int .i64)) ∧ Below w.heap.size w wr ∧ g + 1 ≤ wr.heap.size) (fun _ i _ => l.length - (intOf i).toNat)
  case atStart => exact ⟨0, none, 0, 0, Nat.zero_le _, rfl, rfl, Lib.hid rfl, og0, or0, World.ownsRow_nil _ _ _ _, hb0, by omega⟩
  case round =>
    clear og0 or0 hb0 hzw
    obtain ⟨k, D, d, n, hk, rfl, rfl, HN, og, or_, hO, hb, hgs⟩ := hrel
    have hn : n ≤ k := by rw [HN.out]; exact jnTo_le l k
    rcases Nat.lt_or_ge k l.length with hlt | hge
    · obtain ⟨x, hx⟩ : ∃ x : UInt8, x = l[k] := ⟨_, rfl⟩
      have hx3 : (bs l)[k]'(by rw [bs_size]; exact hlt) = x := by rw [bs_get l k hlt]; exact hx.symm
      have hT : l.take (k + 1) = l.take k ++ [x] := by rw [List.take_succ_eq_append_getElem hlt, hx]
      have hxg : l[k]?.getD 0 = x := by rw [List.getElem?_eq_getElem hlt]; exact hx.symm
      have hlt' : (k : Int) < (l.length : Int) := by omega
      have hk0 : (0 : Int) ≤ (k : Int) := by omega
      have e3 : IntKind.i64.wrap ((k : Int) + 1) = (k : Int) + 1 := IntWalk.i64_in _ (by omega)
      clear hx
      by_cases h95 : x = 95
      · have dx : ((x.toNat : Int) == 95) = true := by rw [h95]; rfl
        have HD := Lib.hid (show dgs (l.take (k + 1)) = dgs (l.take k) by rw [hT, dgs_snoc, if_pos h95])
        have HJ := Lib.hid (show jnTo l (k + 1) = jnTo l k by rw [jnTo, hxg, if_pos h95])
        clear h95 hT hxg
        go_wp2_with fail
        go_roundw
        case rel => exact ⟨k + 1, D, d, n, by omega, by go_num, by rw [HD.out], Lib.hid (by rw [HJ.out]; exact HN.out), og, or_, by rw [HJ.out]; exact hO, hb, hgs⟩
        case measure => simp [intOf]; omega
      · have dx : ((x.toNat : Int) == 95) = false := by simp; intro h; exact h95 (UInt8.toNat_inj.1 (by show x.toNat = 95; omega))
        have HD := Lib.hid (show dgs (l.take (k + 1)) = dgs (l.take k) ++ [x] by rw [hT, dgs_snoc, if_neg h95])
        have HEX := Lib.hid (show bs (dgs (l.take k)) ++ (bs l).extract k (k + 1) = bs (dgs (l.take (k + 1))) by rw [HD.out, bs_extract l k hlt, bs_append, ← hx3, bs_get l k hlt])
        have hdl : (dgs (l.take k)).length ≤ k := Nat.le_trans (dgs_len _) (by simp; omega)
        have hbd := bs_size (dgs (l.take k))
        have f1 : wr.cell? ⟨g, 1, none⟩ = some (Value.slice D n d) := (obj_cell og).trans rfl
        obtain ⟨y, hy⟩ : ∃ y : UInt8, y = l[k - 1]?.getD 0 := ⟨_, rfl⟩
        by_cases hj : 0 < k ∧ y ≠ 95
        · have hkm : k - 1 < l.length := by omega
          have hy3 : (bs l)[k - 1]'(by rw [bs_size]; exact hkm) = y := by rw [bs_get l (k - 1) hkm, hy, List.getElem?_eq_getElem hkm]; rfl
          have HJ := Lib.hid (show jnTo l (k + 1) = jnTo l k ++ [((dgs (l.take k)).length : Int)] by rw [jnTo, hxg, if_neg h95, if_pos (by rw [← hy]; exact hj)])
          have dk : decide ((k : Int) > 0) = true := decide_eq_true (by omega)
          have dk' : decide (0 < (k : Int)) = true := decide_eq_true (by omega)
          have dy : ((y.toNat : Int) != 95) = true := by simp; intro h; exact hj.2 (UInt8.toNat_inj.1 (by show y.toNat = 95; omega))
          have e4 : IntKind.i64.wrap ((k : Int) - 1) = (k : Int) - 1 := IntWalk.i64_in _ (by omega)
          have e5 : ((k : Int) - 1).toNat = k - 1 := by omega
          have q1 : (0 : Int) ≤ (k : Int) - 1 := by omega
          have q2 : (k : Int) - 1 < (l.length : Int) := by omega
          obtain ⟨dn, hdn⟩ : ∃ dn, dn = (dgs (l.take k)).length := ⟨_, rfl⟩
          rw [← hdn] at hdl hbd
          have HDN := Lib.hid hdn
          have hlim : ∀ q, (Value.slice D n d).ownBlock = some q → g + 1 ≤ q ∧ q < wr.heap.size := fun q hq => hO.lt q hq
          have HXG := Lib.hid hxg
          clear hj hT hxg h95 hy hdn
          go_wp2_with ((at_builtin; refine wpList_append_own _ rfl _ _ 24 rfl (g + 1) 3 i0 (.int .i64 0) 1 8 Tryz.underlying24 hi hz0 hz1 hz2 rfl (by decide) _ _ _ rfl (World.ownsRow.alloc hO _) ⟨wr.heap.size, 0, none⟩ 1 1 [.int .i64 ((dn : Int))] rfl rfl (cell_one_new _ _ _) (by intro u hu; simp at hu; subst hu; rfl) (by unfold maxLen; omega) (by omega) (by simp; omega) ?_; intro v1 w1 hown1 hgrow1 _)
                       obtain ⟨D2, d2, rfl, _, _⟩ := own_shape hown1
                       have ogr := obj_alloc og (Obj.cells #[Value.int .i64 (dn : Int)] 3)
                       have orr := obj_alloc or_ (Obj.cells #[Value.int .i64 (dn : Int)] 3)
                       have og1 := (hgrow1.block _ (obj_lt ogr) (by intro he; have := hlim _ he.symm; omega)).trans ogr
                       have or1 := (hgrow1.block _ (obj_lt orr) (by intro he; have := hlim _ he.symm; have := HG.out; omega)).trans orr
                       have f3 : w1.cell? ⟨g, 1, none⟩ = some (Value.slice D n d) := (obj_cell og1).trans rfl
                       have f4 : w1.frozen? ⟨g, 1, none⟩ = false := obj_frozen og1)
          have hbr := hb.alloc hb.size (Obj.cells #[Value.int .i64 (dn : Int)] 3)
          have hb1 := hbr.grown hgrow1 (by have := hb.size; simp; omega) (fun q hq => by have := hlim q hq; have := HG.out; omega)
          have hsp : Span g (g + 1) w1 (w1.setCell ⟨g, 1, none⟩ (Value.slice D2 (n + 1) d2)) := Span.set (p := ⟨g, 1, none⟩) (Nat.le_refl _) (Nat.lt_succ_self _) _
          have hO1 : w1.ownsRow (g + 1) 3 1 (.slice D2 (n + 1) d2) (n + 1) ((jnTo l (k + 1)).map (Value.int .i64)) := by rw [HJ.out, ← HDN.out]; simpa using hown1
          have hO2 := own_span hO1 hsp (fun q hq => by have := (hO1.lt q hq).1; omega)
          have og2 := obj_set (i := 1) og1 (Value.slice D2 (n + 1) d2)
          have or2 := obj_other (g' := g) (i := 1) or1 (by have := HG.out; omega) (Value.slice D2 (n + 1) d2)
          have hb2 := hb1.setCell (p := ⟨g, 1, none⟩) (by show w.heap.size ≤ g; have := HG.out; omega) (Value.slice D2 (n + 1) d2)
          have hs2 : g + 1 ≤ (w1.setCell ⟨g, 1, none⟩ (Value.slice D2 (n + 1) d2)).heap.size := by have h1 := hgrow1.size; have h2 := hsp.size; simp at h1; omega
          have K := Lib.hid (And.intro og2 (And.intro or2 (And.intro hO2 (And.intro hb2 hs2))))
          clear og2 or2 hO2 hb2 hs2 hsp hO1 hb1 hbr hown1 hgrow1 og1 or1 ogr orr f3 f4 f1 hO og or_ hb hlim
          go_wp2_with fail
          go_roundw
          case rel => exact ⟨k + 1, D2, d2, n + 1, by omega, by go_num, by rw [HEX.out], Lib.hid (by rw [HJ.out, List.length_append, ← HN.out]; rfl), K.out.1, K.out.2.1, K.out.2.2.1, K.out.2.2.2.1, K.out.2.2.2.2⟩
          case measure => (simp [intOf]) <;> omega
        · have HJ := Lib.hid (show jnTo l (k + 1) = jnTo l k by rw [jnTo, hxg, if_neg h95, if_neg (by rw [← hy]; exact hj)])
          have HXG := Lib.hid hxg
          rcases Nat.eq_zero_or_pos k with hk00 | hk00
          · subst hk00
            have hz9 : (bs (dgs ([] : List UInt8))).size = 0 := rfl
            clear hj hT hxg h95 hy hk0
            go_wp2_with fail
            go_roundw
            case rel => exact ⟨1, D, d, n, by omega, by go_num, congrArg Value.string HEX.out, Lib.hid (by rw [HJ.out]; exact HN.out), og, or_, by rw [HJ.out]; exact hO, hb, hgs⟩
            case measure => (simp [intOf]) <;> omega
          · have hy95 : y = 95 := by
              by_cases h : y = 95
              · exact h
              · exact absurd ⟨hk00, h⟩ hj
            have hkm : k - 1 < l.length := by omega
            have hy3 : (bs l)[k - 1]'(by rw [bs_size]; exact hkm) = y := by rw [bs_get l (k - 1) hkm, hy, List.getElem?_eq_getElem hkm]; rfl
            have dk : decide ((k : Int) > 0) = true := decide_eq_true (by omega)
            have dk' : decide (0 < (k : Int)) = true := decide_eq_true (by omega)
            have dy3 : ((((bs l)[k - 1]'(by rw [bs_size]; exact hkm)).toNat : Int) != 95) = false := by rw [hy3, hy95]; rfl
            clear hy3
            have e4 : IntKind.i64.wrap ((k : Int) - 1) = (k : Int) - 1 := IntWalk.i64_in _ (by omega)
            have e5 : ((k : Int) - 1).toNat = k - 1 := by omega
            have q1 : (0 : Int) ≤ (k : Int) - 1 := by omega
            have q2 : (k : Int) - 1 < (l.length : Int) := by omega
            clear hj hT hxg h95 hy hy95
            go_wp2_with fail
            go_roundw
            case rel => exact ⟨k + 1, D, d, n, by omega, by go_num, by rw [HEX.out], Lib.hid (by rw [HJ.out]; exact HN.out), og, or_, by rw [HJ.out]; exact hO, hb, hgs⟩
            case measure => (simp [intOf]) <;> omega
    · obtain rfl : k = l.length := by omega
      have HTK := Lib.hid (show l.take l.length = l from List.take_length)
      have hge' : ¬ (l.length : Int) < (l.length : Int) := by omega
      rw [HTK.out]
      have hdl : (dgs l).length ≤ l.length := dgs_len l
      have HC := Lib.hid (show Calls Tryz.prog 34 #[.string (bs (dgs l))] wr (Ret2 (Value.int .i64) 3 wr (ppG (dgs l)) (ppB (dgs l))) from by
        have := parsePerm_spec (bs (dgs l)) wr (by rw [bs_size]; omega)
        have e : (bs (dgs l)).data.toList = dgs l := by unfold bs; simp
        rw [e] at this
        exact this)
      go_wp2_with fail
      (with_reducible refine HC.out.mono ?_)
      rintro e w4 ⟨P, pc, rfl, _, _, ownP, hb4⟩
      have og := obj_below og hb4 (obj_lt og)
      have or_ := obj_below or_ hb4 (obj_lt or_)
      have hbw := hb.trans (hb4.mono hb.size)
      have hsz4 := hb4.size
      have hO4 := own_below hO hb4
      have hlJ : ∀ q, (Value.slice D n d).ownBlock = some q → g + 1 ≤ q ∧ q < wr.heap.size := fun q hq => hO.lt q hq
      have hgP : g < wr.heap.size := by omega
      have g0 : w4.cell? ⟨g, 0, none⟩ = some (Value.slice none 0 0) := (obj_cell og).trans rfl
      have g2 : w4.frozen? ⟨g, 0, none⟩ = false := obj_frozen og
      have og2 := obj_set (i := 0) og (Value.slice P (ppG (dgs l)).length pc)
      have or2 := obj_other (g' := g) (i := 0) or_ (by have := HG.out; omega) (Value.slice P (ppG (dgs l)).length pc)
      have hsp : Span g (g + 1) w4 (w4.setCell ⟨g, 0, none⟩ (Value.slice P (ppG (dgs l)).length pc)) := Span.set (p := ⟨g, 0, none⟩) (Nat.le_refl _) (Nat.lt_succ_self _) _
      have hP5 := own_span ownP hsp (fun q hq => by have := (ownP.lt q hq).1; omega)
      have hO5 := own_span hO4 hsp (fun q hq => by have := (hO4.lt q hq).1; omega)
      have hb5 := hbw.setCell (p := ⟨g, 0, none⟩) (by show w.heap.size ≤ g; have := HG.out; omega) (Value.slice P (ppG (dgs l)).length pc)
      have hz5 := hsp.size
      have HP := Lib.hid (And.intro hP5 (And.intro hO5 (And.intro hb5 hz5)))
      clear hO hb hb4 og or_ hsp ownP hO4 HC hP5 hO5 hb5 hz5
      have k0 : (w4.setCell ⟨g, 0, none⟩ (Value.slice P (ppG (dgs l)).length pc)).cell? ⟨g, 0, none⟩ = some (Value.slice P (ppG (dgs l)).length pc) := (obj_cell og2).trans rfl
      have k1 : (w4.setCell ⟨g, 0, none⟩ (Value.slice P (ppG (dgs l)).length pc)).cell? ⟨g, 1, none⟩ = some (Value.slice D n d) := (obj_cell og2).trans rfl
      have c0 : (w4.setCell ⟨g, 0, none⟩ (Value.slice P (ppG (dgs l)).length pc)).cell? ⟨w.heap.size, 0, none⟩ = some (Value.slice none 0 0) := (obj_cell or2).trans rfl
      have c1 : (w4.setCell ⟨g, 0, none⟩ (Value.slice P (ppG (dgs l)).length pc)).cell? ⟨w.heap.size, 1, none⟩ = some (Value.slice none 0 0) := (obj_cell or2).trans rfl
      have c2 : (w4.setCell ⟨g, 0, none⟩ (Value.slice P (ppG (dgs l)).length pc)).frozen? ⟨w.heap.size, 0, none⟩ = false := obj_frozen or2
      have c3 : (w4.setCell ⟨g, 0, none⟩ (Value.slice P (ppG (dgs l)).length pc)).frozen? ⟨w.heap.size, 1, none⟩ = false := obj_frozen or2
      have hnJ := HN.out
      subst hnJ
      by_cases hp : ppB (dgs l) = true
      · have HPP := Lib.hid hp
        rw [hp]
        clear hp
        go_wp2_with fail
        generalize (w4.setCell ⟨g, 0, none⟩ (Value.slice P (ppG (dgs l)).length pc)) = w5 at og2 or2 k0 k1 c0 c1 c2 c3 HP ⊢
        have hgl := (ppG_len (dgs l)).2
        have hjl := jnTo_le l l.length
        have hin : InN w5 P pc (ppG (dgs l)) D d (jnTo l l.length) := ⟨In.own HP.out.1 (by omega), In.own HP.out.2.1 (by omega)⟩
        have HNT := Lib.hid (nearText_spec P D pc d (ppG (dgs l)) (jnTo l l.length) w5 hin)
        clear hin
        (with_reducible refine HNT.out.mono ?_)
        rintro e w6 ⟨rfl, hb6⟩
        have og6 := obj_below og2 hb6 (obj_lt og2)
        have or6 := obj_below or2 hb6 (obj_lt or2)
        have hbw6 := HP.out.2.2.1.trans (hb6.mono HP.out.2.2.1.size)
        have k0 : w6.cell? ⟨g, 0, none⟩ = some (Value.slice P (ppG (dgs l)).length pc) := (obj_cell og6).trans rfl
        have k1 : w6.cell? ⟨g, 1, none⟩ = some (Value.slice D (jnTo l l.length).length d) := (obj_cell og6).trans rfl
        have c0 : w6.cell? ⟨w.heap.size, 0, none⟩ = some (Value.slice none 0 0) := (obj_cell or6).trans rfl
        have c1 : w6.cell? ⟨w.heap.size, 1, none⟩ = some (Value.slice none 0 0) := (obj_cell or6).trans rfl
        have c2 : w6.frozen? ⟨w.heap.size, 0, none⟩ = false := obj_frozen or6
        have c3 : w6.frozen? ⟨w.heap.size, 1, none⟩ = false := obj_frozen or6
        by_cases hq : (pnT l).data.toList = l
        · have dq : ((ntext (ppG (dgs l)) (jnTo l l.length)).toList == (bs l).toList) = true := by
            rw [ByteArray.toList_eq, ByteArray.toList_eq, show (ntext (ppG (dgs l)) (jnTo l l.length)).data.toList = l from hq]
            simp [bs]
          have dq' : ((ntext (ppG (dgs l)) (jnTo l l.length)).toList != (bs l).toList) = false := by simp only [bne, dq]; rfl
          have H0 := Lib.hid (show pnOk l = true by unfold pnOk; rw [HPP.out, decide_eq_true hq]; rfl)
          have H1 := Lib.hid (show pnG1 l = ppG (dgs l) by unfold pnG1; rw [if_pos H0.out])
          have H2 := Lib.hid (show pnG2 l = jnTo l l.length by unfold pnG2; rw [if_pos H0.out])
          have o9 := obj_set (i := 1) (obj_set (i := 0) or6 (Value.slice P (ppG (dgs l)).length pc)) (Value.slice D (jnTo l l.length).length d)
          have hsp : Span w.heap.size (w.heap.size + 1) w6 ((w6.setCell ⟨w.heap.size, 0, none⟩ (Value.slice P (ppG (dgs l)).length pc)).setCell ⟨w.heap.size, 1, none⟩ (Value.slice D (jnTo l l.length).length d)) :=
            (Span.set (p := ⟨w.heap.size, 0, none⟩) (Nat.le_refl _) (Nat.lt_succ_self _) _).trans (Span.set (p := ⟨w.heap.size, 1, none⟩) (Nat.le_refl _) (Nat.lt_succ_self _) _)
          have hJ6 := own_below HP.out.2.1 hb6
          have hP6 := own_below HP.out.1 hb6
          have own : Own w6 (g + 1) w6.heap.size [⟨D, d, jnTo l l.length⟩, ⟨P, pc, ppG (dgs l)⟩] [] :=
            ((Own.one hJ6 (Nat.le_refl _)).lim wr.heap.size (fun r hr => by obtain rfl := List.mem_singleton.1 hr; exact fun q hq => (hlJ q hq).2)).app ((Own.one hP6 (Nat.le_refl _))) (by omega) (by have := hb6.size; have := HP.out.2.2.2; omega)
          have own := (own.perm (List.Perm.swap _ _ _)).span hsp (.inr (by have := HG.out; omega))
          have hb9 := (hbw6.setCell (p := ⟨w.heap.size, 0, none⟩) (by simp) (Value.slice P (ppG (dgs l)).length pc)).setCell (p := ⟨w.heap.size, 1, none⟩) (by simp) (Value.slice D (jnTo l l.length).length d)
          have l0 := (obj_cell (i := 0) o9).trans rfl
          have l1 := (obj_cell (i := 1) o9).trans rfl
          have hz9 := hsp.size
          clear hsp hq hJ6 hP6
          go_wp2_with fail
          refine bodyPost_ret (v := .tuple #[.agg #[.slice P (ppG (dgs l)).length pc, .slice D (jnTo l l.length).length d], .bool true]) (by simp [results, Tryz.results9, go_sem, l0, l1]) rfl ?_
          rw [H1.out, H2.out, H0.out]
          exact ⟨_, _, _, _, rfl, own.wider (by have := HG.out; omega) (by omega), hb9⟩
        · have dq : ((ntext (ppG (dgs l)) (jnTo l l.length)).toList == (bs l).toList) = false := by
            rw [ByteArray.toList_eq, ByteArray.toList_eq]
            have e2 : (bs l).data.toList = l := by simp [bs]
            rw [e2]
            exact beq_eq_false_iff_ne.2 hq
          have dq' : ((ntext (ppG (dgs l)) (jnTo l l.length)).toList != (bs l).toList) = true := by simp only [bne, dq]; rfl
          have H0 := Lib.hid (show pnOk l = false by unfold pnOk; rw [decide_eq_false hq, Bool.and_false])
          have H1 := Lib.hid (show pnG1 l = [] by unfold pnG1; rw [H0.out]; rfl)
          have H2 := Lib.hid (show pnG2 l = [] by unfold pnG2; rw [H0.out]; rfl)
          clear hq
          have o9 := obj_set (i := 1) (obj_set (i := 0) or6 (Value.slice none 0 0)) (Value.slice none 0 0)
          have hb9 := (hbw6.setCell (p := ⟨w.heap.size, 0, none⟩) (by simp) (Value.slice none 0 0)).setCell (p := ⟨w.heap.size, 1, none⟩) (by simp) (Value.slice none 0 0)
          have l0 := (obj_cell (i := 0) o9).trans rfl
          have l1 := (obj_cell (i := 1) o9).trans rfl
          go_wp2_with fail
          refine bodyPost_ret (v := .tuple #[.agg #[.slice none 0 0, .slice none 0 0], .bool false]) (by simp [results, Tryz.results9, go_sem, l0, l1]) rfl ?_
          rw [H1.out, H2.out, H0.out]
          exact ⟨_, _, _, _, rfl, own_nilrow _ _ _, hb9⟩
      · have hpf : ppB (dgs l) = false := by simpa using hp
        have H0 := Lib.hid (show pnOk l = false by unfold pnOk; rw [hpf, Bool.false_and])
        have H1 := Lib.hid (show pnG1 l = [] by unfold pnG1; rw [H0.out]; rfl)
        have H2 := Lib.hid (show pnG2 l = [] by unfold pnG2; rw [H0.out]; rfl)
        rw [hpf]
        have hb5 := HP.out.2.2.1
        clear hp hpf
        have o9 := obj_set (i := 1) (obj_set (i := 0) or2 (Value.slice none 0 0)) (Value.slice none 0 0)
        have hb9 := (hb5.setCell (p := ⟨w.heap.size, 0, none⟩) (by simp) (Value.slice none 0 0)).setCell (p := ⟨w.heap.size, 1, none⟩) (by simp) (Value.slice none 0 0)
        have l0 := (obj_cell (i := 0) o9).trans rfl
        have l1 := (obj_cell (i := 1) o9).trans rfl
        go_wp2_with fail
        refine bodyPost_ret (v := .tuple #[.agg #[.slice none 0 0, .slice none 0 0], .bool false]) (by simp [results, Tryz.results9, go_sem, l0, l1]) rfl ?_
        rw [H1.out, H2.out, H0.out]
        exact ⟨_, _, _, _, rfl, own_nilrow _ _ _, hb9⟩
end Go.Proofs.YtfcgohhmpgffjaaGreatDoor

/- Does a pattern occur: the reference's search. -/
namespace Go.Proofs.YtfcgohhmpgffjaaGreatDoor
set_option maxRecDepth 100000
open Go Go.RowKit

def fit1 (p q m : List Int) (k : Nat) : Bool := decide (q[k]?.getD 0 < q[m.length - 1]?.getD 0) == decide ((atL p m)[k]?.getD 0 < (atL p m)[m.length - 1]?.getD 0)
def fit1To (p q m : List Int) (k : Nat) : Bool := (List.range k).all (fit1 p q m)
theorem fit1To_succ (p q m : List Int) (k : Nat) : fit1To p q m (k + 1) = (fit1To p q m k && fit1 p q m k) := by simp [fit1To, List.range_succ]
theorem fit1To_all (p q m : List Int) : fit1To p q m (m.length - 1) = fitsB p q m := rfl
theorem fit1To_false {p q m : List Int} {k n : Nat} (h : k < n) (h1 : fit1 p q m k = false) : fit1To p q m n = false := by
  unfold fit1To
  rw [List.all_eq_false]
  exact ⟨k, List.mem_range.2 h, by simp [h1]⟩

set_option maxHeartbeats 1000000 in
theorem l7Fits_any (A B D : Option Addr) (c d f N : Nat) (p q m : List Int) (w : World) (hn : m.length = N) (hN1 : 1 ≤ N) (hq : N ≤ q.length) (hq8 : q.length ≤ 1000) (hp8 : p.length ≤ 1000) (hm : ∀ x ∈ m, 1 ≤ x ∧ x ≤ p.length)
    (hpr : Rd (Value.int .i64) w w.heap.size A p) (hqr : Rd (Value.int .i64) w w.heap.size B q) (hmr : Rd (Value.int .i64) w w.heap.size D m) :
    Calls Tryz.prog 88 #[.slice A p.length c, .slice B q.length d, .slice D N f] w (Rq w (.bool (fitsB p q m))) := by
  have HG := Lib.hid (show fitsB p q m = fit1To p q m (N - 1) by rw [← fit1To_all, hn])
  have hnm : N - 1 < m.length := by omega
  have hq1 : N - 1 < q.length := by omega
  have hxl := hm m[N - 1] (List.getElem_mem hnm)
  have hn1000 : N ≤ 1000 := by omega
  have HN := Lib.hid hn
  obtain ⟨cx, hcx⟩ : ∃ cx : Nat, (cx : Int) + 1 = m[N - 1] := ⟨(m[N - 1] - 1).toNat, by omega⟩
  have hcxp : cx < p.length := by omega
  obtain ⟨bp, op, rfl, _, hcp⟩ := hpr (by omega)
  obtain ⟨bq, oq, rfl, _, hcq⟩ := hqr (by omega)
  obtain ⟨bm, om, rfl, _, hcm⟩ := hmr (by omega)
  have c1 := hcm (N - 1) hnm
  have c2 := hcp cx hcxp
  have c3 := hcq (N - 1) hq1
  rw [← hcx] at c1
  have HX := Lib.hid (show (atL p m)[m.length - 1]?.getD 0 = p[cx] by
    unfold atL
    rw [List.getElem?_map, hn, List.getElem?_eq_getElem hnm, ← hcx]
    simp only [Option.map_some, Option.getD_some, Int.add_sub_cancel, Int.toNat_natCast]
    rw [List.getElem?_eq_getElem hcxp]; rfl)
  have e1 : IntKind.i64.wrap ((cx : Int) + 1 - 1) = (cx : Int) := by rw [Int.add_sub_cancel]; exact IntWalk.i64_in _ (by omega)
  have e2 : (cx : Int) < (p.length : Int) := by omega
  have e3 : (N : Int) - 1 < (q.length : Int) := by omega
  have e30 : 1 ≤ (N : Int) := by omega
  have e31 : 0 ≤ (N : Int) - 1 := by omega
  have e32 : (N : Int) - 1 < (N : Int) := by omega
  have e33 : ((N : Int) - 1).toNat = N - 1 := by omega
  clear hn hxl hcx hpr hqr hmr
  go_enter Tryz.func88, Tryz.ntmps88
  go_wp2_with fail
  go_loopw [8] (fun i wr => ∃ k : Nat, k ≤ N - 1 ∧ i = .int .i64 k ∧ Hid (fit1To p q m k = true) ∧ Dr w wr) (fun i _ => N - 1 - (intOf i).toNat)
  case atStart => exact ⟨0, Nat.zero_le _, rfl, Lib.hid rfl, Dr.refl _⟩
  case round =>
    obtain ⟨k, hk, rfl, HF, hd⟩ := hrel
    rcases Nat.lt_or_ge k (N - 1) with hlt | hge
    · have hkm : k < m.length := by omega
      have hkl := hm m[k] (List.getElem_mem hkm)
      obtain ⟨ck, hck⟩ : ∃ ck : Nat, (ck : Int) + 1 = m[k] := ⟨(m[k] - 1).toNat, by omega⟩
      have hckp : ck < p.length := by omega
      have hkq : k < q.length := by omega
      have g1 : wr.cell? ⟨bm, om + (N - 1), none⟩ = some (.int .i64 ((cx : Int) + 1)) := (hd.cell _).trans c1
      have g2 : wr.cell? ⟨bp, op + cx, none⟩ = some (.int .i64 p[cx]) := (hd.cell _).trans c2
      have g3 : wr.cell? ⟨bq, oq + (N - 1), none⟩ = some (.int .i64 q[N - 1]) := (hd.cell _).trans c3
      have g4 : wr.cell? ⟨bm, om + k, none⟩ = some (.int .i64 m[k]) := (hd.cell _).trans (hcm k hkm)
      have g5 : wr.cell? ⟨bp, op + ck, none⟩ = some (.int .i64 p[ck]) := (hd.cell _).trans (hcp ck hckp)
      have g6 : wr.cell? ⟨bq, oq + k, none⟩ = some (.int .i64 q[k]) := (hd.cell _).trans (hcq k hkq)
      rw [← hck] at g4
      have HK := Lib.hid (show fit1 p q m k = (decide (q[k] < q[N - 1]) == decide (p[ck] < p[cx])) by
        unfold fit1
        rw [HX.out]
        have : (atL p m)[k]?.getD 0 = p[ck] := by
          unfold atL
          rw [List.getElem?_map, List.getElem?_eq_getElem hkm, ← hck]
          simp only [Option.map_some, Option.getD_some, Int.add_sub_cancel, Int.toNat_natCast]
          rw [List.getElem?_eq_getElem hckp]; rfl
        rw [this, HN.out, List.getElem?_eq_getElem hkq, List.getElem?_eq_getElem hq1]
        rfl)
      have e4 : IntKind.i64.wrap ((ck : Int) + 1 - 1) = (ck : Int) := by rw [Int.add_sub_cancel]; exact IntWalk.i64_in _ (by omega)
      have e5 : (ck : Int) < (p.length : Int) := by omega
      have e6 : (k : Int) < (q.length : Int) := by omega
      have e7 : (k : Int) < (N : Int) := by omega
      have e8 : (k : Int) < (N : Int) - 1 := by omega
      clear hkl hck
      by_cases hf : fit1 p q m k = true
      · have HH := Lib.hid (show fit1To p q m (k + 1) = true by rw [fit1To_succ, HF.out, hf]; rfl)
        have hne : (!(decide (q[k] < q[N - 1]) == decide (p[ck] < p[cx]))) = false := by
          have := HK.out
          rw [hf] at this
          revert this
          cases decide (q[k] < q[N - 1]) <;> cases decide (p[ck] < p[cx]) <;> simp
        clear hf HK
        go_wp2_with fail
        go_quiet (fail)
        go_wp2_with fail
        go_roundw
        case rel => exact ⟨k + 1, by omega, by go_num, HH, (by first | with_reducible assumption | with_reducible exact hd | with_reducible exact Dr.drewN hd _ | with_reducible exact Dr.drewN (Dr.drewN hd _) _ | with_reducible exact Dr.drew hd)⟩
        case measure => simp [intOf]; omega
      · have hff : fit1 p q m k = false := by simpa using hf
        have HH := Lib.hid (show fit1To p q m (N - 1) = false from fit1To_false hlt hff)
        have hne : (!(decide (q[k] < q[N - 1]) == decide (p[ck] < p[cx]))) = true := by
          have := HK.out
          rw [hff] at this
          revert this
          cases decide (q[k] < q[N - 1]) <;> cases decide (p[ck] < p[cx]) <;> simp
        clear hf hff HK
        go_wp2_with fail
        go_quiet (fail)
        go_wp2_with fail
        go_ret
        exact ⟨ret_bool (by rw [HG.out, HH.out]), (by first | with_reducible assumption | with_reducible exact hd | with_reducible exact Dr.drewN hd _ | with_reducible exact Dr.drewN (Dr.drewN hd _) _ | with_reducible exact Dr.drew hd)⟩
    · obtain rfl : k = N - 1 := by omega
      have e8 : ((N - 1 : Nat) : Int) = (N : Int) - 1 := by omega
      go_wp2_with fail
      go_ret
      exact ⟨ret_bool (by rw [HG.out, HF.out]), hd⟩
def findTo (p q : List Int) (k : Nat) (l : List Int) (u : Nat) : List (List Int) := ((marks (fromI l) u).filter fun x => fitsB p q (l ++ [x])).flatMap fun x => occF p q k (l ++ [x])
theorem findTo_succ (p q : List Int) (k : Nat) (l : List Int) (u : Nat) : findTo p q k l (u + 1) = if fitsB p q (l ++ [fromI l + u]) = true then findTo p q k l u ++ occF p q k (l ++ [fromI l + u]) else findTo p q k l u := by
  unfold findTo
  rw [marks_succ, List.filter_append]
  by_cases h : fitsB p q (l ++ [fromI l + u]) = true <;> simp [h]
theorem findTo_le (p q : List Int) (k : Nat) (l : List Int) (u : Nat) (h : 1 ≤ fromI l) : (findTo p q k l u).length ≤ u * p.length ^ k := by
  have hm : ∀ x ∈ (marks (fromI l) u).filter fun x => fitsB p q (l ++ [x]), (occF p q k (l ++ [x])).length ≤ p.length ^ k := fun x hx => by
    obtain ⟨i, _, rfl⟩ := List.mem_map.1 (List.mem_filter.1 hx).1
    exact occF_le p q k _ (by rw [fromI_snoc]; omega)
  have h1 := flatMap_le (fun x => occF p q k (l ++ [x])) (p.length ^ k) _ hm
  have h2 := List.length_filter_le (fun x => fitsB p q (l ++ [x])) (marks (fromI l) u)
  rw [marks_len] at h2
  exact Nat.le_trans h1 (Nat.mul_le_mul_right _ h2)
theorem Asc.le {n : Nat} {l : List Int} (h : Asc n l) : fromI l ≤ n + 1 := by
  rcases hl : l.getLast? with _ | x
  · simp [fromI, hl]; omega
  · have := h.1 x (List.mem_of_getLast? hl)
    simp only [fromI, hl]
    omega

set_option maxHeartbeats 8000000 in
theorem find_rec (p q : List Int) (hp8 : p.length ≤ 8) (hq8 : q.length ≤ 8) : ∀ (k : Nat) (F rs : List Row) (r : Row) (A B D : Option Addr) (c d f lo : Nat) (w : World), r.xs.length + k = q.length → Asc p.length r.xs → lo ≤ w.heap.size → rs.length + p.length ^ k ≤ 100000000 →
    Rd (Value.int .i64) w lo A p → Rd (Value.int .i64) w lo B q → Own w lo w.heap.size (F ++ rs ++ [r]) [⟨D, f, rs.map Row.v⟩] →
    Calls Tryz.prog 67 #[.slice A p.length c, .slice B q.length d, .slice r.A r.xs.length r.c, .slice D rs.length f] w (Filled w lo F rs (occF p q k r.xs)) := by
  obtain ⟨i0, hi, hz0, hz1, hz2⟩ := info_parts infoI
  obtain ⟨j0, hj, hy0, hy1, hy2⟩ := info_parts infoL
  intro k
  induction k with
  | zero =>
    intro F rs r A B D c d f lo w hr has hlo hcount hp hq hO
    have hcount : rs.length + 1 ≤ 100000000 := by simpa using hcount
    have d1 : ((r.xs.length : Int) == (q.length : Int)) = true := by simp; omega
    have ho := hO.outN (n := rs.length) (by simp)
    have HR := Lib.hid hr
    clear hr
    go_enter Tryz.func67, Tryz.ntmps67
    go_wp2_with (at_builtin; refine wpList_append_own _ rfl _ _ 46 rfl (lo) 24 j0 (.slice none 0 0) 1 24 Tryz.underlying46 hj hy0 hy1 hy2 rfl (by decide) _ _ _ rfl (World.ownsRow.alloc ho _) ⟨w.heap.size, 0, none⟩ 1 1 [Value.slice r.A r.xs.length r.c] rfl rfl (cell_one_at _ _ (by simp)) (by intro u hu; simp at hu; subst hu; rfl) (by unfold maxLen; omega) (by omega) (by simp; omega) ?_; intro v9 w9 hown9 hgrow9 _)
    obtain ⟨A5, c5, rfl, hO6, hg3⟩ := hO.grow (Nat.le_refl _) (by simp) hown9 hgrow9
    have hbw := (Below.refl lo w).grown hg3 hlo (fun g hg => (hO.olim (by simp) g hg).1)
    have K := Lib.hid (And.intro hO6 hbw)
    clear hO6 hbw hown9 hgrow9 hg3 hO ho
    go_wp2
    go_ret
    exact ⟨A5, c5, [r], rfl, rfl, by simpa [Row.v, List.append_assoc] using K.out.1, K.out.2⟩
  | succ k ih =>
    intro F rs r A B D c d f lo w hr has hlo hcount hp hq hO
    have d1 : ((r.xs.length : Int) == (q.length : Int)) = false := by simp; omega
    have hrl : r.xs.length < q.length := by omega
    have hfrom := has.from
    have hfromle := has.le
    obtain ⟨fr, hfr⟩ : ∃ fr : Nat, (fr : Int) = fromI r.xs := ⟨(fromI r.xs).toNat, by omega⟩
    have hfr1 : 1 ≤ fr := by omega
    have hfr2 : fr ≤ p.length + 1 := by omega
    obtain ⟨m, hm⟩ : ∃ m : Nat, m = ((p.length : Int) + 1 - fromI r.xs).toNat := ⟨_, rfl⟩
    have hmu : ∀ u : Nat, fr + u ≤ p.length ↔ u < m := fun u => by omega
    have hm8 : m ≤ p.length := by omega
    have HMU := Lib.hid hmu
    have HG := Lib.hid (show occF p q (k + 1) r.xs = findTo p q k r.xs m by rw [hm]; rfl)
    have HFR := Lib.hid hfr
    have hpow : ∀ u, u + 1 ≤ m → u * p.length ^ k + p.length ^ k ≤ p.length ^ (k + 1) := fun u hu => by
      have := Nat.mul_le_mul_right (p.length ^ k) (Nat.le_trans hu hm8)
      rw [Nat.add_mul, Nat.one_mul] at this
      rw [Nat.pow_succ, Nat.mul_comm (p.length ^ k)]
      exact this
    have HP := Lib.hid hpow
    have HR := Lib.hid hr
    have HC := Lib.hid hcount
    have hO0 : Own w lo w.heap.size (F ++ [r] ++ (rs ++ [])) [⟨D, f, (rs ++ []).map Row.v⟩] := by
      rw [List.append_nil]
      refine hO.perm ?_
      rw [List.append_assoc, List.append_assoc]
      exact List.Perm.append_left F List.perm_append_comm
    have hrd0 := own_row hO (r := r) (by simp) (Nat.le_refl _)
    clear hr hcount hpow hO hfr hm hmu
    go_enter Tryz.func67, Tryz.ntmps67
    go_upto_if 23 with (fail)
    go_cut [9] (fun s9 wx => s9 = .int .i64 (fr : Int) ∧ wx = w)
    case first =>
      rcases Nat.eq_zero_or_pos r.xs.length with h0 | h0
      · have h0f : r.xs = [] := List.eq_nil_of_length_eq_zero h0
        have HF := Lib.hid (show fr = 1 by have := HFR.out; rw [h0f, fromI_nil] at this; omega)
        have d2 : decide (0 < r.xs.length) = false := decide_eq_false (by omega)
        have d3 : r.xs.length ≤ 0 := by omega
        clear h0 h0f
        go_wp2_with fail
        go_meet
        exact ⟨by rw [HF.out]; rfl, rfl⟩
      · obtain ⟨b, off, hA, _, hc⟩ := hrd0.2 (by omega)
        have c1 := hc (r.xs.length - 1) (by omega)
        have HF := Lib.hid (show (fr : Int) = r.xs[r.xs.length - 1] + 1 by
          rw [HFR.out]
          have : r.xs.getLast? = some r.xs[r.xs.length - 1] := by rw [List.getLast?_eq_getElem?, List.getElem?_eq_getElem (by omega)]
          simp only [fromI, this])
        have d2 : decide (0 < r.xs.length) = true := decide_eq_true (by omega)
        have hb1 := has.1 r.xs[r.xs.length - 1] (List.getElem_mem (by omega))
        have e0 : 1 ≤ (r.xs.length : Int) := by omega
        have e2 : 0 ≤ (r.xs.length : Int) - 1 := by omega
        have e3 : (r.xs.length : Int) - 1 < r.xs.length := by omega
        have e1 : ((r.xs.length : Int) - 1).toNat = r.xs.length - 1 := by omega
        clear hc
        rw [hA]
        go_wp2_with fail
        rw [← hA]
        go_meet
        exact ⟨by rw [HF.out], rfl⟩
    case rest =>
      obtain ⟨rfl, rfl⟩ := hcut
      clear hrd0
      go_wp2_with fail
      go_loopw [3, 10] (fun o i wr => ∃ (u : Nat) (A1 : Option Addr) (c1 : Nat) (rs1 : List Row), u ≤ m ∧ i = .int .i64 ((fr : Int) + u) ∧ o = .slice A1 (rs.length + rs1.length) c1 ∧ Hid (rs1.map Row.xs = findTo p q k r.xs u) ∧
        Own wr lo wr.heap.size (F ++ [r] ++ (rs ++ rs1)) [⟨A1, c1, (rs ++ rs1).map Row.v⟩] ∧ Below lo wc wr ∧ lo ≤ wr.heap.size) (fun _ i _ => m - ((intOf i).toNat - fr))
      case atStart => exact ⟨0, D, f, [], Nat.zero_le _, by simp, rfl, Lib.hid rfl, hO0, Below.refl _ _, hlo⟩
      case round =>
        clear hO0
        obtain ⟨u, A1, c1, rs1, hu, rfl, rfl, HX, hO, hb, hlo1⟩ := hrel
        have hrd := own_row hO (r := r) (by simp) (Nat.le_refl _)
        rcases Nat.lt_or_ge u m with hlt | hge
        · have hle : fr + u ≤ p.length := (HMU.out u).2 hlt
          have own0 : (wr.alloc (.cells #[] 3)).ownsRow wr.heap.size 3 1 (.slice (some ⟨wr.heap.size, 0, none⟩) 0 0) 0 [] := World.ownsRow_lit wr #[] 0 (Nat.le_refl _) (by unfold maxLen; omega) rfl
          have hx0 := hrd.2.alloc (Nat.le_refl _) (.cells #[] 3)
          have hbA := (Below.refl wr.heap.size wr).alloc (Nat.le_refl _) (.cells #[] 3)
          go_wp2_with (first | ((at_builtin; refine wpList_append_rd _ rfl _ _ 24 rfl (wr.heap.size) 3 i0 (.int .i64 0) 8 Tryz.underlying24 hi hz0 hz1 hz2 rfl _ _ _ rfl own0 _ _ _ _ (r.xs) rfl rfl hx0 (fun _ => rfl) (by unfold maxLen; omega) (by omega) (by first | omega | (simp; done) | (simp; omega)) ?_; intro v1 w1 hown1 hgrow1); simp only [Nat.zero_add, List.nil_append] at hown1; obtain ⟨A3, c3, rfl, _, _⟩ := own_shape hown1; have hbB := hbA.grown hgrow1 (by simp) (fun g hg => (own0.lt g hg).1); have hszB := hbB.size) | (at_builtin; refine wpList_append_own _ rfl _ _ 24 rfl (wr.heap.size) 3 i0 (.int .i64 0) 1 8 Tryz.underlying24 hi hz0 hz1 hz2 rfl (by decide) _ _ _ rfl (World.ownsRow.alloc hown1 _) ⟨w1.heap.size, 0, none⟩ 1 1 [.int .i64 ((fr : Int) + u)] rfl rfl (cell_one_new _ _ _) (by intro u hu; simp at hu; subst hu; rfl) (by unfold maxLen; omega) (by omega) (by simp; omega) ?_; intro v2 w2 hown2 hgrow2 _))
          have hbC := (hbB.alloc hszB (Obj.cells #[Value.int .i64 ((fr : Int) + u)] 3)).grown hgrow2 (by simp; omega) (fun g hg => (hown1.lt g hg).1)
          have hrow : w2.ownsRow wr.heap.size 3 1 v2 (r.xs.length + 1) ((r.xs ++ [(fr : Int) + u]).map (Value.int .i64)) := by simpa using hown2
          obtain ⟨A4, c4, rfl, _, _⟩ := own_shape hrow
          have hszC := hbC.size
          have hO1 := hO.below hbC
          have hO2 := hO1.add (r := ⟨A4, c4, r.xs ++ [(fr : Int) + u]⟩) (by simpa [Row.v] using hrow) hszC hlo1
          have hb2 := hb.trans (hbC.mono hlo1)
          have hlo2 : lo ≤ w2.heap.size := by omega
          have hrow2 := own_row hO2 (r := ⟨A4, c4, r.xs ++ [(fr : Int) + u]⟩) (by simp) (Nat.le_refl _)
          have hp2 := hp.below hb2
          have hq2 := hq.below hb2
          have has2 : Asc p.length (r.xs ++ [(fr : Int) + u]) := has.snoc (ways_mem.2 ⟨by rw [← HFR.out]; omega, by omega⟩)
          have hmem : ∀ x ∈ r.xs ++ [(fr : Int) + u], 1 ≤ x ∧ x ≤ p.length := fun x hx => by have := has2.1 x hx; omega
          have hlen1 : (r.xs ++ [(fr : Int) + u]).length = r.xs.length + 1 := by simp
          have HT := Lib.hid (findTo_succ p q k r.xs u)
          have hcnt : rs.length + rs1.length + p.length ^ k ≤ 100000000 := by
            have h1 := congrArg List.length HX.out
            have h2 := findTo_le p q k r.xs u hfrom
            have h3 := HP.out u hlt
            have h4 := HC.out
            rw [List.length_map] at h1
            omega
          have HL1 := Lib.hid hlen1
          have hOk := hO1.wider (Nat.le_refl _) hszC
          clear hown1 hown2 hgrow1 hgrow2 hbA hbB hrow hx0 own0 hO hO1 hlen1
          go_wp2_with fail
          by_cases hft : fitsB p q (r.xs ++ [(fr : Int) + u]) = true
          · have HE := Lib.hid (show findTo p q k r.xs (u + 1) = findTo p q k r.xs u ++ occF p q k (r.xs ++ [(fr : Int) + u]) by rw [HT.out, ← HFR.out, if_pos hft])
            have HH := Lib.hid hft
            clear hft
            (with_reducible refine (l7Fits_any A B A4 c d c4 (r.xs.length + 1) p q (r.xs ++ [(fr : Int) + u]) w2 HL1.out (by omega) (by omega) (by omega) (by omega) hmem (hp2.more hlo2) (hq2.more hlo2) hrow2.2).mono ?_)
            rintro e w3 ⟨rfl, hd3⟩
            rw [HH.out]
            have hO3 := hO2.dr hd3
            have hsz3 : w3.heap.size = w2.heap.size := by rw [hd3.heap]
            rw [← hsz3] at hO3
            have hb3 := below_dr hb2 hd3
            have hlo3 : lo ≤ w3.heap.size := by omega
            have IH := ih (F ++ [r]) (rs ++ rs1) ⟨A4, c4, r.xs ++ [(fr : Int) + u]⟩ A B A1 c d c1 lo w3 (by have := HR.out; have := HL1.out; show (r.xs ++ [(fr : Int) + u]).length + k = _; omega) has2 hlo3 (by rw [List.length_append]; exact hcnt) (hp2.dr hd3) (hq2.dr hd3) hO3
            rw [show (Row.mk A4 c4 (r.xs ++ [(fr : Int) + u])).xs.length = r.xs.length + 1 by simp, List.length_append] at IH
            have IHH := Lib.hid IH
            clear IH hO2 hO3 hOk hsz3 hrow2
            go_wp2_with fail
            (with_reducible refine IHH.out.mono ?_)
            rintro e w4 ⟨A5, c5, rs2, rfl, hxs, hO4, hb4⟩
            have K := Lib.hid (And.intro hxs (And.intro hO4 (hb3.trans hb4)))
            have hlo4 : lo ≤ w4.heap.size := by have := hb4.size; omega
            clear hxs hO4 hb4 IHH hb2 hb3
            go_wp2_with fail
            go_roundw
            case rel => exact ⟨u + 1, A5, c5, rs1 ++ rs2, by omega, by go_num, by rw [List.length_append]; go_num, Lib.hid (by rw [HE.out, List.map_append, HX.out, K.out.1]), by rw [← List.append_assoc rs]; exact K.out.2.1, K.out.2.2, hlo4⟩
            case measure => simp [intOf]; omega
          · have hff : fitsB p q (r.xs ++ [(fr : Int) + u]) = false := by simpa using hft
            have HE := Lib.hid (show findTo p q k r.xs (u + 1) = findTo p q k r.xs u by rw [HT.out, ← HFR.out, if_neg hft])
            have HH := Lib.hid hff
            clear hft hff
            (with_reducible refine (l7Fits_any A B A4 c d c4 (r.xs.length + 1) p q (r.xs ++ [(fr : Int) + u]) w2 HL1.out (by omega) (by omega) (by omega) (by omega) hmem (hp2.more hlo2) (hq2.more hlo2) hrow2.2).mono ?_)
            rintro e w3 ⟨rfl, hd3⟩
            rw [HH.out]
            have hO3 := hOk.dr hd3
            have hsz3 : w3.heap.size = w2.heap.size := by rw [hd3.heap]
            rw [← hsz3] at hO3
            have hb3 := below_dr hb2 hd3
            have hlo3 : lo ≤ w3.heap.size := by omega
            clear hO2 hOk hsz3 hrow2 hb2
            go_wp2_with fail
            go_roundw
            case rel => exact ⟨u + 1, A1, c1, rs1, by omega, by go_num, rfl, Lib.hid (by rw [HE.out]; exact HX.out), hO3, hb3, hlo3⟩
            case measure => simp [intOf]; omega
        · obtain rfl : u = m := by omega
          have hgt : p.length < fr + u := by have := (HMU.out u); omega
          have hO2 : Own wr lo wr.heap.size (F ++ (rs ++ rs1)) [⟨A1, c1, (rs ++ rs1).map Row.v⟩] := hO.sub (by
            rw [List.append_assoc F]
            exact List.Sublist.append_left (List.sublist_append_right _ _) F)
          go_wp2_with fail
          go_ret
          exact ⟨A1, c1, rs1, rfl, by rw [HG.out]; exact HX.out, hO2, hb⟩
end Go.Proofs.YtfcgohhmpgffjaaGreatDoor

/- Does a pattern occur: the program's search. -/
namespace Go.Proofs.YtfcgohhmpgffjaaGreatDoor
set_option maxRecDepth 100000
open Go Go.RowKit

/-- The last of the chosen places fits with all before it (places counted from 0). -/
theorem fits_up {p q l : List Int} {i : Int} : fitsB p q (up (l ++ [i])) = (List.range l.length).all fun k => decide (q[k]?.getD 0 < q[l.length]?.getD 0) == decide (nth p (l[k]?.getD 0) < nth p i) := by
  unfold fitsB up
  simp only [List.map_append, List.map_cons, List.map_nil, List.length_append, List.length_map, List.length_cons, List.length_nil, Nat.zero_add, Nat.add_sub_cancel]
  rw [Bool.eq_iff_iff, List.all_eq_true, List.all_eq_true]
  have hat : ∀ k, k < l.length → (atL p (l.map (· + 1) ++ [i + 1]))[k]?.getD 0 = nth p (l[k]?.getD 0) := fun k hk => by
    unfold atL nth
    rw [List.getElem?_map, List.getElem?_append_left (by simpa using hk), List.getElem?_map, List.getElem?_eq_getElem hk]
    simp only [Option.map_some, Option.getD_some, Int.add_sub_cancel]
  have hlast : (atL p (l.map (· + 1) ++ [i + 1]))[l.length]?.getD 0 = nth p i := by
    unfold atL nth
    rw [List.getElem?_map, List.getElem?_append_right (by simp)]
    simp only [List.length_map, Nat.sub_self, List.getElem?_cons_zero, Option.map_some, Option.getD_some, Int.add_sub_cancel]
  constructor
  · intro h k hk
    have h1 := h k hk
    rw [hat k (List.mem_range.1 hk), hlast] at h1
    exact h1
  · intro h k hk
    rw [hat k (List.mem_range.1 hk), hlast]
    exact h k hk
/-- The fits among the first k of the chosen. -/
def fitTo (p q l : List Int) (i : Int) (k : Nat) : Bool := (List.range k).all fun k => decide (q[k]?.getD 0 < q[l.length]?.getD 0) == decide (nth p (l[k]?.getD 0) < nth p i)
theorem fitTo_succ (p q l : List Int) (i : Int) (k : Nat) : fitTo p q l i (k + 1) = (fitTo p q l i k && (decide (q[k]?.getD 0 < q[l.length]?.getD 0) == decide (nth p (l[k]?.getD 0) < nth p i))) := by
  simp [fitTo, List.range_succ]
theorem fitTo_all (p q l : List Int) (i : Int) : fitTo p q l i l.length = fitsB p q (up (l ++ [i])) := fits_up.symm
/-- What the search has found behind the first u places. -/
def hasTo (p q : List Int) (k : Nat) (l : List Int) (u : Nat) : Bool := (marks (from0 l) u).any fun i => fitsB p q (up (l ++ [i])) && hasF p q k (l ++ [i])
theorem hasTo_succ (p q : List Int) (k : Nat) (l : List Int) (u : Nat) : hasTo p q k l (u + 1) = (hasTo p q k l u || (fitsB p q (up (l ++ [from0 l + u])) && hasF p q k (l ++ [from0 l + u]))) := by
  unfold hasTo
  rw [marks_succ, List.any_append]
  simp
theorem hasTo_mono {p q : List Int} {k : Nat} {l : List Int} {u m : Nat} (h : u < m) (h1 : (fitsB p q (up (l ++ [from0 l + u])) && hasF p q k (l ++ [from0 l + u])) = true) : hasTo p q k l m = true := by
  unfold hasTo
  refine List.any_eq_true.2 ⟨from0 l + u, List.mem_map.2 ⟨u, List.mem_range.2 h, rfl⟩, h1⟩
/-- Chosen places, ascending and within p. -/
def Chos (n : Nat) (l : List Int) : Prop := (∀ x ∈ l, 0 ≤ x ∧ x < n) ∧ 0 ≤ from0 l ∧ from0 l ≤ n
theorem Chos.nil (n : Nat) : Chos n [] := ⟨by simp, by simp [from0], by simp [from0]⟩
theorem Chos.snoc {n : Nat} {l : List Int} (h : Chos n l) {x : Int} (h1 : 0 ≤ x) (h2 : x < n) : Chos n (l ++ [x]) := by
  refine ⟨fun y hy => ?_, by simp [from0]; omega, by simp [from0]; omega⟩
  rcases List.mem_append.1 hy with hy | hy
  · exact h.1 y hy
  · obtain rfl := List.mem_singleton.1 hy
    exact ⟨h1, h2⟩


/-- The program's order: by length, then letter by letter. -/
def cmpP (p q : List Int) : Int := if p.length = q.length then cmpL p q else cmpI p.length q.length
end Go.Proofs.YtfcgohhmpgffjaaGreatDoor

/- Occurrences and bases: the roots of the searches, IsBasis in program and reference. -/
namespace Go.Proofs.YtfcgohhmpgffjaaGreatDoor
set_option maxRecDepth 100000
open Go Go.RowKit

/-- The two empty literals that the search begins with. -/
theorem find_root (A B : Option Addr) (c d : Nat) (p q : List Int) (w : World) (hp : In w A c p) (hq : In w B d q) (hp8 : p.length ≤ 8) (hq8 : q.length ≤ 8) :
    Calls Tryz.prog 67 #[.slice A p.length c, .slice B q.length d, .slice (some ⟨w.heap.size, 0, none⟩) 0 0, .slice (some ⟨w.heap.size + 1, 0, none⟩) 0 0] ((w.alloc (.cells #[] 3)).alloc (.cells #[] 24)) (RetL w (occL p q)) := by
  have own0 : (w.alloc (.cells #[] 3)).ownsRow w.heap.size 3 1 (Row.v ⟨some ⟨w.heap.size, 0, none⟩, 0, []⟩) 0 (([] : List Int).map (Value.int .i64)) := World.ownsRow_lit w #[] 0 (Nat.le_refl _) (by unfold maxLen; omega) rfl
  have hA : Own (w.alloc (.cells #[] 3)) w.heap.size (w.heap.size + 1) [⟨some ⟨w.heap.size, 0, none⟩, 0, []⟩] [] := by
    have := Own.add (os := []) (r := ⟨some ⟨w.heap.size, 0, none⟩, 0, []⟩) (Own.nil_ (w := w.alloc (.cells #[] 3)) (lo := w.heap.size) (hi := w.heap.size)) own0 (by simp) (Nat.le_refl _)
    simpa using this
  have hB : Own ((w.alloc (.cells #[] 3)).alloc (.cells #[] 24)) w.heap.size (w.heap.size + 1 + 1) [⟨some ⟨w.heap.size, 0, none⟩, 0, []⟩] [⟨some ⟨w.heap.size + 1, 0, none⟩, 0, []⟩] := by
    have h1 := hA.below ((Below.refl _ _).alloc (Nat.le_refl _) (.cells #[] 24))
    exact (h1.wider (Nat.le_refl _) (Nat.le_succ _)).with_ (A := some ⟨w.heap.size + 1, 0, none⟩) (c := 0) (vs := []) (by
      have := World.ownsRow_lit (base := w.heap.size) (e := 24) (size := 1) (w.alloc (.cells #[] 3)) #[] 0 (by simp) (by unfold maxLen; omega) rfl
      simpa using this) (by simp)
  have hb0 : Below w.heap.size w ((w.alloc (.cells #[] 3)).alloc (.cells #[] 24)) := ((Below.refl _ _).alloc (Nat.le_refl _) _).alloc (by simp) _
  have hpow : p.length ^ q.length ≤ 16777216 := by
    have h1 : p.length ^ q.length ≤ 8 ^ q.length := Nat.pow_le_pow_left hp8 _
    have h2 : 8 ^ q.length ≤ 8 ^ 8 := Nat.pow_le_pow_right (by omega) hq8
    omega
  have FSc := find_rec p q hp8 hq8 q.length [] [] ⟨some ⟨w.heap.size, 0, none⟩, 0, []⟩ A B (some ⟨w.heap.size + 1, 0, none⟩) c d 0 w.heap.size ((w.alloc (.cells #[] 3)).alloc (.cells #[] 24)) (by simp) (Asc.nil _) (by simp; omega) (by simp; omega) (hp.rd.below hb0) (hq.rd.below hb0) (by simpa using hB)
  exact FSc.mono fun e w' ⟨A', c', rs', he, hx, hO, hb⟩ => ⟨A', c', rs', by simpa using he, hx, by simpa using hO, hb0.trans hb⟩

/-- What a basis asks at the place k. -/
def basAt (L : List (List Int)) (k : Nat) : Bool :=
  permB (L[k]?.getD []) && decide ((L[k]?.getD []).length ≠ 0) && (decide (k = 0) || decide (cmpP (L[k - 1]?.getD []) (L[k]?.getD []) < 0)) && (List.range k).all fun i => !hasB (L[k]?.getD []) (L[i]?.getD [])
def basTo (L : List (List Int)) (k : Nat) : Bool := (List.range k).all (basAt L)
theorem basTo_succ (L : List (List Int)) (k : Nat) : basTo L (k + 1) = (basTo L k && basAt L k) := by simp [basTo, List.range_succ]
theorem basTo_false {L : List (List Int)} {k m : Nat} (h : k < m) (ht : basAt L k = false) : basTo L m = false := by
  unfold basTo
  rw [List.all_eq_false]
  exact ⟨k, List.mem_range.2 h, by simp [ht]⟩
theorem basTo_perm {L : List (List Int)} {k j : Nat} (h : basTo L k = true) (hj : j < k) (hl : j < L.length) : permB L[j] = true := by
  unfold basTo at h
  have := List.all_eq_true.1 h j (List.mem_range.2 hj)
  unfold basAt at this
  rw [List.getElem?_eq_getElem hl] at this
  simp only [Option.getD_some, Bool.and_eq_true] at this
  exact this.1.1.1
def basisB (L : List (List Int)) : Bool := decide (L.length ≤ 8) && basTo L L.length
def nohasTo (L : List (List Int)) (p : List Int) (i : Nat) : Bool := (List.range i).all fun i => !hasB p (L[i]?.getD [])
theorem nohasTo_succ (L : List (List Int)) (p : List Int) (i : Nat) : nohasTo L p (i + 1) = (nohasTo L p i && !hasB p (L[i]?.getD [])) := by simp [nohasTo, List.range_succ]
theorem nohasTo_false {L : List (List Int)} {p : List Int} {k m : Nat} (h : k < m) (ht : hasB p (L[k]?.getD []) = true) : nohasTo L p m = false := by
  unfold nohasTo
  rw [List.all_eq_false]
  exact ⟨k, List.mem_range.2 h, by simp [ht]⟩
theorem before_cmp (p q : List Int) : before p q = decide (cmpP p q < 0) := by
  unfold before cmpP
  by_cases h : p.length = q.length
  · rw [if_pos h, if_pos h]
  · rw [if_neg h, if_neg h]
    unfold cmpI
    rw [decide_eq_decide]
    constructor
    · intro hlt; rw [if_pos (by omega)]; omega
    · intro hlt
      split at hlt
      · omega
      · split at hlt <;> omega
theorem basAt_row {rs : List Row} {k : Nat} (hk : k < rs.length) : basAt (rs.map Row.xs) k = (permB rs[k].xs && decide (rs[k].xs.length ≠ 0) && (decide (k = 0) || decide (cmpP ((rs.map Row.xs)[k - 1]?.getD []) rs[k].xs < 0)) && nohasTo (rs.map Row.xs) rs[k].xs k) := by
  have hX : (rs.map Row.xs)[k]?.getD [] = rs[k].xs := by simp [hk]
  unfold basAt nohasTo
  rw [hX]
theorem getX {rs : List Row} {k : Nat} (hk : k < rs.length) : (rs.map Row.xs)[k]?.getD [] = rs[k].xs := by simp [hk]

end Go.Proofs.YtfcgohhmpgffjaaGreatDoor

/- slices.IndexFunc, slices.ContainsFunc: the function value by its contract. -/
namespace Go.Proofs.YtfcgohhmpgffjaaGreatDoor
set_option maxRecDepth 100000
open Go Go.RowKit

/-- A call's result: a number that is not below zero just where something holds. -/
def IdxPost (w : World) (b : Bool) (e : Ending) (w' : World) : Prop := ∃ i : Int, e = .returned (.int .i64 i) ∧ decide (i ≥ 0) = b ∧ Below w.heap.size w w'
theorem any_take_false {α : Type} {H : α → Bool} {l : List α} {k : Nat} (h : (l.take k).any H = false) (hk : k < l.length) (h1 : H l[k] = false) : (l.take (k + 1)).any H = false := by
  rw [List.take_succ_eq_append_getElem hk, List.any_append, h]
  simp [h1]
theorem any_at {α : Type} {H : α → Bool} {l : List α} {k : Nat} (hk : k < l.length) (h1 : H l[k] = true) : l.any H = true := List.any_eq_true.2 ⟨l[k], List.getElem_mem hk, h1⟩

set_option maxHeartbeats 800000 in
theorem indexFuncI1 (A : Option Addr) (c n : Nat) (xs : List Int) (F : Nat) (g : Nat) (H : Int → Bool) (w : World) (hn : xs.length = n) (hl : n ≤ 4611686018427387904) (hx : Rd (Value.int .i64) w w.heap.size A xs)
    (hF : ∀ args w', (callFunc F args).run Tryz.prog w' = .ok (.enter F args) w')
    (hcl : ∀ (w' : World) (k : Nat) (hk : k < xs.length), Below w.heap.size w w' → Calls Tryz.prog F #[.int .i64 xs[k], .pointer (some ⟨g, 0, none⟩)] w' (Rb w' (.bool (H xs[k])))) :
    Calls Tryz.prog 60 #[.slice A n c, .func (.func F) #[] #[.pointer (some ⟨g, 0, none⟩)]] w (IdxPost w (xs.any H)) := by
  subst hn
  go_enter Tryz.func60, Tryz.ntmps60
  go_wp2_with fail
  go_loopw [8] (fun i wr => ∃ k : Nat, k ≤ xs.length ∧ i = .int .i64 k ∧ Hid ((xs.take k).any H = false) ∧ Below w.heap.size w wr) (fun i _ => xs.length - (intOf i).toNat)
  case atStart => exact ⟨0, Nat.zero_le _, rfl, Lib.hid rfl, Below.refl _ _⟩
  case round =>
    obtain ⟨k, hk, rfl, HN, hb⟩ := hrel
    have hsz := hb.size
    rcases Nat.lt_or_ge k xs.length with hlt | hge
    · have hcall := hcl wr k hlt hb
      obtain ⟨b, off, rfl, _, hc⟩ := (hx.next hb) (by omega)
      have c1 := hc k hlt
      clear hc
      go_wp2_with fail
      (with_reducible refine hcall.mono ?_)
      rintro e w1 ⟨rfl, hb1⟩
      have hbz := hb.trans (hb1.mono hsz)
      by_cases hh : H xs[k] = true
      · have HT := Lib.hid (show xs.any H = true from any_at hlt hh)
        rw [hh]
        clear hh hcall
        go_wp2_with fail
        go_ret
        exact ⟨k, rfl, by rw [HT.out]; exact decide_eq_true (by omega), hbz⟩
      · have hhf : H xs[k] = false := by simpa using hh
        have HT := Lib.hid (show (xs.take (k + 1)).any H = false from any_take_false HN.out hlt hhf)
        rw [hhf]
        clear hh hhf hcall
        go_wp2_with fail
        go_roundw
        case rel => exact ⟨k + 1, by omega, by go_num, HT, hbz⟩
        case measure => simp [intOf]; omega
    · have HT := Lib.hid (show xs.any H = false by have := HN.out; rwa [List.take_of_length_le hge] at this)
      go_wp2_with fail
      go_ret
      exact ⟨-1, rfl, by rw [HT.out]; rfl, hb⟩
theorem containsFuncI1 (A : Option Addr) (c n : Nat) (xs : List Int) (F : Nat) (g : Nat) (H : Int → Bool) (w : World) (hn : xs.length = n) (hl : n ≤ 4611686018427387904) (hx : Rd (Value.int .i64) w w.heap.size A xs)
    (hF : ∀ args w', (callFunc F args).run Tryz.prog w' = .ok (.enter F args) w')
    (hcl : ∀ (w' : World) (k : Nat) (hk : k < xs.length), Below w.heap.size w w' → Calls Tryz.prog F #[.int .i64 xs[k], .pointer (some ⟨g, 0, none⟩)] w' (Rb w' (.bool (H xs[k])))) (b : Bool) (hb : xs.any H = b) :
    Calls Tryz.prog 29 #[.slice A n c, .func (.func F) #[] #[.pointer (some ⟨g, 0, none⟩)]] w (Rb w (.bool b)) := by
  subst hb
  have HI := Lib.hid (indexFuncI1 A c n xs F g H w hn hl hx hF hcl)
  go_enter Tryz.func29, Tryz.ntmps29
  go_wp2_with fail
  (with_reducible refine HI.out.mono ?_)
  rintro e w1 ⟨i, rfl, hd, hb1⟩
  have HD := Lib.hid hd
  clear hd
  go_wp2_with fail
  go_ret
  exact ⟨ret_bool (by rw [← HD.out]), hb1⟩

set_option maxHeartbeats 800000 in
theorem indexFuncI0 (A : Option Addr) (c n : Nat) (xs : List Int) (F : Nat) (H : Int → Bool) (w : World) (hn : xs.length = n) (hl : n ≤ 4611686018427387904) (hx : Rd (Value.int .i64) w w.heap.size A xs)
    (hF : ∀ args w', (callFunc F args).run Tryz.prog w' = .ok (.enter F args) w')
    (hcl : ∀ (w' : World) (k : Nat) (hk : k < xs.length), Below w.heap.size w w' → Calls Tryz.prog F #[.int .i64 xs[k]] w' (Rb w' (.bool (H xs[k])))) :
    Calls Tryz.prog 60 #[.slice A n c, .func (.func F) #[] #[]] w (IdxPost w (xs.any H)) := by
  subst hn
  go_enter Tryz.func60, Tryz.ntmps60
  go_wp2_with fail
  go_loopw [8] (fun i wr => ∃ k : Nat, k ≤ xs.length ∧ i = .int .i64 k ∧ Hid ((xs.take k).any H = false) ∧ Below w.heap.size w wr) (fun i _ => xs.length - (intOf i).toNat)
  case atStart => exact ⟨0, Nat.zero_le _, rfl, Lib.hid rfl, Below.refl _ _⟩
  case round =>
    obtain ⟨k, hk, rfl, HN, hb⟩ := hrel
    have hsz := hb.size
    rcases Nat.lt_or_ge k xs.length with hlt | hge
    · have hcall := hcl wr k hlt hb
      obtain ⟨b, off, rfl, _, hc⟩ := (hx.next hb) (by omega)
      have c1 := hc k hlt
      clear hc
      go_wp2_with fail
      (with_reducible refine hcall.mono ?_)
      rintro e w1 ⟨rfl, hb1⟩
      have hbz := hb.trans (hb1.mono hsz)
      by_cases hh : H xs[k] = true
      · have HT := Lib.hid (show xs.any H = true from any_at hlt hh)
        rw [hh]
        clear hh hcall
        go_wp2_with fail
        go_ret
        exact ⟨k, rfl, by rw [HT.out]; exact decide_eq_true (by omega), hbz⟩
      · have hhf : H xs[k] = false := by simpa using hh
        have HT := Lib.hid (show (xs.take (k + 1)).any H = false from any_take_false HN.out hlt hhf)
        rw [hhf]
        clear hh hhf hcall
        go_wp2_with fail
        go_roundw
        case rel => exact ⟨k + 1, by omega, by go_num, HT, hbz⟩
        case measure => simp [intOf]; omega
    · have HT := Lib.hid (show xs.any H = false by have := HN.out; rwa [List.take_of_length_le hge] at this)
      go_wp2_with fail
      go_ret
      exact ⟨-1, rfl, by rw [HT.out]; rfl, hb⟩
theorem containsFuncI0 (A : Option Addr) (c n : Nat) (xs : List Int) (F : Nat) (H : Int → Bool) (w : World) (hn : xs.length = n) (hl : n ≤ 4611686018427387904) (hx : Rd (Value.int .i64) w w.heap.size A xs)
    (hF : ∀ args w', (callFunc F args).run Tryz.prog w' = .ok (.enter F args) w')
    (hcl : ∀ (w' : World) (k : Nat) (hk : k < xs.length), Below w.heap.size w w' → Calls Tryz.prog F #[.int .i64 xs[k]] w' (Rb w' (.bool (H xs[k])))) (b : Bool) (hb : xs.any H = b) :
    Calls Tryz.prog 29 #[.slice A n c, .func (.func F) #[] #[]] w (Rb w (.bool b)) := by
  subst hb
  have HI := Lib.hid (indexFuncI0 A c n xs F H w hn hl hx hF hcl)
  go_enter Tryz.func29, Tryz.ntmps29
  go_wp2_with fail
  (with_reducible refine HI.out.mono ?_)
  rintro e w1 ⟨i, rfl, hd, hb1⟩
  have HD := Lib.hid hd
  clear hd
  go_wp2_with fail
  go_ret
  exact ⟨ret_bool (by rw [← HD.out]), hb1⟩




end Go.Proofs.YtfcgohhmpgffjaaGreatDoor

/- Avoiding a list; InClass, IsWithin. -/
namespace Go.Proofs.YtfcgohhmpgffjaaGreatDoor
set_option maxRecDepth 100000
open Go Go.RowKit

def avoidB (X : List (List Int)) (p : List Int) : Bool := !X.any fun q => hasB p q
theorem basis_perm {X : List (List Int)} (h : basisB X = true) : ∀ q ∈ X, permB q = true := fun q hq => by
  unfold basisB at h
  rw [Bool.and_eq_true] at h
  obtain ⟨i, hi, rfl⟩ := List.mem_iff_getElem.1 hq
  exact basTo_perm h.2 hi hi
theorem basis_len {X : List (List Int)} (h : basisB X = true) : X.length ≤ 8 := by
  unfold basisB at h
  rw [Bool.and_eq_true, decide_eq_true_eq] at h
  exact h.1
theorem rows_8 {rs : List Row} (h : ∀ q ∈ rs.map Row.xs, permB q = true) : ∀ r ∈ rs, r.xs.length ≤ 8 := fun r hr => (permB_true (h r.xs (List.mem_map.2 ⟨r, hr, rfl⟩))).1
theorem any_rows (rs : List Row) (H : List Int → Bool) : (rs.any fun r : Row => H r.xs) = (rs.map Row.xs).any H := by rw [List.any_map]; rfl

def inClassB (X : List (List Int)) (p : List Int) : Bool := basisB X && permB p && avoidB X p
end Go.Proofs.YtfcgohhmpgffjaaGreatDoor
