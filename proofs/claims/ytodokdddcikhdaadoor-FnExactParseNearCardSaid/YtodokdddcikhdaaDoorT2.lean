/- NearText, program and reference. -/
import Derived.Test.YtodokdddcikhdaaDoorT1
import Derived.Test.YtodokdddcikhdaaDoorN1
import Derived.Test.YtodokdddcikhdaaDoorQ1
namespace Go.Proofs.YtodokdddcikhdaaDoor
set_option maxRecDepth 100000
open Go Go.RowKit

/-- The text of the first k letters, a mark ahead of each place that is not joined. -/
def joinT (l : List UInt8) (ys : List Int) : Nat → List UInt8
  | 0 => []
  | k + 1 => joinT l ys k ++ (if 0 < k ∧ (k : Int) ∉ ys then [95] else []) ++ [l[k]?.getD 0]
def ntext (xs ys : List Int) : ByteArray := if nearB xs ys then bs (joinT (textD xs) ys (textD xs).length) else bs []
theorem joinT_size (l : List UInt8) (ys : List Int) (k : Nat) : (joinT l ys k).length ≤ 2 * k := by
  induction k with
  | zero => simp [joinT]
  | succ k ih => simp only [joinT, List.length_append, List.length_cons, List.length_nil]; split <;> simp <;> omega
theorem textD_len (xs : List Int) : (textD xs).length ≤ xs.length + 1 := by unfold textD; split <;> simp
theorem nearB_perm {xs ys : List Int} (h : nearB xs ys = true) : permB xs = true := by
  unfold nearB at h; simp only [Bool.and_eq_true] at h; exact h.1

set_option maxHeartbeats 2000000 in
theorem nearText_impl (A B : Option Addr) (c k : Nat) (xs ys : List Int) (w : World) (h : InN w A c xs B k ys) :
    Calls Tryd.prog 13 #[.agg #[.slice A xs.length c, .slice B ys.length k]] w (Rb w (.string (ntext xs ys))) := by
  have hlx := h.1.len
  have hly := h.2.len
  go_enter Tryd.func13, Tryd.ntmps13
  have hb0 : Below w.heap.size w (w.alloc (Obj.cells #[Value.slice A xs.length c, Value.slice B ys.length k] 24)) := (Below.refl _ _).alloc (Nat.le_refl _) _
  have ob := obj_new w (Obj.cells #[Value.slice A xs.length c, Value.slice B ys.length k] 24)
  go_wp2_with fail
  generalize (w.alloc (Obj.cells #[Value.slice A xs.length c, Value.slice B ys.length k] 24)) = w0 at hb0 ob ⊢
  (with_reducible refine (near_impl A B c k xs ys _ (h.next hb0)).mono ?_)
  rintro e w1 ⟨rfl, hb1⟩
  have hb := hb0.trans (hb1.mono hb0.size)
  have ob := obj_below ob hb1 (obj_lt ob)
  have f0 : w1.cell? ⟨w.heap.size, 0, none⟩ = some (Value.slice A xs.length c) := (obj_cell ob).trans rfl
  by_cases hp : nearB xs ys = true
  · have HT := Lib.hid (show ntext xs ys = bs (joinT (textD xs) ys (textD xs).length) by unfold ntext; rw [if_pos hp])
    have hpp := nearB_perm hp
    have HP := Lib.hid (show ptext xs = bs (textD xs) by unfold ptext; rw [if_pos hpp])
    have h8 := (permB_true hpp).1
    have ht9 : (textD xs).length ≤ 9 := by have := textD_len xs; omega
    rw [hp]
    clear hp hpp
    go_wp2_with fail
    (with_reducible refine (permText_impl A c xs _ (h.next hb).1).mono ?_)
    rintro e w2 ⟨rfl, hb2⟩
    rw [HP.out]
    have ob := obj_below ob hb2 (obj_lt ob)
    have hb := hb.trans (hb2.mono hb.size)
    have hbs := bs_size (textD xs)
    generalize hl : textD xs = l at HT ht9 hbs ⊢
    clear f0
    go_wp2
    go_loopw [4, 14] (fun o i wr => ∃ j : Nat, j ≤ l.length ∧ i = .int .i64 j ∧ o = .string (bs (joinT l ys j)) ∧ Below w2.heap.size w2 wr) (fun _ i _ => l.length - (intOf i).toNat)
    case atStart => exact ⟨0, Nat.zero_le _, rfl, rfl, Below.refl _ _⟩
    case round =>
      obtain ⟨j, hj, rfl, rfl, hbw⟩ := hrel
      have hsw := hbw.size
      by_cases hlt : j < l.length
      · have ob := obj_below ob hbw (obj_lt ob)
        have f1 : wr.cell? ⟨w.heap.size, 1, none⟩ = some (Value.slice B ys.length k) := (obj_cell ob).trans rfl
        have hxt := bs_extract l j hlt
        have hsd : (bs [l[j]]).size = 1 := bs_size [l[j]]
        have hsz := bs_size (joinT l ys j)
        have hjs := joinT_size l ys j
        have hsz2 : (bs (joinT l ys j ++ [95])).size = (joinT l ys j).length + 1 := by rw [bs_size]; simp
        have hap := bs_append (joinT l ys j) [95]
        have e1 : IntKind.i64.wrap ((j : Int) + 1) = (j : Int) + 1 := IntWalk.i64_in _ (by omega)
        have hgl : l[j]?.getD 0 = l[j] := by rw [List.getElem?_eq_getElem hlt]; rfl
        rcases Nat.eq_zero_or_pos j with h0 | h0
        · subst h0
          have HS := Lib.hid (show joinT l ys 1 = [] ++ [l[0]] by show [] ++ (if 0 < 0 ∧ _ then [95] else []) ++ [l[0]?.getD 0] = _; rw [if_neg (by simp), hgl]; rfl)
          clear hgl
          go_wp2
          go_roundw
          case rel => exact ⟨1, hlt, rfl, by rw [HS.out]; exact congrArg Value.string (bs_append [] [l[0]]), hbw⟩
          case measure => simp [intOf]; omega
        · have hy := (h.2.next (hb.trans (hbw.mono hb.size))).rd
          have d0 : decide ((j : Int) > 0) = true := decide_eq_true (by omega)
          by_cases hin : (j : Int) ∈ ys
          · have dm : decide ((j : Int) ∈ ys) = true := decide_eq_true hin
            have HS := Lib.hid (show joinT l ys (j + 1) = joinT l ys j ++ [l[j]] by rw [joinT, if_neg (fun hc => hc.2 hin), hgl, List.append_nil])
            clear hgl hin
            go_wp2_with fail
            (with_reducible refine (contains_any B k ys.length ys (j : Int) wr rfl (by omega) hy).mono ?_)
            rintro e w' ⟨rfl, rfl⟩
            rw [dm]
            go_wp2
            go_roundw
            case rel => exact ⟨j + 1, by omega, by go_num, by rw [HS.out]; exact congrArg Value.string (bs_append _ _), hbw⟩
            case measure => simp [intOf]; omega
          · have dm : decide ((j : Int) ∈ ys) = false := decide_eq_false hin
            have HS := Lib.hid (show joinT l ys (j + 1) = joinT l ys j ++ [95] ++ [l[j]] by rw [joinT, if_pos ⟨h0, hin⟩, hgl])
            clear hgl hin
            go_wp2_with fail
            (with_reducible refine (contains_any B k ys.length ys (j : Int) wr rfl (by omega) hy).mono ?_)
            rintro e w' ⟨rfl, rfl⟩
            rw [dm]
            go_wp2
            go_roundw
            case rel => exact ⟨j + 1, by omega, by go_num, by rw [HS.out, ← bs_append, ← bs_append]; rfl, hbw⟩
            case measure => simp [intOf]; omega
      · obtain rfl : j = l.length := by omega
        go_wp2
        go_ret
        exact ⟨by rw [HT.out]; rfl, hb.trans (hbw.mono hb.size)⟩
  · have hpf : nearB xs ys = false := by simpa using hp
    have HT := Lib.hid (show ntext xs ys = bs [] by unfold ntext; rw [hpf]; rfl)
    rw [hpf]
    go_wp2
    go_ret
    exact ⟨by rw [HT.out]; rfl, hb⟩

set_option maxHeartbeats 2000000 in
theorem nearText_spec (A B : Option Addr) (c k : Nat) (xs ys : List Int) (w : World) (h : InN w A c xs B k ys) :
    Calls Tryd.prog 10 #[.agg #[.slice A xs.length c, .slice B ys.length k]] w (Rb w (.string (ntext xs ys))) := by
  have hlx := h.1.len
  have hly := h.2.len
  go_enter Tryd.func10, Tryd.ntmps10
  have hb0 : Below w.heap.size w (w.alloc (Obj.cells #[Value.slice A xs.length c, Value.slice B ys.length k] 24)) := (Below.refl _ _).alloc (Nat.le_refl _) _
  have ob := obj_new w (Obj.cells #[Value.slice A xs.length c, Value.slice B ys.length k] 24)
  go_wp2_with fail
  generalize (w.alloc (Obj.cells #[Value.slice A xs.length c, Value.slice B ys.length k] 24)) = w0 at hb0 ob ⊢
  (with_reducible refine (near_spec A B c k xs ys _ (h.next hb0)).mono ?_)
  rintro e w1 ⟨rfl, hb1⟩
  have hb := hb0.trans (hb1.mono hb0.size)
  have ob := obj_below ob hb1 (obj_lt ob)
  have f0 : w1.cell? ⟨w.heap.size, 0, none⟩ = some (Value.slice A xs.length c) := (obj_cell ob).trans rfl
  by_cases hp : nearB xs ys = true
  · have HT := Lib.hid (show ntext xs ys = bs (joinT (textD xs) ys (textD xs).length) by unfold ntext; rw [if_pos hp])
    have hpp := nearB_perm hp
    have h8 := (permB_true hpp).1
    have HR := Lib.hid (permB_true hpp).2.1
    rw [hp]
    clear hp hpp
    by_cases hx0 : xs = []
    · subst hx0
      have HD := Lib.hid (show joinT (textD []) ys (textD []).length = [45] from rfl)
      go_wp2
      go_ret
      exact ⟨by rw [HT.out, HD.out]; rfl, hb⟩
    have hne : 0 < xs.length := List.length_pos_iff.2 hx0
    have d0 : ((xs.length : Int) == 0) = false := by simp; omega
    have hl : textD xs = xs.map dig := by unfold textD; rw [if_neg hx0]
    have hll : (textD xs).length = xs.length := by rw [hl, List.length_map]
    have HL := Lib.hid (show ∀ (j : Nat) (hj : j < xs.length), (textD xs)[j]?.getD 0 = dig xs[j] from fun j hj => by rw [hl, List.getElem?_map, List.getElem?_eq_getElem hj]; rfl)
    rw [hll] at HT
    generalize textD xs = l at HT HL hll
    clear hl hx0
    go_wp2
    go_loopw [3, 4] (fun o i wr => ∃ j : Nat, j ≤ xs.length ∧ i = .int .i64 j ∧ o = .string (bs (joinT l ys j)) ∧ Below w1.heap.size w1 wr) (fun _ i _ => xs.length - (intOf i).toNat)
    case atStart => exact ⟨0, Nat.zero_le _, rfl, rfl, Below.refl _ _⟩
    case round =>
      obtain ⟨j, hj, rfl, rfl, hbw⟩ := hrel
      have hsw := hbw.size
      have ob := obj_below ob hbw (obj_lt ob)
      have f0 : wr.cell? ⟨w.heap.size, 0, none⟩ = some (Value.slice A xs.length c) := (obj_cell ob).trans rfl
      by_cases hlt : j < xs.length
      · have f1 : wr.cell? ⟨w.heap.size, 1, none⟩ = some (Value.slice B ys.length k) := (obj_cell ob).trans rfl
        have hbr := hb.trans (hbw.mono hb.size)
        obtain ⟨b, off, rfl, _, hc⟩ := (h.1.next hbr).rd hne
        have c1 := hc j hlt
        have hsz := bs_size (joinT l ys j)
        have hjs := joinT_size l ys j
        have hsz2 : (bs (joinT l ys j ++ [95])).size = (joinT l ys j).length + 1 := by rw [bs_size]; simp
        have hap := bs_append (joinT l ys j) [95]
        have hsd : (bs [dig xs[j]]).size = 1 := bs_size [dig xs[j]]
        have hgl : l[j]?.getD 0 = dig xs[j] := HL.out j hlt
        have hv := HR.out xs[j] (List.getElem_mem hlt)
        clear hc
        rcases Nat.eq_zero_or_pos j with h0 | h0
        · subst h0
          have HS := Lib.hid (show joinT l ys 1 = [] ++ [dig xs[0]] by show [] ++ (if 0 < 0 ∧ _ then [95] else []) ++ [l[0]?.getD 0] = _; rw [if_neg (by simp), hgl]; rfl)
          have c1' : wr.cell? ⟨b, off, none⟩ = some (.int .i64 xs[0]) := c1
          clear hgl
          go_wp2_with fail
          (with_reducible refine (format_one xs[0] wr ⟨hv.1, by omega⟩).mono ?_)
          rintro e w' ⟨rfl, hbf⟩
          go_wp2
          go_roundw
          case rel => exact ⟨1, hlt, rfl, by rw [HS.out]; exact congrArg Value.string (bs_append [] [dig xs[0]]), hbw.trans (hbf.mono hbw.size)⟩
          case measure => simp [intOf]; omega
        · have hy := (h.2.next hbr).rd
          have d0 : decide ((j : Int) > 0) = true := decide_eq_true (by omega)
          by_cases hin : (j : Int) ∈ ys
          · have dm : decide ((j : Int) ∈ ys) = true := decide_eq_true hin
            have HS := Lib.hid (show joinT l ys (j + 1) = joinT l ys j ++ [dig xs[j]] by rw [joinT, if_neg (fun hc => hc.2 hin), hgl, List.append_nil])
            clear hgl hin
            go_wp2_with fail
            (with_reducible refine (l2Has_any B k ys.length ys (j : Int) wr rfl (by omega) hy).mono ?_)
            rintro e w' ⟨rfl, rfl⟩
            rw [dm]
            go_wp2_with fail
            (with_reducible refine (format_one xs[j] wr ⟨hv.1, by omega⟩).mono ?_)
            rintro e w' ⟨rfl, hbf⟩
            go_wp2
            go_roundw
            case rel => exact ⟨j + 1, by omega, by go_num, by rw [HS.out]; exact congrArg Value.string (bs_append _ _), hbw.trans (hbf.mono hbw.size)⟩
            case measure => simp [intOf]; omega
          · have dm : decide ((j : Int) ∈ ys) = false := decide_eq_false hin
            have HS := Lib.hid (show joinT l ys (j + 1) = joinT l ys j ++ [95] ++ [dig xs[j]] by rw [joinT, if_pos ⟨h0, hin⟩, hgl])
            clear hgl hin
            go_wp2_with fail
            (with_reducible refine (l2Has_any B k ys.length ys (j : Int) wr rfl (by omega) hy).mono ?_)
            rintro e w' ⟨rfl, rfl⟩
            rw [dm]
            go_wp2_with fail
            (with_reducible refine (format_one xs[j] wr ⟨hv.1, by omega⟩).mono ?_)
            rintro e w' ⟨rfl, hbf⟩
            go_wp2
            go_roundw
            case rel => exact ⟨j + 1, by omega, by go_num, by rw [HS.out, ← bs_append, ← bs_append]; rfl, hbw.trans (hbf.mono hbw.size)⟩
            case measure => simp [intOf]; omega
      · obtain rfl : j = xs.length := by omega
        go_wp2
        go_ret
        exact ⟨by rw [HT.out]; rfl, hb.trans (hbw.mono hb.size)⟩
  · have hpf : nearB xs ys = false := by simpa using hp
    have HT := Lib.hid (show ntext xs ys = bs [] by unfold ntext; rw [hpf]; rfl)
    rw [hpf]
    go_wp2
    go_ret
    exact ⟨by rw [HT.out]; rfl, hb⟩
end Go.Proofs.YtodokdddcikhdaaDoor
