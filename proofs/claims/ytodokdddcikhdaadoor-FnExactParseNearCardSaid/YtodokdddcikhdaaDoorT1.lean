/- Texts: FormatInt of one digit, PermText. -/
import Derived.Test.YtodokdddcikhdaaDoorR2
import Derived.Test.YtodokdddcikhdaaDoorP3
import Derived.Laws.BytesString
namespace Go.Proofs.YtodokdddcikhdaaDoor
set_option maxRecDepth 100000
open Go Go.RowKit

theorem infoU8 : (Tryd.prog.info? 5).map (fun i => (i.zero, i.size, i.bytes)) = some (some (.int .u8 0), 1, 1) := by kernel_rfl
/-- A string off its bytes. -/
def bs (l : List UInt8) : ByteArray := ⟨l.toArray⟩
def dig (x : Int) : UInt8 := UInt8.ofNat (48 + x).toNat

theorem bs_append (l l' : List UInt8) : bs l ++ bs l' = bs (l ++ l') := by
  apply ByteArray.ext
  simp [bs]
theorem bs_size (l : List UInt8) : (bs l).size = l.length := by simp [bs, ByteArray.size]
theorem bs_extract (l : List UInt8) (i : Nat) (h : i < l.length) : (bs l).extract i (i + 1) = bs [l[i]] := by
  apply ByteArray.ext
  simp only [bs, ByteArray.data_extract, List.extract_toArray]
  congr 1
  rw [List.extract_eq_take_drop, List.drop_eq_getElem_cons h, Nat.add_sub_cancel_left]
  rfl
theorem fold_bs (ns : List Int) (l : List UInt8) : ns.foldl (fun (r : ByteArray) (n : Int) => r.push (UInt8.ofNat n.toNat)) (bs l) = bs (l ++ ns.map fun n => UInt8.ofNat n.toNat) := by
  induction ns generalizing l with
  | nil => simp
  | cons n t ih =>
    have : (bs l).push (UInt8.ofNat n.toNat) = bs (l ++ [UInt8.ofNat n.toNat]) := by simp [bs, ByteArray.push]
    rw [List.foldl_cons, this, ih]
    simp
/-- 'string(b)' of a slice of bytes that is read. -/
theorem conv_bytes {w : World} {B b off c n : Nat} {ns : List Int} (h : Rd (Value.int .u8) w B (some ⟨b, off, none⟩) ns) (hn : ns.length = n) :
    (convert 43 9 (.slice (some ⟨b, off, none⟩) n c)).run Tryd.prog w = .ok (.string (bs (ns.map fun n => UInt8.ofNat n.toNat))) w := by
  rw [run_convert_bytes_string w 43 9 5 _ _ _ Tryd.underlying43 Tryd.underlying5 Tryd.underlying9, run_bytesToString w ⟨b, off, none⟩ n c ns]
  · rw [show ByteArray.empty = bs [] from rfl, fold_bs]; rfl
  · have hl := run_loadCells_list (P := Tryd.prog) (w := w) ⟨b, off, none⟩ (ns.map (Value.int .u8)) (by
      intro j v hv
      rw [List.getElem?_map] at hv
      rcases hj : ns[j]? with _ | x
      · rw [hj] at hv; cases hv
      · rw [hj] at hv
        injection hv with hv
        obtain ⟨hlt, hx⟩ := List.getElem?_eq_some_iff.1 hj
        obtain ⟨b', off', he, _, hc⟩ := h (by omega)
        injection he with he
        injection he with h1 h2
        subst h1 h2
        rw [show (⟨b, off, none⟩ : Addr).add j = ⟨b, off + j, none⟩ by unfold Addr.add; by_cases h : j = 0 <;> simp [h], hc j hlt, ← hv, hx])
    rw [List.length_map, hn] at hl
    exact hl

set_option maxHeartbeats 1000000 in
theorem format_one (x : Int) (w : World) (hx : 1 ≤ x ∧ x ≤ 9) :
    Calls Tryd.prog 20 #[.int .i64 x] w (Rb w (.string (bs [dig x]))) := by
  go_enter Tryd.func20, Tryd.ntmps20
  have d0 : (x == 0) = false := by simp; omega
  have d1 : decide (x < 0) = false := decide_eq_false (by omega)
  have d2 : (x != 0) = true := by simp; omega
  have t1 : x.tmod 10 = x := Int.tmod_eq_of_lt (by omega) (by omega)
  have t2 : x.tdiv 10 = 0 := Int.tdiv_eq_zero_of_lt (by omega) (by omega)
  go_wp2
  go_loopw [0, 4] (fun i o wr => ((i = .int .i64 x ∧ o = .string ⟨#[]⟩) ∨ (i = .int .i64 0 ∧ o = .string (bs [dig x]))) ∧ Below w.heap.size w wr) (fun i _ _ => (intOf i).toNat)
  case atStart => exact ⟨.inl ⟨rfl, rfl⟩, Below.refl _ _⟩
  case round =>
    obtain ⟨⟨rfl, rfl⟩ | ⟨rfl, rfl⟩, hb⟩ := hrel
    · have hr : Rd (Value.int .u8) (wr.alloc (Obj.cells #[Value.int IntKind.u8 (48 + x)] 5)) (wr.heap.size + 1) (some ⟨wr.heap.size, 0, none⟩) [48 + x] := fun _ => ⟨wr.heap.size, 0, rfl, Nat.lt_succ_self _, fun j hj => by
        obtain rfl : j = 0 := by simpa using hj
        simp⟩
      have hcv := conv_bytes (c := 1) (n := 1) hr rfl
      have hb1 := hb.alloc hb.size (Obj.cells #[Value.int IntKind.u8 (48 + x)] 5)
      go_wp2
      go_roundw
      case rel => exact ⟨.inr ⟨rfl, by rw [show (ByteArray.mk #[]) = bs [] from rfl, bs_append]; rfl⟩, hb1⟩
      case measure => simp [intOf]; omega
    · go_wp2
      go_ret
      exact ⟨rfl, hb⟩

/-- What PermText writes of a permutation. -/
def textD (xs : List Int) : List UInt8 := if xs = [] then [45] else xs.map dig
def digL (xs : List Int) (k : Nat) : List Int := (xs.take k).map fun x => 48 + x
theorem digL_length (xs : List Int) (k : Nat) (h : k ≤ xs.length) : (digL xs k).length = k := by simp [digL]; omega
theorem digL_succ (xs : List Int) (k : Nat) (h : k < xs.length) : digL xs (k + 1) = digL xs k ++ [48 + xs[k]] := by
  unfold digL; rw [List.take_succ_eq_append_getElem h, List.map_append]; rfl
def ptext (xs : List Int) : ByteArray := if permB xs then bs (textD xs) else bs []

set_option maxHeartbeats 1000000 in
theorem permText_impl (A : Option Addr) (c : Nat) (xs : List Int) (w : World) (h : In w A c xs) :
    Calls Tryd.prog 24 #[.slice A xs.length c] w (Rb w (.string (ptext xs))) := by
  obtain ⟨i0, hi, hz0, hz1, hz2⟩ := info_parts infoU8
  have hl := h.len
  by_cases hp : permB xs = true
  · have HT := Lib.hid (show ptext xs = bs (textD xs) by unfold ptext; rw [if_pos hp])
    have h8 := (permB_true hp).1
    have hr := (permB_true hp).2.1
    go_enter Tryd.func24, Tryd.ntmps24
    go_wp2_with fail
    (with_reducible refine (isPerm_impl A c xs _ h).mono ?_)
    rintro e wp ⟨rfl, hbp⟩
    rw [hp]
    clear hp
    by_cases h0 : xs = []
    · subst h0
      go_wp2
      go_ret
      exact ⟨by rw [HT.out]; rfl, hbp⟩
    · have hne : 0 < xs.length := List.length_pos_iff.2 h0
      have d0 : ((xs.length : Int) == 0) = false := by simp; omega
      have HD := Lib.hid (show textD xs = (digL xs xs.length).map fun n => UInt8.ofNat n.toNat by unfold textD digL; rw [if_neg h0, List.take_length, List.map_map]; rfl)
      clear h0
      have hx := (h.next hbp).rd
      have HR := Lib.hid hr
      clear hr
      go_wp2
      have hown0 : (wp.alloc (.cells #[] 5)).ownsRow wp.heap.size 5 1 (.slice (some ⟨wp.heap.size, 0, none⟩) 0 0) 0 ((digL xs 0).map (Value.int .u8)) := World.ownsRow_lit wp #[] 0 (Nat.le_refl _) (by unfold maxLen; omega) rfl
      have hb0 := (Below.refl wp.heap.size wp).alloc (Nat.le_refl _) (.cells #[] 5)
      go_loopw [3, 15] (fun v i wr => ∃ (k : Nat) (A' : Option Addr) (c' : Nat), k ≤ xs.length ∧ i = .int .i64 k ∧ v = .slice A' k c' ∧ wr.ownsRow wp.heap.size 5 1 (.slice A' k c') k ((digL xs k).map (Value.int .u8)) ∧ Below wp.heap.size wp wr) (fun _ i _ => xs.length - (intOf i).toNat)
      case atStart => exact ⟨0, _, _, Nat.zero_le _, rfl, rfl, hown0, hb0⟩
      case round =>
        clear hown0 hb0
        obtain ⟨k, A', c', hk, rfl, rfl, hown, hb⟩ := hrel
        have hsz := hb.size
        rcases Nat.lt_or_ge k xs.length with hlt | hge
        · obtain ⟨b, off, rfl, _, hc⟩ := (hx.below hb) hne
          have c1 := hc k hlt
          have hbx := HR.out xs[k] (List.getElem_mem hlt)
          have HS := Lib.hid (digL_succ xs k hlt)
          clear hc
          go_wp2_with (at_builtin; refine wpList_append_own _ rfl _ _ 43 rfl (wp.heap.size) 5 i0 (.int .u8 0) 1 1 Tryd.underlying43 hi hz0 hz1 hz2 rfl (by decide) _ _ _ rfl (World.ownsRow.alloc hown _) ⟨wr.heap.size, 0, none⟩ 1 1 [.int .u8 (48 + xs[k])] rfl rfl (cell_one_new _ _ _) (by intro u hu; simp at hu; subst hu; rfl) (by unfold maxLen; omega) (by omega) (by simp; omega) ?_; intro v1 w1 hown1 hgrow1 _)
          have hb1 := (hb.alloc hsz (Obj.cells #[Value.int .u8 (48 + xs[k])] 5)).grown hgrow1 (by simp; omega) (by intro g hg; exact ((hown.lt g hg).1))
          have hS2 : w1.ownsRow wp.heap.size 5 1 v1 (k + 1) ((digL xs (k + 1)).map (Value.int .u8)) := by rw [HS.out]; simpa using hown1
          obtain ⟨A1, cc, rfl, _, _⟩ := own_shape hS2
          have hH1 := Lib.hid hS2
          have hH2 := Lib.hid hb1
          clear hS2 hown1 hgrow1 hb1 hown hb
          go_wp2
          go_roundw
          case rel => exact ⟨k + 1, A1, cc, by omega, by go_num, rfl, hH1.out, hH2.out⟩
          case measure => simp [intOf]; omega
        · obtain rfl : k = xs.length := by omega
          obtain ⟨g, cap, hv, _, hgl⟩ := hown.form hne
          have hA' : A' = some ⟨g, 0, none⟩ := by injection hv
          subst hA'
          have hrd : Rd (Value.int .u8) wr wr.heap.size (some ⟨g, 0, none⟩) (digL xs xs.length) := Rd.of_own (c := c') (by rw [digL_length xs xs.length (Nat.le_refl _)]; exact hown)
          have hcv := conv_bytes (c := c') hrd (digL_length xs xs.length (Nat.le_refl _))
          clear hv
          go_wp2
          go_ret
          exact ⟨by rw [HT.out, HD.out]; rfl, hbp.trans (hb.mono hbp.size)⟩
  · have hpf : permB xs = false := by simpa using hp
    have HT := Lib.hid (show ptext xs = bs [] by unfold ptext; rw [hpf]; rfl)
    go_enter Tryd.func24, Tryd.ntmps24
    go_wp2_with fail
    (with_reducible refine (isPerm_impl A c xs _ h).mono ?_)
    rintro e wp ⟨rfl, hbp⟩
    rw [hpf]
    go_wp2
    go_ret
    exact ⟨by rw [HT.out]; rfl, hbp⟩
end Go.Proofs.YtodokdddcikhdaaDoor
