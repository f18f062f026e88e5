/- BasisText, program and reference. -/
import Derived.Test.YtmkaelefljjamaaT1
import Derived.Test.YtmkaelefljjamaaG2
import Derived.Test.YtmkaelefljjamaaShelf
import Derived.Lib.AppendStr
namespace Go.Proofs.Ytmkaelefljjamaa
set_option maxRecDepth 100000
open Go Go.RowKit

def wordsT (X : List (List Int)) : List ByteArray := X.map ptext
def btxt (X : List (List Int)) : ByteArray := if basisB X = true then ⟨(Lib.join ((wordsT X).map (·.data.toList)) [32]).toArray⟩ else bs []
theorem wordsT_succ (X : List (List Int)) (k : Nat) (h : k < X.length) : wordsT (X.take (k + 1)) = wordsT (X.take k) ++ [ptext X[k]] := by
  unfold wordsT; rw [List.take_succ_eq_append_getElem h, List.map_append]; rfl
theorem infoS : (Try.prog.info? 9).map (fun i => (i.zero, i.size, i.bytes)) = some (some (.string ⟨#[]⟩), 1, 16) := by kernel_rfl

theorem bs_list (l : List UInt8) : (bs l).data.toList = l := by simp [bs]
theorem btxt_yes {X : List (List Int)} (h : basisB X = true) : btxt X = ⟨(Lib.join ((wordsT X).map (·.data.toList)) [32]).toArray⟩ := by unfold btxt; rw [if_pos h]
theorem btxt_no {X : List (List Int)} (h : basisB X = false) : btxt X = bs [] := by unfold btxt; rw [h]; rfl
theorem lens_le (L : List (List UInt8)) (m : Nat) (h : ∀ l ∈ L, l.length ≤ m) : Lib.lens L ≤ m * L.length := by
  induction L with
  | nil => simp [Lib.lens]
  | cons a t ih =>
    have h1 := ih (fun l hl => h l (by simp [hl]))
    have h2 := h a (by simp)
    simp only [Lib.lens, List.map_cons, List.sum_cons, List.length_cons, Nat.mul_add] at h1 ⊢
    omega
theorem join_le (L : List (List UInt8)) (x : UInt8) (m : Nat) (h : ∀ l ∈ L, l.length ≤ m) : (Lib.join L [x]).length ≤ (m + 1) * L.length := by
  cases L with
  | nil => simp [Lib.join_nil]
  | cons a t =>
    rw [Lib.join_length]
    have := lens_le (a :: t) m h
    have h1 : [x].length = 1 := rfl
    rw [h1]
    simp only [List.length_cons, Nat.add_mul, Nat.mul_add] at this ⊢
    omega
theorem join_succ (L : List (List UInt8)) (sep : List UInt8) (k : Nat) (h : k < L.length) : Lib.join (L.take (k + 1)) sep = if k = 0 then L[k] else Lib.join (L.take k) sep ++ sep ++ L[k] := by
  cases L with
  | nil => simp at h
  | cons a t =>
    rcases k with _ | k
    · simp [Lib.join_one]
    · rw [if_neg (by omega), List.take_succ_cons, List.take_succ_cons, Lib.join_cons, Lib.join_cons, Lib.joinTail_take_succ sep t k (t[k]'(by simpa using h)) (List.getElem?_eq_getElem (by simpa using h))]
      simp [List.append_assoc]
theorem ptext_le (xs : List Int) : (ptext xs).data.toList.length ≤ 9 := by
  unfold ptext
  by_cases h : permB xs = true
  · rw [if_pos h, bs_list]
    have := (permB_true h).1
    unfold textD
    split <;> simp <;> omega
  · rw [if_neg h, bs_list]; simp
theorem words_join_le (X : List (List Int)) : (Lib.join ((wordsT X).map (·.data.toList)) [32]).length ≤ 10 * X.length := by
  have := join_le ((wordsT X).map (·.data.toList)) 32 9 (by
    intro l hl
    obtain ⟨b, hb, rfl⟩ := List.mem_map.1 hl
    obtain ⟨q, _, rfl⟩ := List.mem_map.1 hb
    exact ptext_le q)
  simpa [wordsT] using this
set_option maxHeartbeats 2000000 in
theorem basisText_impl (A : Option Addr) (c : Nat) (qs : List Row) (w : World) (h : InL w A c qs) :
    Calls Try.prog 43 #[.slice A qs.length c] w (Rb w (.string (btxt (qs.map Row.xs)))) := by
  obtain ⟨i0, hi, hz0, hz1, hz2⟩ := info_parts infoS
  have hlen := h.len
  by_cases hB : basisB (qs.map Row.xs) = true
  · have H1 := Lib.hid hB
    have HG := Lib.hid (btxt_yes hB)
    clear hB
    go_enter Try.func43, Try.ntmps43
    go_wp2_with fail
    (with_reducible refine (basis_ib A c qs w true h H1.out).mono ?_)
    rintro e w1 ⟨rfl, hb1⟩
    have hsz1 := hb1.size
    have hown0 : (w1.alloc (.cells #[] 9)).ownsRow w.heap.size 9 1 (.slice (some ⟨w1.heap.size, 0, none⟩) 0 0) 0 ((wordsT ((qs.map Row.xs).take 0)).map Value.string) := World.ownsRow_lit w1 #[] 0 hsz1 (by unfold maxLen; omega) rfl
    have hb0 := hb1.alloc hsz1 (.cells #[] 9)
    go_wp2_with fail
    go_loopw [3, 12] (fun v i wr => ∃ (k : Nat) (A1 : Option Addr) (c1 : Nat), k ≤ qs.length ∧ i = .int .i64 k ∧ v = .slice A1 k c1 ∧ wr.ownsRow w.heap.size 9 1 (.slice A1 k c1) k ((wordsT ((qs.map Row.xs).take k)).map Value.string) ∧ Below w.heap.size w wr) (fun _ i _ => qs.length - (intOf i).toNat)
    case atStart => exact ⟨0, _, _, Nat.zero_le _, rfl, rfl, hown0, hb0⟩
    case round =>
      clear hown0 hb0
      obtain ⟨k, A1, c1, hk, rfl, rfl, hown, hb⟩ := hrel
      rcases Nat.lt_or_ge k qs.length with hlt | hge
      · have HS := Lib.hid (show wordsT ((qs.map Row.xs).take (k + 1)) = wordsT ((qs.map Row.xs).take k) ++ [ptext qs[k].xs] by rw [wordsT_succ _ _ (by simpa using hlt)]; simp)
        obtain ⟨b', off, rfl, _, hc⟩ := (h.next hb).read.at (by omega)
        have g1 := hc k hlt
        have hin := (h.next hb).row (List.getElem_mem hlt)
        clear hc
        go_wp2_with fail
        (with_reducible refine (permText_impl qs[k].A qs[k].c qs[k].xs wr hin).mono ?_)
        rintro e w2 ⟨rfl, hb2⟩
        have hown2 := own_below hown hb2
        have hbw := hb.trans (hb2.mono hb.size)
        have hszw := hbw.size
        clear hown hb2
        go_wp2_with (at_builtin; refine wpList_append_own _ rfl _ _ 69 rfl (w.heap.size) 9 i0 (.string ⟨#[]⟩) 1 16 Try.underlying69 hi hz0 hz1 hz2 rfl (by decide) _ _ _ rfl (World.ownsRow.alloc hown2 _) ⟨w2.heap.size, 0, none⟩ 1 1 [.string (ptext qs[k].xs)] rfl rfl (cell_one_at _ _ (by simp)) (by intro u hu; simp at hu; subst hu; rfl) (by unfold maxLen; omega) (by omega) (by simp; omega) ?_; intro v7 w7 hown7 hgrow7 _)
        have hS2 : w7.ownsRow w.heap.size 9 1 v7 (k + 1) ((wordsT ((qs.map Row.xs).take (k + 1))).map Value.string) := by rw [HS.out]; simpa using hown7
        have hb3 := (hbw.alloc hszw _).grown hgrow7 (by simp; omega) (fun g hg => (hown2.lt g hg).1)
        obtain ⟨A3, c3, rfl, _, _⟩ := own_shape hS2
        have K := Lib.hid (And.intro hS2 hb3)
        clear hS2 hown7 hgrow7 hb3 hown2 hbw
        go_wp2_with fail
        go_roundw
        case rel => exact ⟨k + 1, A3, c3, by omega, by go_num, rfl, K.out.1, K.out.2⟩
        case measure => simp [intOf]; omega
      · obtain rfl : k = qs.length := by omega
        rw [List.take_of_length_le (by simp)] at hown
        have hwl : (wordsT (qs.map Row.xs)).length = qs.length := by simp [wordsT]
        have hrd : Rd Value.string wr wr.heap.size A1 (wordsT (qs.map Row.xs)) := Rd.of_own (e := 9) (c := c1) (by rw [hwl]; exact hown)
        have hcp := (own_caps hown).1
        rcases Nat.eq_zero_or_pos qs.length with h0 | h0
        · have hq : qs = [] := List.length_eq_zero_iff.1 h0
          have HG2 := Lib.hid (show btxt (qs.map Row.xs) = ⟨#[]⟩ by rw [HG.out, hq]; rfl)
          have HJ := Lib.hid (Try.strings_Join_none A1 c1 ⟨#[32]⟩ wr)
          have h0' := Lib.hid h0
          clear hrd hwl
          have hlz : (qs.length : Int) = 0 := by omega
          go_wp2_with fail
          (with_reducible refine HJ.out.mono ?_)
          rintro e w2 ⟨rfl, rfl⟩
          go_wp2_with fail
          go_ret
          exact ⟨by rw [HG2.out]; rfl, hb⟩
        · obtain ⟨bt, ot, rfl, hbt, hct⟩ := hrd (by omega)
          have hjl := words_join_le (qs.map Row.xs)
          rw [List.length_map] at hjl
          have ct := Try.strings_Join bt ot c1 (wordsT (qs.map Row.xs)) ⟨#[32]⟩ wr (fun j x hx => by
            obtain ⟨hj, rfl⟩ := List.getElem?_eq_some_iff.1 hx
            exact hct j hj) hbt (by omega) (by omega) (Nat.le_trans hjl (by omega))
          rw [hwl] at ct
          clear hct
          go_wp2_with fail
          (with_reducible refine ct.mono ?_)
          clear ct
          rintro e w2 ⟨rfl, hb2⟩
          go_wp2_with fail
          go_ret
          exact ⟨by rw [HG.out]; rfl, hb.trans (hb2.mono hb.size)⟩
  · have hBf : basisB (qs.map Row.xs) = false := by simpa using hB
    have H1 := Lib.hid hBf
    have HG := Lib.hid (btxt_no hBf)
    clear hB hBf
    go_enter Try.func43, Try.ntmps43
    go_wp2_with fail
    (with_reducible refine (basis_ib A c qs w false h H1.out).mono ?_)
    rintro e w1 ⟨rfl, hb1⟩
    go_wp2_with fail
    go_ret
    exact ⟨by rw [HG.out]; rfl, hb1⟩

def digT (xs : List Int) (k : Nat) : List UInt8 := (xs.take k).map dig
theorem digT_succ (xs : List Int) (k : Nat) (h : k < xs.length) : digT xs (k + 1) = digT xs k ++ [dig xs[k]] := by unfold digT; rw [List.take_succ_eq_append_getElem h, List.map_append]; rfl
theorem digT_len (xs : List Int) (k : Nat) : (digT xs k).length ≤ xs.length := by unfold digT; simp; omega
set_option maxHeartbeats 2000000 in
theorem permText_spec (A : Option Addr) (c : Nat) (xs : List Int) (w : World) (h : In w A c xs) :
    Calls Try.prog 82 #[.slice A xs.length c] w (Rb w (.string (ptext xs))) := by
  have hl := h.len
  by_cases hp : permB xs = true
  · have HT := Lib.hid (show ptext xs = bs (textD xs) by unfold ptext; rw [if_pos hp])
    have h8 := (permB_true hp).1
    have HR := Lib.hid (permB_true hp).2.1
    have HP := Lib.hid hp
    clear hp
    go_enter Try.func82, Try.ntmps82
    go_wp2_with fail
    (with_reducible refine (isPerm_sb A c xs w true h HP.out).mono ?_)
    rintro e w1 ⟨rfl, hd1⟩
    have hb := below_dr (Below.refl w.heap.size w) hd1
    by_cases h0 : xs = []
    · subst h0
      go_wp2_with fail
      go_ret
      exact ⟨by rw [HT.out]; rfl, hb⟩
    have hne : 0 < xs.length := List.length_pos_iff.2 h0
    have d0 : ((xs.length : Int) == 0) = false := by simp; omega
    have HD := Lib.hid (show textD xs = digT xs xs.length by unfold textD digT; rw [if_neg h0, List.take_length])
    clear h0
    go_wp2_with fail
    go_loopw [3, 4] (fun o i wr => ∃ j : Nat, j ≤ xs.length ∧ i = .int .i64 j ∧ o = .string (bs (digT xs j)) ∧ Below w.heap.size w wr) (fun _ i _ => xs.length - (intOf i).toNat)
    case atStart => exact ⟨0, Nat.zero_le _, rfl, rfl, hb⟩
    case round =>
      obtain ⟨j, hj, rfl, rfl, hbw⟩ := hrel
      have hsw := hbw.size
      by_cases hlt : j < xs.length
      · obtain ⟨b, off, rfl, _, hc⟩ := (h.next hbw).rd hne
        have c1 := hc j hlt
        have hv := HR.out xs[j] (List.getElem_mem hlt)
        have HS := Lib.hid (digT_succ xs j hlt)
        have hsz := bs_size (digT xs j)
        have hjs := digT_len xs j
        have hsd : (bs [dig xs[j]]).size = 1 := bs_size [dig xs[j]]
        clear hc
        go_wp2_with fail
        (with_reducible refine (format_one xs[j] wr ⟨hv.1, by omega⟩).mono ?_)
        rintro e w' ⟨rfl, hbf⟩
        go_wp2
        go_roundw
        case rel => exact ⟨j + 1, by omega, by go_num, by rw [HS.out]; exact congrArg Value.string (bs_append _ _), hbw.trans (hbf.mono hbw.size)⟩
        case measure => simp [intOf]; omega
      · obtain rfl : j = xs.length := by omega
        go_wp2
        go_ret
        exact ⟨by rw [HT.out, HD.out]; rfl, hbw⟩
  · have hpf : permB xs = false := by simpa using hp
    have HT := Lib.hid (show ptext xs = bs [] by unfold ptext; rw [hpf]; rfl)
    clear hp
    go_enter Try.func82, Try.ntmps82
    go_wp2_with fail
    (with_reducible refine (isPerm_sb A c xs w false h hpf).mono ?_)
    rintro e w1 ⟨rfl, hd1⟩
    go_wp2_with fail
    go_ret
    exact ⟨by rw [HT.out]; rfl, below_dr (Below.refl w.heap.size w) hd1⟩
def u8V (b : UInt8) : Value := .int .u8 b.toNat
theorem strCells_u8 (s : ByteArray) : Lib.strCells s = s.data.toList.map u8V := rfl
def jnT (ts : List ByteArray) (k : Nat) : List UInt8 := Lib.join ((ts.take k).map (·.data.toList)) [32]
theorem jnT_succ (ts : List ByteArray) (k : Nat) (h : k < ts.length) : jnT ts (k + 1) = if k = 0 then ts[k].data.toList else jnT ts k ++ [32] ++ ts[k].data.toList := by
  have := join_succ (ts.map (·.data.toList)) [32] k (by simpa using h)
  unfold jnT
  rw [List.map_take, this, List.map_take]
  simp
theorem jnT_le (ts : List ByteArray) (k : Nat) (hs : ∀ t ∈ ts, t.size ≤ 16) : (jnT ts k).length ≤ 17 * k := by
  have := join_le ((ts.take k).map (·.data.toList)) 32 16 (by
    intro l hl
    obtain ⟨t, ht, rfl⟩ := List.mem_map.1 hl
    exact hs t (List.mem_of_mem_take ht))
  rw [List.length_map] at this
  have h2 := List.length_take_le k ts
  unfold jnT
  omega
theorem own_some {w : World} {base e n : Nat} {v : Value} {vs : List Value} (h : w.ownsRow base e 1 v n vs) (hne : v ≠ .slice none 0 0) : ∃ g c, v = .slice (some ⟨g, 0, none⟩) n c := by
  rcases h.2 with ⟨rfl, _⟩ | ⟨g, cap, cur, rfl, _⟩
  · exact absurd rfl hne
  · exact ⟨g, cap, rfl⟩
theorem infoU8' : (Try.prog.info? 5).map (fun i => (i.zero, i.size, i.bytes)) = some (some (.int .u8 0), 1, 1) := by kernel_rfl
set_option maxHeartbeats 4000000 in
theorem join_spec (A : Option Addr) (c : Nat) (ts : List ByteArray) (w : World) (hl : ts.length ≤ 100) (hs : ∀ t ∈ ts, t.size ≤ 16) (h : Rd Value.string w w.heap.size A ts) :
    Calls Try.prog 83 #[.slice A ts.length c, .string ⟨#[32]⟩] w (Rb w (.string ⟨(Lib.join (ts.map (·.data.toList)) [32]).toArray⟩)) := by
  obtain ⟨i0, hi, hz0, hz1, hz2⟩ := info_parts infoU8'
  have hown0 : (w.alloc (.cells #[] 5)).ownsRow w.heap.size 5 1 (.slice (some ⟨w.heap.size, 0, none⟩) 0 0) (jnT ts 0).length ((jnT ts 0).map u8V) := World.ownsRow_lit w #[] 0 (Nat.le_refl _) (by unfold maxLen; omega) rfl
  have hb0 := (Below.refl w.heap.size w).alloc (Nat.le_refl _) (.cells #[] 5)
  have HSZ := Lib.hid hs
  clear hs
  go_enter Try.func83, Try.ntmps83
  go_wp2_with fail
  go_loopw [5, 6] (fun v i wr => ∃ (k : Nat) (A1 : Addr) (c1 : Nat), k ≤ ts.length ∧ i = .int .i64 k ∧ v = .slice (some A1) (jnT ts k).length c1 ∧ wr.ownsRow w.heap.size 5 1 (.slice (some A1) (jnT ts k).length c1) (jnT ts k).length ((jnT ts k).map u8V) ∧ Below w.heap.size w wr) (fun _ i _ => ts.length - (intOf i).toNat)
  case atStart => exact ⟨0, _, _, Nat.zero_le _, rfl, rfl, hown0, hb0⟩
  case round =>
    clear hown0 hb0
    obtain ⟨k, A1, c1, hk, rfl, rfl, hown, hb⟩ := hrel
    have hjl := jnT_le ts k HSZ.out
    have hsz := hb.size
    rcases Nat.lt_or_ge k ts.length with hlt | hge
    · obtain ⟨b, off, rfl, _, hc⟩ := (h.below hb) (by omega)
      have g1 := hc k hlt
      have hks := HSZ.out ts[k] (List.getElem_mem hlt)
      have HS := Lib.hid (jnT_succ ts k hlt)
      have hlk : (Lib.strCells ts[k]).length = ts[k].size := Lib.strCells_length _
      clear hc
      rcases Nat.eq_zero_or_pos k with h0 | h0
      · subst h0
        have g1' : wr.cell? ⟨b, off, none⟩ = some (.string ts[0]) := g1
        have HT := Lib.hid (show jnT ts 1 = ts[0].data.toList by rw [HS.out, if_pos rfl])
        have HZ := Lib.hid (show jnT ts 0 = [] from rfl)
        go_wp2_with (at_builtin; refine Lib.wpList_append_own_string _ rfl _ _ 89 9 rfl (w.heap.size) 5 i0 Try.underlying89 Try.underlying9 hi hz0 hz1 hz2 _ _ _ rfl hown (ts[0]) rfl (by unfold maxLen; omega) (by omega) (by omega) ?_; intro v1 w1 hown1 hgrow1 hnil1)
        obtain ⟨gq, cq, rfl⟩ := own_some hown1 (fun he => by have h2 : Value.slice (some A1) (jnT ts 0).length c1 = .slice none 0 0 := (hnil1.1 he).1; cases h2)
        have hS2 : w1.ownsRow w.heap.size 5 1 (.slice (some ⟨gq, 0, none⟩) (jnT ts 1).length cq) (jnT ts 1).length ((jnT ts 1).map u8V) := by
          rw [HZ.out] at hown1
          rw [HT.out]
          simpa [strCells_u8] using hown1
        have hb1 := hb.grown hgrow1 hsz (fun g hg => (hown.lt g hg).1)
        have HV := Lib.hid (show Value.slice (some ⟨gq, 0, none⟩) ((jnT ts 0).length + ts[0].size) cq = Value.slice (some ⟨gq, 0, none⟩) (jnT ts 1).length cq by rw [HT.out, HZ.out]; simp)
        have K := Lib.hid (And.intro hS2 hb1)
        clear hS2 hb1 hown1 hgrow1 hnil1 hown hb
        go_wp2_with fail
        go_roundw
        case rel => exact ⟨1, ⟨gq, 0, none⟩, cq, hlt, rfl, HV.out, K.out.1, K.out.2⟩
        case measure => simp [intOf]; omega
      · have d0 : decide ((k : Int) > 0) = true := decide_eq_true (by omega)
        have HT := Lib.hid (show jnT ts (k + 1) = jnT ts k ++ [32] ++ ts[k].data.toList by rw [HS.out, if_neg (by omega)])
        have hsp : (⟨#[32]⟩ : ByteArray).size = 1 := rfl
        go_wp2_with (first
          | ((at_builtin; refine Lib.wpList_append_own_string _ rfl _ _ 89 9 rfl (w.heap.size) 5 i0 Try.underlying89 Try.underlying9 hi hz0 hz1 hz2 _ _ _ rfl hown (⟨#[32]⟩) rfl (by unfold maxLen; omega) (by omega) (by omega) ?_; intro v1 w1 hown1 hgrow1 hnil1)
             obtain ⟨gq, cq, rfl⟩ := own_some hown1 (fun he => by have h2 : Value.slice (some A1) (jnT ts k).length c1 = .slice none 0 0 := (hnil1.1 he).1; cases h2)
             have hb1 := hb.grown hgrow1 hsz (fun g hg => (hown.lt g hg).1)
             have g2 : w1.cell? ⟨b, off + k, none⟩ = some (.string ts[k]) := by
               obtain ⟨b', off', he, _, hc⟩ := (h.below hb1) (by omega)
               injection he with he
               injection he with he1 he2 _
               subst he1 he2
               exact hc k hlt
             have hsz1 := hb1.size
             have hown0 : w1.ownsRow w.heap.size 5 1 (.slice (some ⟨gq, 0, none⟩) ((jnT ts k).length + 1) cq) ((jnT ts k).length + 1) ((jnT ts k).map u8V ++ Lib.strCells ⟨#[32]⟩) := hown1
             clear hgrow1 hown hb g1 hown1 hnil1)
          | (at_builtin; refine Lib.wpList_append_own_string _ rfl _ _ 89 9 rfl (w.heap.size) 5 i0 Try.underlying89 Try.underlying9 hi hz0 hz1 hz2 _ _ _ rfl hown0 (ts[k]) rfl (by unfold maxLen; omega) (by omega) (by omega) ?_; intro v2 w2 hown2 hgrow2 hnil2))
        obtain ⟨gq2, cq2, rfl⟩ := own_some hown2 (fun he => by have h2 : Value.slice (some ⟨gq, 0, none⟩) ((jnT ts k).length + 1) cq = .slice none 0 0 := (hnil2.1 he).1; cases h2)
        have HL := Lib.hid (show (jnT ts (k + 1)).length = (jnT ts k).length + 1 + ts[k].size by rw [HT.out, List.length_append, List.length_append]; rfl)
        have hS2 : w2.ownsRow w.heap.size 5 1 (.slice (some ⟨gq2, 0, none⟩) (jnT ts (k + 1)).length cq2) (jnT ts (k + 1)).length ((jnT ts (k + 1)).map u8V) := by
          rw [HL.out, HT.out]
          simpa [strCells_u8, u8V] using hown2
        have hb2 := hb1.grown hgrow2 hsz1 (fun g hg => (hown0.lt g hg).1)
        have HV := Lib.hid (show Value.slice (some ⟨gq2, 0, none⟩) ((jnT ts k).length + 1 + ts[k].size) cq2 = Value.slice (some ⟨gq2, 0, none⟩) (jnT ts (k + 1)).length cq2 by rw [HL.out])
        have K := Lib.hid (And.intro hS2 hb2)
        clear hS2 hb1 hb2 hown2 hgrow2 hnil2 hown0
        go_wp2_with fail
        go_roundw
        case rel => exact ⟨k + 1, ⟨gq2, 0, none⟩, cq2, by omega, by go_num, HV.out, K.out.1, K.out.2⟩
        case measure => simp [intOf]; omega
    · obtain rfl : k = ts.length := by omega
      obtain ⟨gq, cq, hv⟩ := own_some hown (by simp)
      injection hv with hv _ hcc
      injection hv with hv
      subst hv hcc
      have hrd : Rd (Value.int .u8) wr wr.heap.size (some ⟨gq, 0, none⟩) ((jnT ts ts.length).map fun b : UInt8 => (b.toNat : Int)) := Rd.of_own (c := c1) (by rw [List.length_map, List.map_map]; exact hown)
      have hcv := conv_bytes (c := c1) hrd (List.length_map _)
      have HE := Lib.hid (show bs (((jnT ts ts.length).map fun b : UInt8 => (b.toNat : Int)).map fun n => UInt8.ofNat n.toNat) = ⟨(Lib.join (ts.map (·.data.toList)) [32]).toArray⟩ by
        rw [List.map_map]
        have : ((fun n : Int => UInt8.ofNat n.toNat) ∘ fun b : UInt8 => (b.toNat : Int)) = id := by funext b; simp
        rw [this, List.map_id]
        unfold jnT bs; rw [List.take_length])
      clear hrd hown
      go_wp2_with fail
      go_ret
      exact ⟨by rw [← HE.out, List.map_map]; rfl, hb⟩
set_option maxHeartbeats 2000000 in
theorem basisText_spec (A : Option Addr) (c : Nat) (qs : List Row) (w : World) (h : InL w A c qs) :
    Calls Try.prog 42 #[.slice A qs.length c] w (Rb w (.string (btxt (qs.map Row.xs)))) := by
  obtain ⟨i0, hi, hz0, hz1, hz2⟩ := info_parts infoS
  have hlen := h.len
  have hown0 : (w.alloc (.cells #[] 9)).ownsRow w.heap.size 9 1 (.slice (some ⟨w.heap.size, 0, none⟩) 0 0) 0 ((wordsT ((qs.map Row.xs).take 0)).map Value.string) := World.ownsRow_lit w #[] 0 (Nat.le_refl _) (by unfold maxLen; omega) rfl
  have hb0 := (Below.refl w.heap.size w).alloc (Nat.le_refl _) (.cells #[] 9)
  by_cases hB : basisB (qs.map Row.xs) = true
  · have H1 := Lib.hid hB
    have h8 := basis_len hB
    rw [List.length_map] at h8
    have HG := Lib.hid (btxt_yes hB)
    clear hB
    go_enter Try.func42, Try.ntmps42
    go_wp2_with fail
    go_loopw [3, 4] (fun v i wr => ∃ (k : Nat) (A1 : Option Addr) (c1 : Nat), k ≤ qs.length ∧ i = .int .i64 k ∧ v = .slice A1 k c1 ∧ wr.ownsRow w.heap.size 9 1 (.slice A1 k c1) k ((wordsT ((qs.map Row.xs).take k)).map Value.string) ∧ Below w.heap.size w wr) (fun _ i _ => qs.length - (intOf i).toNat)
    case atStart => exact ⟨0, _, _, Nat.zero_le _, rfl, rfl, hown0, hb0⟩
    case round =>
      clear hown0 hb0
      obtain ⟨k, A1, c1, hk, rfl, rfl, hown, hb⟩ := hrel
      rcases Nat.lt_or_ge k qs.length with hlt | hge
      · have HS := Lib.hid (show wordsT ((qs.map Row.xs).take (k + 1)) = wordsT ((qs.map Row.xs).take k) ++ [ptext qs[k].xs] by rw [wordsT_succ _ _ (by simpa using hlt)]; simp)
        go_wp2_with fail
        (with_reducible refine (basis_sb A c qs wr true (h.next hb) H1.out).mono ?_)
        rintro e w1 ⟨rfl, hb1⟩
        have hown := own_below hown hb1
        have hb := hb.trans (hb1.mono hb.size)
        obtain ⟨b', off, rfl, _, hc⟩ := (h.next hb).read.at (by omega)
        have g1 := hc k hlt
        have hin := (h.next hb).row (List.getElem_mem hlt)
        clear hc hb1
        go_wp2_with fail
        (with_reducible refine (permText_spec qs[k].A qs[k].c qs[k].xs w1 hin).mono ?_)
        rintro e w2 ⟨rfl, hb2⟩
        have hown2 := own_below hown hb2
        have hbw := hb.trans (hb2.mono hb.size)
        have hszw := hbw.size
        clear hown hb2
        go_wp2_with (at_builtin; refine wpList_append_own _ rfl _ _ 69 rfl (w.heap.size) 9 i0 (.string ⟨#[]⟩) 1 16 Try.underlying69 hi hz0 hz1 hz2 rfl (by decide) _ _ _ rfl (World.ownsRow.alloc hown2 _) ⟨w2.heap.size, 0, none⟩ 1 1 [.string (ptext qs[k].xs)] rfl rfl (cell_one_at _ _ (by simp)) (by intro u hu; simp at hu; subst hu; rfl) (by unfold maxLen; omega) (by omega) (by simp; omega) ?_; intro v7 w7 hown7 hgrow7 _)
        have hS2 : w7.ownsRow w.heap.size 9 1 v7 (k + 1) ((wordsT ((qs.map Row.xs).take (k + 1))).map Value.string) := by rw [HS.out]; simpa using hown7
        have hb3 := (hbw.alloc hszw _).grown hgrow7 (by simp; omega) (fun g hg => (hown2.lt g hg).1)
        obtain ⟨A3, c3, rfl, _, _⟩ := own_shape hS2
        have K := Lib.hid (And.intro hS2 hb3)
        clear hS2 hown7 hgrow7 hb3 hown2 hbw
        go_wp2_with fail
        go_roundw
        case rel => exact ⟨k + 1, A3, c3, by omega, by go_num, rfl, K.out.1, K.out.2⟩
        case measure => simp [intOf]; omega
      · obtain rfl : k = qs.length := by omega
        rw [List.take_of_length_le (by simp)] at hown
        have hwl : (wordsT (qs.map Row.xs)).length = qs.length := by simp [wordsT]
        have hrd : Rd Value.string wr wr.heap.size A1 (wordsT (qs.map Row.xs)) := Rd.of_own (e := 9) (c := c1) (by rw [hwl]; exact hown)
        have ct := join_spec A1 c1 (wordsT (qs.map Row.xs)) wr (by omega) (fun t ht => by
          obtain ⟨q, _, rfl⟩ := List.mem_map.1 ht
          have := ptext_le q
          rw [← ByteArray.size_data, ← Array.length_toList]
          omega) hrd
        rw [hwl] at ct
        have HC := Lib.hid ct
        clear ct hrd hown
        go_wp2_with fail
        (with_reducible refine HC.out.mono ?_)
        rintro e w2 ⟨rfl, hb2⟩
        go_wp2_with fail
        go_ret
        exact ⟨by rw [HG.out]; rfl, hb.trans (hb2.mono hb.size)⟩
  · have hBf : basisB (qs.map Row.xs) = false := by simpa using hB
    have hne : 0 < qs.length := by
      rcases Nat.eq_zero_or_pos qs.length with h0 | h0
      · have : qs = [] := List.eq_nil_of_length_eq_zero h0
        subst this
        exact absurd rfl hB
      · exact h0
    have H1 := Lib.hid hBf
    have HG := Lib.hid (btxt_no hBf)
    clear hB hBf
    go_enter Try.func42, Try.ntmps42
    go_wp2_with fail
    go_loopw [3, 4] (fun v i wr => i = .int .i64 0 ∧ ∃ (A1 : Option Addr) (c1 : Nat), v = .slice A1 0 c1 ∧ wr.ownsRow w.heap.size 9 1 (.slice A1 0 c1) 0 ([] : List Value) ∧ Below w.heap.size w wr) (fun _ _ _ => 0)
    case atStart => exact ⟨rfl, _, _, rfl, hown0, hb0⟩
    case round =>
      clear hown0 hb0
      obtain ⟨rfl, A1, c1, rfl, hown, hb⟩ := hrel
      go_wp2_with fail
      (with_reducible refine (basis_sb A c qs wr false (h.next hb) H1.out).mono ?_)
      rintro e w1 ⟨rfl, hb1⟩
      have hown := own_below hown hb1
      have hb := hb.trans (hb1.mono hb.size)
      have ct : Calls Try.prog 83 #[.slice A1 0 c1, .string ⟨#[32]⟩] w1 (Rb w1 (.string ⟨(Lib.join ([] : List (List UInt8)) [32]).toArray⟩)) := join_spec A1 c1 [] w1 (by simp) (by simp) Rd.nil_
      have HC := Lib.hid ct
      clear ct hown hb1
      go_wp2_with fail
      (with_reducible refine HC.out.mono ?_)
      rintro e w2 ⟨rfl, hb2⟩
      go_wp2_with fail
      go_ret
      exact ⟨by rw [HG.out]; rfl, hb.trans (hb2.mono hb.size)⟩
end Go.Proofs.Ytmkaelefljjamaa
