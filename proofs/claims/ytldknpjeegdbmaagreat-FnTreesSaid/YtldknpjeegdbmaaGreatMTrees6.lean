/- Several texts in one, each with its own head: T3, Y2, Y3, Y4, OC2, OC4, TM1, TM2. No program of ours. -/
import Derived.Test.YtldknpjeegdbmaaGreatShelf
import Derived.Lib.AppendStr
import Derived.Test.YtldknpjeegdbmaaGreatShelfF
import Derived.Shelf.SlSortCmp.NoneTotal
import Derived.Lib.OwnBridge
import Derived.Test.YtldknpjeegdbmaaGreatMTrees5
/- BasisText, program and reference. -/
namespace Go.Proofs.YtldknpjeegdbmaaGreat
set_option maxRecDepth 100000
open Go Go.RowKit

def wordsT (X : List (List Int)) : List ByteArray := X.map ptext
def btxt (X : List (List Int)) : ByteArray := if basisB X = true then ⟨(Lib.join ((wordsT X).map (·.data.toList)) [32]).toArray⟩ else bs []
theorem wordsT_succ (X : List (List Int)) (k : Nat) (h : k < X.length) : wordsT (X.take (k + 1)) = wordsT (X.take k) ++ [ptext X[k]] := by
  unfold wordsT; rw [List.take_succ_eq_append_getElem h, List.map_append]; rfl
theorem infoS : (Tryz.prog.info? 9).map (fun i => (i.zero, i.size, i.bytes)) = some (some (.string ⟨#[]⟩), 1, 16) := by kernel_rfl

theorem bs_list (l : List UInt8) : (bs l).data.toList = l := by simp [bs]
theorem btxt_yes {X : List (List Int)} (h : basisB X = true) : btxt X = ⟨(Lib.join ((wordsT X).map (·.data.toList)) [32]).toArray⟩ := by unfold btxt; rw [if_pos h]
theorem btxt_no {X : List (List Int)} (h : basisB X = false) : btxt X = bs [] := by unfold btxt; rw [h]; rfl
theorem lens_le (L : List (List UInt8)) (m : Nat) (h : ∀ l ∈ L, l.length ≤ m) : Lib.lens L ≤ m * L.length := by
  induction L with
  | nil => simp [Lib.lens]
  | cons a t ih =>
    have h1 := ih (fun l hl => h l (by simp [hl]))
    have h2 := h a (by simp)
    simp only [Lib.lens, List.map_cons, List.sum_cons, List.length_cons, Nat.mul_add] at h1 ⊢
    omega
theorem join_le (L : List (List UInt8)) (x : UInt8) (m : Nat) (h : ∀ l ∈ L, l.length ≤ m) : (Lib.join L [x]).length ≤ (m + 1) * L.length := by
  cases L with
  | nil => simp [Lib.join_nil]
  | cons a t =>
    rw [Lib.join_length]
    have := lens_le (a :: t) m h
    have h1 : [x].length = 1 := rfl
    rw [h1]
    simp only [List.length_cons, Nat.add_mul, Nat.mul_add] at this ⊢
    omega
theorem join_succ (L : List (List UInt8)) (sep : List UInt8) (k : Nat) (h : k < L.length) : Lib.join (L.take (k + 1)) sep = if k = 0 then L[k] else Lib.join (L.take k) sep ++ sep ++ L[k] := by
  cases L with
  | nil => simp at h
  | cons a t =>
    rcases k with _ | k
    · simp [Lib.join_one]
    · rw [if_neg (by omega), List.take_succ_cons, List.take_succ_cons, Lib.join_cons, Lib.join_cons, Lib.joinTail_take_succ sep t k (t[k]'(by simpa using h)) (List.getElem?_eq_getElem (by simpa using h))]
      simp [List.append_assoc]
theorem ptext_le (xs : List Int) : (ptext xs).data.toList.length ≤ 9 := by
  unfold ptext
  by_cases h : permB xs = true
  · rw [if_pos h, bs_list]
    have := (permB_true h).1
    unfold textD
    split <;> simp <;> omega
  · rw [if_neg h, bs_list]; simp
theorem words_join_le (X : List (List Int)) : (Lib.join ((wordsT X).map (·.data.toList)) [32]).length ≤ 10 * X.length := by
  have := join_le ((wordsT X).map (·.data.toList)) 32 9 (by
    intro l hl
    obtain ⟨b, hb, rfl⟩ := List.mem_map.1 hl
    obtain ⟨q, _, rfl⟩ := List.mem_map.1 hb
    exact ptext_le q)
  simpa [wordsT] using this

def digT (xs : List Int) (k : Nat) : List UInt8 := (xs.take k).map dig
theorem digT_succ (xs : List Int) (k : Nat) (h : k < xs.length) : digT xs (k + 1) = digT xs k ++ [dig xs[k]] := by unfold digT; rw [List.take_succ_eq_append_getElem h, List.map_append]; rfl
theorem digT_len (xs : List Int) (k : Nat) : (digT xs k).length ≤ xs.length := by unfold digT; simp; omega
set_option maxHeartbeats 2000000 in
theorem permText_spec (A : Option Addr) (c : Nat) (xs : List Int) (w : World) (h : In w A c xs) :
    Calls Tryz.prog 39 #[.slice A xs.length c] w (Rb w (.string (ptext xs))) := by
  have hl := h.len
  by_cases hp : permB xs = true
  · have HT := Lib.hid (show ptext xs = bs (textD xs) by unfold ptext; rw [if_pos hp])
    have h8 := (permB_true hp).1
    have HR := Lib.hid (permB_true hp).2.1
    have HP := Lib.hid hp
    clear hp
    go_enter Tryz.func39, Tryz.ntmps39
    go_wp2_with fail
    (with_reducible refine (isPerm_sb A c xs w true h HP.out).mono ?_)
    rintro e w1 ⟨rfl, hd1⟩
    have hb := below_dr (Below.refl w.heap.size w) hd1
    by_cases h0 : xs = []
    · subst h0
      go_wp2_with fail
      go_ret
      exact ⟨by rw [HT.out]; rfl, hb⟩
    have hne : 0 < xs.length := List.length_pos_iff.2 h0
    have d0 : ((xs.length : Int) == 0) = false := by simp; omega
    have HD := Lib.hid (show textD xs = digT xs xs.length by unfold textD digT; rw [if_neg h0, List.take_length])
    clear h0
    go_wp2_with fail
    go_loopw [3, 4] (fun o i wr => ∃ j : Nat, j ≤ xs.length ∧ i = .int .i64 j ∧ o = .string (bs (digT xs j)) ∧ Below w.heap.size w wr) (fun _ i _ => xs.length - (intOf i).toNat)
    case atStart => exact ⟨0, Nat.zero_le _, rfl, rfl, hb⟩
    case round =>
      obtain ⟨j, hj, rfl, rfl, hbw⟩ := hrel
      have hsw := hbw.size
      by_cases hlt : j < xs.length
      · obtain ⟨b, off, rfl, _, hc⟩ := (h.next hbw).rd hne
        have c1 := hc j hlt
        have hv := HR.out xs[j] (List.getElem_mem hlt)
        have HS := Lib.hid (digT_succ xs j hlt)
        have hsz := bs_size (digT xs j)
        have hjs := digT_len xs j
        have hsd : (bs [dig xs[j]]).size = 1 := bs_size [dig xs[j]]
        clear hc
        go_wp2_with fail
        (with_reducible refine (format_one xs[j] wr ⟨hv.1, by omega⟩).mono ?_)
        rintro e w' ⟨rfl, hbf⟩
        go_wp2
        go_roundw
        case rel => exact ⟨j + 1, by omega, by go_num, by rw [HS.out]; exact congrArg Value.string (bs_append _ _), hbw.trans (hbf.mono hbw.size)⟩
        case measure => simp [intOf]; omega
      · obtain rfl : j = xs.length := by omega
        go_wp2
        go_ret
        exact ⟨by rw [HT.out, HD.out]; rfl, hbw⟩
  · have hpf : permB xs = false := by simpa using hp
    have HT := Lib.hid (show ptext xs = bs [] by unfold ptext; rw [hpf]; rfl)
    clear hp
    go_enter Tryz.func39, Tryz.ntmps39
    go_wp2_with fail
    (with_reducible refine (isPerm_sb A c xs w false h hpf).mono ?_)
    rintro e w1 ⟨rfl, hd1⟩
    go_wp2_with fail
    go_ret
    exact ⟨by rw [HT.out]; rfl, below_dr (Below.refl w.heap.size w) hd1⟩
def u8V (b : UInt8) : Value := .int .u8 b.toNat
theorem strCells_u8 (s : ByteArray) : Lib.strCells s = s.data.toList.map u8V := rfl
def jnT (ts : List ByteArray) (k : Nat) : List UInt8 := Lib.join ((ts.take k).map (·.data.toList)) [32]
theorem jnT_succ (ts : List ByteArray) (k : Nat) (h : k < ts.length) : jnT ts (k + 1) = if k = 0 then ts[k].data.toList else jnT ts k ++ [32] ++ ts[k].data.toList := by
  have := join_succ (ts.map (·.data.toList)) [32] k (by simpa using h)
  unfold jnT
  rw [List.map_take, this, List.map_take]
  simp
theorem jnT_le (ts : List ByteArray) (k : Nat) (hs : ∀ t ∈ ts, t.size ≤ 400) : (jnT ts k).length ≤ 401 * k := by
  have := join_le ((ts.take k).map (·.data.toList)) 32 400 (by
    intro l hl
    obtain ⟨t, ht, rfl⟩ := List.mem_map.1 hl
    exact hs t (List.mem_of_mem_take ht))
  rw [List.length_map] at this
  have h2 := List.length_take_le k ts
  unfold jnT
  omega
theorem own_some {w : World} {base e n : Nat} {v : Value} {vs : List Value} (h : w.ownsRow base e 1 v n vs) (hne : v ≠ .slice none 0 0) : ∃ g c, v = .slice (some ⟨g, 0, none⟩) n c := by
  rcases h.2 with ⟨rfl, _⟩ | ⟨g, cap, cur, rfl, _⟩
  · exact absurd rfl hne
  · exact ⟨g, cap, rfl⟩
theorem infoU8' : (Tryz.prog.info? 5).map (fun i => (i.zero, i.size, i.bytes)) = some (some (.int .u8 0), 1, 1) := by kernel_rfl
set_option maxHeartbeats 4000000 in
theorem join_spec (A : Option Addr) (c : Nat) (ts : List ByteArray) (w : World) (hl : ts.length ≤ 100) (hs : ∀ t ∈ ts, t.size ≤ 400) (h : Rd Value.string w w.heap.size A ts) :
    Calls Tryz.prog 40 #[.slice A ts.length c, .string ⟨#[32]⟩] w (Rb w (.string ⟨(Lib.join (ts.map (·.data.toList)) [32]).toArray⟩)) := by
  obtain ⟨i0, hi, hz0, hz1, hz2⟩ := info_parts infoU8'
  have hown0 : (w.alloc (.cells #[] 5)).ownsRow w.heap.size 5 1 (.slice (some ⟨w.heap.size, 0, none⟩) 0 0) (jnT ts 0).length ((jnT ts 0).map u8V) := World.ownsRow_lit w #[] 0 (Nat.le_refl _) (by unfold maxLen; omega) rfl
  have hb0 := (Below.refl w.heap.size w).alloc (Nat.le_refl _) (.cells #[] 5)
  have HSZ := Lib.hid hs
  clear hs
  go_enter Tryz.func40, Tryz.ntmps40
  go_wp2_with fail
  go_loopw [5, 6] (fun v i wr => ∃ (k : Nat) (A1 : Addr) (c1 : Nat), k ≤ ts.length ∧ i = .int .i64 k ∧ v = .slice (some A1) (jnT ts k).length c1 ∧ wr.ownsRow w.heap.size 5 1 (.slice (some A1) (jnT ts k).length c1) (jnT ts k).length ((jnT ts k).map u8V) ∧ Below w.heap.size w wr) (fun _ i _ => ts.length - (intOf i).toNat)
  case atStart => exact ⟨0, _, _, Nat.zero_le _, rfl, rfl, hown0, hb0⟩
  case round =>
    clear hown0 hb0
    obtain ⟨k, A1, c1, hk, rfl, rfl, hown, hb⟩ := hrel
    have hjl := jnT_le ts k HSZ.out
    have hsz := hb.size
    rcases Nat.lt_or_ge k ts.length with hlt | hge
    · obtain ⟨b, off, rfl, _, hc⟩ := (h.below hb) (by omega)
      have g1 := hc k hlt
      have hks := HSZ.out ts[k] (List.getElem_mem hlt)
      have HS := Lib.hid (jnT_succ ts k hlt)
      have hlk : (Lib.strCells ts[k]).length = ts[k].size := Lib.strCells_length _
      clear hc
      rcases Nat.eq_zero_or_pos k with h0 | h0
      · subst h0
        have g1' : wr.cell? ⟨b, off, none⟩ = some (.string ts[0]) := g1
        have HT := Lib.hid (show jnT ts 1 = ts[0].data.toList by rw [HS.out, if_pos rfl])
        have HZ := Lib.hid (show jnT ts 0 = [] from rfl)
        go_wp2_with (at_builtin; refine Lib.wpList_append_own_string _ rfl _ _ 22 9 rfl (w.heap.size) 5 i0 Tryz.underlying22 Tryz.underlying9 hi hz0 hz1 hz2 _ _ _ rfl hown (ts[0]) rfl (by unfold maxLen; omega) (by omega) (by omega) ?_; intro v1 w1 hown1 hgrow1 hnil1)
        obtain ⟨gq, cq, rfl⟩ := own_some hown1 (fun he => by have h2 : Value.slice (some A1) (jnT ts 0).length c1 = .slice none 0 0 := (hnil1.1 he).1; cases h2)
        have hS2 : w1.ownsRow w.heap.size 5 1 (.slice (some ⟨gq, 0, none⟩) (jnT ts 1).length cq) (jnT ts 1).length ((jnT ts 1).map u8V) := by
          rw [HZ.out] at hown1
          rw [HT.out]
          simpa [strCells_u8] using hown1
        have hb1 := hb.grown hgrow1 hsz (fun g hg => (hown.lt g hg).1)
        have HV := Lib.hid (show Value.slice (some ⟨gq, 0, none⟩) ((jnT ts 0).length + ts[0].size) cq = Value.slice (some ⟨gq, 0, none⟩) (jnT ts 1).length cq by rw [HT.out, HZ.out]; simp)
        have K := Lib.hid (And.intro hS2 hb1)
        clear hS2 hb1 hown1 hgrow1 hnil1 hown hb
        go_wp2_with fail
        go_roundw
        case rel => exact ⟨1, ⟨gq, 0, none⟩, cq, hlt, rfl, HV.out, K.out.1, K.out.2⟩
        case measure => simp [intOf]; omega
      · have d0 : decide ((k : Int) > 0) = true := decide_eq_true (by omega)
        have HT := Lib.hid (show jnT ts (k + 1) = jnT ts k ++ [32] ++ ts[k].data.toList by rw [HS.out, if_neg (by omega)])
        have hsp : (⟨#[32]⟩ : ByteArray).size = 1 := rfl
        go_wp2_with (first
          | ((at_builtin; refine Lib.wpList_append_own_string _ rfl _ _ 22 9 rfl (w.heap.size) 5 i0 Tryz.underlying22 Tryz.underlying9 hi hz0 hz1 hz2 _ _ _ rfl hown (⟨#[32]⟩) rfl (by unfold maxLen; omega) (by omega) (by omega) ?_; intro v1 w1 hown1 hgrow1 hnil1)
             obtain ⟨gq, cq, rfl⟩ := own_some hown1 (fun he => by have h2 : Value.slice (some A1) (jnT ts k).length c1 = .slice none 0 0 := (hnil1.1 he).1; cases h2)
             have hb1 := hb.grown hgrow1 hsz (fun g hg => (hown.lt g hg).1)
             have g2 : w1.cell? ⟨b, off + k, none⟩ = some (.string ts[k]) := by
               obtain ⟨b', off', he, _, hc⟩ := (h.below hb1) (by omega)
               injection he with he
               injection he with he1 he2 _
               subst he1 he2
               exact hc k hlt
             have hsz1 := hb1.size
             have hown0 : w1.ownsRow w.heap.size 5 1 (.slice (some ⟨gq, 0, none⟩) ((jnT ts k).length + 1) cq) ((jnT ts k).length + 1) ((jnT ts k).map u8V ++ Lib.strCells ⟨#[32]⟩) := hown1
             clear hgrow1 hown hb g1 hown1 hnil1)
          | (at_builtin; refine Lib.wpList_append_own_string _ rfl _ _ 22 9 rfl (w.heap.size) 5 i0 Tryz.underlying22 Tryz.underlying9 hi hz0 hz1 hz2 _ _ _ rfl hown0 (ts[k]) rfl (by unfold maxLen; omega) (by omega) (by omega) ?_; intro v2 w2 hown2 hgrow2 hnil2))
        obtain ⟨gq2, cq2, rfl⟩ := own_some hown2 (fun he => by have h2 : Value.slice (some ⟨gq, 0, none⟩) ((jnT ts k).length + 1) cq = .slice none 0 0 := (hnil2.1 he).1; cases h2)
        have HL := Lib.hid (show (jnT ts (k + 1)).length = (jnT ts k).length + 1 + ts[k].size by rw [HT.out, List.length_append, List.length_append]; rfl)
        have hS2 : w2.ownsRow w.heap.size 5 1 (.slice (some ⟨gq2, 0, none⟩) (jnT ts (k + 1)).length cq2) (jnT ts (k + 1)).length ((jnT ts (k + 1)).map u8V) := by
          rw [HL.out, HT.out]
          simpa [strCells_u8, u8V] using hown2
        have hb2 := hb1.grown hgrow2 hsz1 (fun g hg => (hown0.lt g hg).1)
        have HV := Lib.hid (show Value.slice (some ⟨gq2, 0, none⟩) ((jnT ts k).length + 1 + ts[k].size) cq2 = Value.slice (some ⟨gq2, 0, none⟩) (jnT ts (k + 1)).length cq2 by rw [HL.out])
        have K := Lib.hid (And.intro hS2 hb2)
        clear hS2 hb1 hb2 hown2 hgrow2 hnil2 hown0
        go_wp2_with fail
        go_roundw
        case rel => exact ⟨k + 1, ⟨gq2, 0, none⟩, cq2, by omega, by go_num, HV.out, K.out.1, K.out.2⟩
        case measure => simp [intOf]; omega
    · obtain rfl : k = ts.length := by omega
      obtain ⟨gq, cq, hv⟩ := own_some hown (by simp)
      injection hv with hv _ hcc
      injection hv with hv
      subst hv hcc
      have hrd : Rd (Value.int .u8) wr wr.heap.size (some ⟨gq, 0, none⟩) ((jnT ts ts.length).map fun b : UInt8 => (b.toNat : Int)) := Rd.of_own (c := c1) (by rw [List.length_map, List.map_map]; exact hown)
      have hcv := conv_bytes (c := c1) hrd (List.length_map _)
      have HE := Lib.hid (show bs (((jnT ts ts.length).map fun b : UInt8 => (b.toNat : Int)).map fun n => UInt8.ofNat n.toNat) = ⟨(Lib.join (ts.map (·.data.toList)) [32]).toArray⟩ by
        rw [List.map_map]
        have : ((fun n : Int => UInt8.ofNat n.toNat) ∘ fun b : UInt8 => (b.toNat : Int)) = id := by funext b; simp
        rw [this, List.map_id]
        unfold jnT bs; rw [List.take_length])
      clear hrd hown
      go_wp2_with fail
      go_ret
      exact ⟨by rw [← HE.out, List.map_map]; rfl, hb⟩
end Go.Proofs.YtldknpjeegdbmaaGreat

/- slices.SortFunc of a list of rows; ordered. -/
namespace Go.Proofs.YtldknpjeegdbmaaGreat
set_option maxRecDepth 100000
open Go Go.RowKit

theorem before_ntrans {x y z : List Int} (h1 : before x y = false) (h2 : before y z = false) : before x z = false := by
  cases h : before x z with
  | false => rfl
  | true =>
    cases h3 : before y x with
    | true => rw [before_trans h3 h] at h2; cases h2
    | false =>
      have e := before_total h1 h3
      subst e
      rw [h] at h2; cases h2
theorem permIn_list {α : Type} [Inhabited α] {d d' : Array α} (h : Sort.PermIn 0 d.size d d') : d'.toList.Perm d.toList := by
  have h1 := h.2.2
  have e1 : d'.extract 0 d.size = d' := by rw [← h.1]; exact Array.extract_size
  have e2 : d.extract 0 d.size = d := Array.extract_size
  rw [e1, e2] at h1
  exact h1
theorem sortedIn_list {α : Type} [Inhabited α] {lt : α → α → Bool} {d : Array α} {n : Nat} (hn : d.size = n) (h : Sort.SortedIn lt 0 n d) : d.toList.Pairwise fun x y => lt y x = false := by
  rw [List.pairwise_iff_getElem]
  intro i j hi hj hij
  rw [Array.length_toList] at hi hj
  have := h i j (Nat.zero_le _) hij (by omega)
  rw [getElem!_pos d j hj, getElem!_pos d i hi] at this
  simpa using this
/-- The row's cells in a world that the sort passes through. -/
theorem rd_sortWorld {α : Type} [Inhabited α] {enc : α → Value} {w : World} {blk m : Nat} {dk : Array α} {os : Array Obj} {A : Option Addr} {xs : List Int} (h : Rd (Value.int .i64) w w.heap.size A xs) (hne : ∀ b off, A = some ⟨b, off, none⟩ → 0 < xs.length → b ≠ blk) :
    Rd (Value.int .i64) (sortWorld enc w blk 0 m dk os) (sortWorld enc w blk 0 m dk os).heap.size A xs := fun h0 => by
  obtain ⟨b, off, rfl, hb, hc⟩ := h h0
  have hn := hne b off rfl h0
  have hs : (Sort.putRow enc (Sort.ahead w m) blk 0 dk).heap.size = w.heap.size := by simp [Sort.putRow, Sort.mapBlock, Sort.ahead]
  refine ⟨b, off, rfl, ?_, fun j hj => ?_⟩
  · show b < (Sort.grow (Sort.putRow enc (Sort.ahead w m) blk 0 dk) os).heap.size
    simp only [Sort.grow, Array.size_append, hs]
    omega
  · have h1 : (Sort.putRow enc (Sort.ahead w m) blk 0 dk).cell? ⟨b, off + j, none⟩ = some (.int .i64 xs[j]) :=
      (Sort.cell?_putRow_other enc (Sort.ahead w m) blk 0 dk ⟨b, off + j, none⟩ (Or.inl hn)).trans (hc j hj)
    exact cell_grown (show b < _ by rw [hs]; exact hb) h1 0 os
theorem grow_below (W : World) (os : Array Obj) : Below W.heap.size W (Sort.grow W os) := ⟨rfl, rfl, rfl, by simp [Sort.grow], fun k hk => by simp [Sort.grow, Array.getElem?_append, hk]⟩
theorem putRow_grown {α : Type} [Inhabited α] (enc : α → Value) (w : World) (q g : Nat) (d : Array α) : w.grownBy (Sort.putRow enc (Sort.ahead w q) g 0 d) (some g) :=
  ⟨rfl, rfl, rfl, by simp [Sort.putRow, Sort.mapBlock, Sort.ahead], fun k _ hne => by
    have hk : g ≠ k := fun e => hne (by rw [e])
    simp [Sort.putRow, Sort.mapBlock, Sort.ahead, Array.getElem?_modify, hk]⟩
theorem sort_none (p : Option Addr) (c : Nat) (fv : Value) (w : World) : Calls Tryz.prog 74 #[.slice p 0 c, fv] w fun e w' => e = .returned (.tuple #[]) ∧ w' = w :=
  AnyF.slices_SortFunc_none { Tryz.sortF with } p c fv w
set_option maxHeartbeats 1000000 in
theorem sort_any (A : Option Addr) (c lo : Nat) (rs : List Row) (w : World) (F : Nat) (cf : List Int → List Int → Int) (hO : Own w lo w.heap.size rs [⟨A, c, rs.map Row.v⟩]) (hn : rs.length ≤ 1048576)
    (hF : ∀ args w, (callFunc F args).run Tryz.prog w = .ok (.enter F args) w)
    (hcf : ∀ x ∈ rs, ∀ y ∈ rs, decide (cf x.xs y.xs < 0) = before x.xs y.xs)
    (hcmp : ∀ (W : World) (x y : Row), x ∈ rs → y ∈ rs → Rd (Value.int .i64) W W.heap.size x.A x.xs → Rd (Value.int .i64) W W.heap.size y.A y.xs → Calls Tryz.prog F #[x.v, y.v] W fun e w' => e = .returned (.int .i64 (cf x.xs y.xs)) ∧ ∃ q os', w' = Sort.grow (W.drewN q) os') :
    Calls Tryz.prog 74 #[.slice A rs.length c, .func (.func F) #[] #[]] w fun e w' => e = .returned (.tuple #[]) ∧ ∃ rs' : List Row, rs'.Perm rs ∧ (rs'.map Row.xs).Pairwise (fun x y => before y x = false) ∧ Own w' lo w'.heap.size rs' [⟨A, c, rs'.map Row.v⟩] ∧ w.grownBy w' (Value.slice A 0 0).ownBlock := by
  rcases Nat.eq_zero_or_pos rs.length with h0 | h0
  · have hr : rs = [] := List.eq_nil_of_length_eq_zero h0
    subst hr
    refine (sort_none A c _ w).mono ?_
    rintro e w' ⟨rfl, rfl⟩
    exact ⟨rfl, [], List.Perm.refl _, List.Pairwise.nil, hO, World.grownBy.refl _ _⟩
  obtain ⟨g, hgA, hglo, hglt⟩ : ∃ g, A = some ⟨g, 0, none⟩ ∧ lo ≤ g ∧ g < w.heap.size := by
    obtain ⟨g, cap, hv, h1, h3⟩ := hO.out.form (by rw [List.length_map]; omega)
    injection hv with hv _ _
    exact ⟨g, hv, h1, h3⟩
  subst hgA
  let α := {r : Row // r ∈ rs}
  haveI : Inhabited α := ⟨⟨rs[0], List.getElem_mem h0⟩⟩
  let enc : α → Value := fun r => r.1.v
  have hz : (rs.attach : List α).map enc = rs.map Row.v := by
    show rs.attach.map (fun r => Row.v r.1) = _
    rw [show (fun r : {r : Row // r ∈ rs} => Row.v r.1) = Row.v ∘ Subtype.val from rfl, ← List.map_map, List.attach_map_subtype_val]
  have hown : w.ownsRow lo 24 1 (.slice (some ⟨g, 0, none⟩) rs.length c) rs.length ((rs.attach : List α).map enc) := by
    rw [hz]; exact hO.outN (by simp)
  obtain ⟨g', cap', hv', _, _, _, _, _, hH⟩ := Lib.holds_of_ownsRow hown (by simp)
  injection hv' with hv1 _ _
  injection hv1 with hv1
  injection hv1 with hv1 _ _
  subst hv1
  let cfa : α → α → Int := fun a b => cf a.1.xs b.1.xs
  have hlt : ∀ a b : α, ltOf cfa a b = before a.1.xs b.1.xs := fun a b => hcf a.1 a.2 b.1 b.2
  have hS : Sort.SWO (ltOf cfa) := ⟨fun x => by rw [hlt]; exact before_irrefl _, fun x y z h1 h2 => by rw [hlt] at *; exact before_trans h1 h2, fun x y z h1 h2 => by rw [hlt] at *; exact before_ntrans h1 h2⟩
  have hrd : ∀ (r : Row), r ∈ rs → ∀ (m : Nat) (os : Array Obj) (dk : Array α), Rd (Value.int .i64) (sortWorld enc w g 0 m dk os) (sortWorld enc w g 0 m dk os).heap.size r.A r.xs := fun r hr m os dk =>
    rd_sortWorld (hO.read.rd r hr) (fun b off he _ hbg => by
      subst hbg
      exact own_ne hO hr (List.mem_singleton.2 rfl) b (by show (Value.slice r.A _ _).ownBlock = _; rw [he]; rfl) rfl)
  have hC : CmpLays1 Tryz.prog F #[] enc cfa g 0 (rs.attach : List α).toArray.size w := fun m os dk _ x y =>
    hcmp (sortWorld enc w g 0 m dk os) x.1 y.1 x.2 y.2 (hrd x.1 x.2 m os dk) (hrd y.1 y.2 m os dk)
  have hsz : (rs.attach : List α).toArray.size = rs.length := by simp
  have h := Any.slices_SortFunc Tryz.sortF enc (fun _ => rfl) cfa hS F #[] g 0 c (rs.attach : List α).toArray w hF hC hH hglt (by rw [hsz]; omega)
  rw [hsz] at h
  refine Calls.mono h ?_
  rintro e w' ⟨rfl, d', n, os, hp, hs, rfl⟩
  have hd' : d'.size = rs.length := by
    have := hp.1
    rw [← hsz]; exact this
  have hp' : Sort.PermIn 0 (rs.attach : List α).toArray.size (rs.attach : List α).toArray d' := by rw [hsz]; exact hp
  have hpl := permIn_list hp'
  have hperm : (d'.toList.map Subtype.val).Perm rs := by
    have h1 := hpl.map Subtype.val
    have e : ((rs.attach : List α).toArray.toList).map Subtype.val = rs := by simp
    rwa [e] at h1
  have hsl := sortedIn_list hd' hs
  refine ⟨rfl, d'.toList.map Subtype.val, hperm, ?_, ?_, ?_⟩
  · rw [List.map_map, List.pairwise_map]
    exact hsl.imp fun {a b} hab => by rw [hlt] at hab; exact hab
  · have hg1 := putRow_grown enc w n g d'
    have hbg : Below (Sort.putRow enc (Sort.ahead w n) g 0 d').heap.size (Sort.putRow enc (Sort.ahead w n) g 0 d') (sortWorld enc w g 0 n d' os) := grow_below _ os
    have hrows := (Own.kept hO (Nat.le_refl _) (show (rs.map Row.v).length = rs.length by simp) (show w.grownBy _ (Value.slice (some ⟨g, 0, none⟩) rs.length c).ownBlock from hg1)).below hbg
    have hout := Lib.ownsRow_putRow (q := n) (k := rs.length) (ys := d'.toList) hown (by simpa using hd') (Nat.le_refl _)
    rw [List.take_of_length_le (by simp [hd'])] at hout
    have hout2 := own_below hout hbg
    have he : d'.toList.map enc = (d'.toList.map Subtype.val).map Row.v := by rw [List.map_map]; rfl
    refine ((hrows.perm hperm.symm).wider (Nat.le_refl _) hbg.size).with_ (A := some ⟨g, 0, none⟩) (c := c) ?_ (Nat.le_refl _)
    rw [← he, List.length_map, Array.length_toList, hd']
    exact hout2
  · exact grown_trans (putRow_grown enc w n g d') (below_grown (grow_below _ os))
theorem grow_alloc (w : World) (o : Obj) : w.alloc o = Sort.grow (w.drewN 0) #[o] := by
  show ({ w with heap := w.heap.push o } : World) = { w with heap := w.heap ++ #[o] }
  rw [Array.push_eq_append]
set_option maxHeartbeats 800000 in
theorem comparePerms_x (A A' : Option Addr) (c c' : Nat) (p q : List Int) (w : World) (hl : p.length ≤ 1048576) (hl' : q.length ≤ 1048576)
    (hx : Rd (Value.int .i64) w w.heap.size A p) (hy : Rd (Value.int .i64) w w.heap.size A' q) :
    Calls Tryz.prog 75 #[.slice A p.length c, .slice A' q.length c'] w fun e w' => e = .returned (.int .i64 (cmpP p q)) ∧ ∃ q os', w' = Sort.grow (w.drewN q) os' := by
  have HO := Lib.hid (cmpP_or p q)
  have HG := Lib.hid (grow_alloc w (Obj.cells #[.int .i64 (cmpI p.length q.length), .int .i64 (cmpL p q)] 3))
  have hnew : Rd (Value.int .i64) (w.alloc (Obj.cells #[.int .i64 (cmpI p.length q.length), .int .i64 (cmpL p q)] 3)) (w.alloc (Obj.cells #[.int .i64 (cmpI p.length q.length), .int .i64 (cmpL p q)] 3)).heap.size (some ⟨w.heap.size, 0, none⟩) [cmpI p.length q.length, cmpL p q] :=
    Rd.of_own (c := 2) (World.ownsRow_lit (base := w.heap.size) w #[.int .i64 (cmpI p.length q.length), .int .i64 (cmpL p q)] 2 (Nat.le_refl _) (by unfold maxLen; omega) rfl)
  go_enter Tryz.func75, Tryz.ntmps75
  go_wp2_with fail
  (with_reducible refine (compare_any (p.length : Int) (q.length : Int) w).mono ?_)
  rintro e w' ⟨rfl, rfl⟩
  go_wp2_with fail
  (with_reducible refine (compareS_any A A' c c' p.length q.length p q w rfl rfl (by omega) (by omega) hx hy).mono ?_)
  rintro e w' ⟨rfl, rfl⟩
  go_wp2_with fail
  (with_reducible refine (or_any (some ⟨w.heap.size, 0, none⟩) 2 2 [cmpI p.length q.length, cmpL p q] _ rfl (by omega) hnew).mono ?_)
  rintro e w' ⟨rfl, rfl⟩
  go_wp2_with fail
  go_ret
  exact ⟨ret_int HO.out, 0, _, HG.out⟩
theorem call_cmpP (args : Array Value) (w : World) : (callFunc 75 args).run Tryz.prog w = .ok (.enter 75 args) w := by kernel_rfl
set_option maxHeartbeats 2000000 in
theorem ordered_impl (A : Option Addr) (c : Nat) (rs : List Row) (w : World) (h : InL w A c rs) :
    Calls Tryz.prog 43 #[.slice A rs.length c] w (RetL w (ordL (rs.map Row.xs))) := by
  obtain ⟨j0, hj, hy0, hy1, hy2⟩ := info_parts infoL
  have hlen := h.len
  have hlit := Own.lit (lo := w.heap.size) w (Nat.le_refl _)
  have hb0 := (Below.refl w.heap.size w).alloc (Nat.le_refl _) (.cells #[] 24)
  go_enter Tryz.func43, Tryz.ntmps43
  go_wp2_with fail
  go_loopw [3, 9] (fun v i wr => ∃ (k : Nat) (A1 : Option Addr) (c1 : Nat) (ds : List Row), k ≤ rs.length ∧ i = .int .i64 k ∧ v = .slice A1 ds.length c1 ∧ Hid (ds.map Row.xs = (rs.map Row.xs).take k) ∧ Own wr w.heap.size wr.heap.size ds [⟨A1, c1, ds.map Row.v⟩] ∧ Below w.heap.size w wr) (fun _ i _ => rs.length - (intOf i).toNat)
  case atStart => exact ⟨0, _, _, [], Nat.zero_le _, rfl, rfl, Lib.hid rfl, hlit, hb0⟩
  case round =>
    clear hlit hb0
    obtain ⟨k, A1, c1, ds, hk, rfl, rfl, HX, hO, hb⟩ := hrel
    have hdl : ds.length = k := by have := congrArg List.length HX.out; simp at this; omega
    have hsz := hb.size
    rcases Nat.lt_or_ge k rs.length with hlt | hge
    · obtain ⟨b, off, rfl, _, hc⟩ := (h.next hb).read.at (by omega)
      have c1' := hc k hlt
      have hin := (h.next hb).row (List.getElem_mem hlt)
      have hrl := hin.len
      have HD := Lib.hid hdl
      have hkd : ds.length ≤ 1048576 := by omega
      have HT := Lib.hid (show (rs.map Row.xs).take (k + 1) = (rs.map Row.xs).take k ++ [rs[k].xs] by rw [List.take_succ_eq_append_getElem (by simpa using hlt)]; simp)
      clear hc hdl
      go_wp2_with fail
      (with_reducible refine (clone_any rs[k].A rs[k].c rs[k].xs wr hin).mono ?_)
      rintro e w1 ⟨A3, c3, rfl, _, _, own3, hbB⟩
      have hszB := hbB.size
      have hO2 := (hO.below hbB).add (r := ⟨A3, c3, rs[k].xs⟩) own3 hszB hsz
      have ho2 := hO2.outN (n := ds.length) (by simp)
      clear own3 hO
      go_wp2_with (at_builtin; refine wpList_append_own _ rfl _ _ 26 rfl (w.heap.size) 24 j0 (.slice none 0 0) 1 24 Tryz.underlying26 hj hy0 hy1 hy2 rfl (by decide) _ _ _ rfl (World.ownsRow.alloc ho2 _) ⟨w1.heap.size, 0, none⟩ 1 1 [Value.slice A3 rs[k].xs.length c3] rfl rfl (cell_one_at _ _ (by simp)) (by intro u hu; simp at hu; subst hu; rfl) (by unfold maxLen; omega) (by omega) (by simp; omega) ?_; intro v9 w9 hown9 hgrow9 _)
      obtain ⟨A5, c5, rfl, hO3, hg3⟩ := hO2.grow (Nat.le_refl _) (by simp) hown9 hgrow9
      have hbw := (hb.trans (hbB.mono hsz)).grown hg3 (by omega) (fun g hg => (hO2.olim (by simp) g hg).1)
      have K := Lib.hid (And.intro hO3 hbw)
      clear hO3 hbw hown9 hgrow9 hg3 hO2 ho2 hbB hb
      go_wp2_with fail
      go_roundw
      case rel => exact ⟨k + 1, A5, c5, ds ++ [⟨A3, c3, rs[k].xs⟩], by omega, by go_num, by rw [List.length_append]; rfl, Lib.hid (by rw [HT.out, List.map_append, HX.out]; rfl), by simpa [Row.v] using K.out.1, K.out.2⟩
      case measure => simp [intOf]; omega
    · obtain rfl : k = rs.length := by omega
      have HT := Lib.hid (show ds.map Row.xs = rs.map Row.xs by rw [HX.out]; exact List.take_of_length_le (by simp))
      have hr8 : ∀ r ∈ ds, r.xs.length ≤ 1048576 := fun r hr => by
        have h1 := map_memX HT.out hr
        obtain ⟨q, hq, he⟩ := List.mem_map.1 h1
        have h2 := sizeR_mem hq
        rw [← he]; omega
      have hS := sort_any A1 c1 w.heap.size ds wr 75 cmpP (hO.wider (Nat.le_refl _) (Nat.le_refl _)) (by omega) (fun args w => call_cmpP args w) (fun x _ y _ => (before_cmp x.xs y.xs).symm) (fun W x y hx hy h1 h2 => comparePerms_x x.A y.A x.c y.c x.xs y.xs W (hr8 x hx) (hr8 y hy) h1 h2)
      have HS := Lib.hid hS
      have hdl2 : ds.length ≤ 1048576 := by omega
      have HR8 := Lib.hid hr8
      have hA1 := hO.olim (n := ds.length) (by simp)
      clear hS hr8 hO hdl HX
      go_wp2_with fail
      (with_reducible refine HS.out.mono ?_)
      rintro e w1 ⟨rfl, ss, hperm, hsorted, hO1, hg1⟩
      have hsl : ss.length = ds.length := hperm.length_eq
      have HE := Lib.hid (show compL (ss.map Row.xs) = ordL (rs.map Row.xs) from comp_ord hsorted (fun q => by rw [← HT.out, List.mem_map, List.mem_map]; constructor <;> rintro ⟨r, hr, he⟩; exact ⟨r, hperm.mem_iff.1 hr, he⟩; exact ⟨r, hperm.mem_iff.2 hr, he⟩))
      have hC := compact_any A1 c1 w.heap.size ss w1 hO1 (by omega) (fun r hr => HR8.out r (hperm.mem_iff.1 hr))
      rw [hsl] at hC
      have HC := Lib.hid hC
      have hb1 := hb.grown hg1 hsz (fun g hg => (hA1 g (by rw [← hg]; exact ownBlock_len _ _ _ _ _)).1)
      have HG1 := Lib.hid hA1
      have hs1 := hb1.size
      clear hC hperm hsorted hO1 hg1 hsl hA1 HS
      go_wp2_with fail
      (with_reducible refine HC.out.mono ?_)
      rintro e w2 ⟨A4, c4, qs, rfl, hX4, hO4, hg4⟩
      have hb2 := hb1.grown hg4 hs1 (fun g hg => (HG1.out g (by rw [← hg]; exact ownBlock_len _ _ _ _ _)).1)
      go_wp2_with fail
      go_ret
      exact ⟨A4, c4, qs, rfl, by rw [hX4, HE.out], hO4, hb2⟩
end Go.Proofs.YtldknpjeegdbmaaGreat

/- OrderPerms of the reference; MakeBasis, program and reference. -/
namespace Go.Proofs.YtldknpjeegdbmaaGreat
set_option maxRecDepth 100000
open Go Go.RowKit

/-- A call's result of two: a list of rows of its own, and a truth value. -/
def RetLb (w : World) (X : List (List Int)) (b : Bool) (e : Ending) (w' : World) : Prop :=
  ∃ A c rs, e = .returned (.tuple #[.slice A rs.length c, .bool b]) ∧ rs.map Row.xs = X ∧ Own w' w.heap.size w'.heap.size rs [⟨A, c, rs.map Row.v⟩] ∧ Below w.heap.size w w'
/-- The lists in which none that was kept before occurs. -/
def sieve (L : List (List Int)) : List (List Int) := L.foldl (fun acc p => if avoidB acc p = true then acc ++ [p] else acc) []
theorem sieve_take (L : List (List Int)) (k : Nat) (h : k < L.length) : sieve (L.take (k + 1)) = if avoidB (sieve (L.take k)) L[k] = true then sieve (L.take k) ++ [L[k]] else sieve (L.take k) := by
  unfold sieve
  rw [List.take_succ_eq_append_getElem h, List.foldl_append]
  rfl
theorem sieve_fold (L acc : List (List Int)) : ∃ u, L.foldl (fun acc p => if avoidB acc p = true then acc ++ [p] else acc) acc = acc ++ u := by
  induction L generalizing acc with
  | nil => exact ⟨[], by simp⟩
  | cons a t ih =>
    rw [List.foldl_cons]
    by_cases h : avoidB acc a = true
    · rw [if_pos h]
      obtain ⟨u, hu⟩ := ih (acc ++ [a])
      exact ⟨a :: u, by rw [hu]; simp⟩
    · rw [if_neg h]
      exact ih acc
theorem sieve_sub (L : List (List Int)) : ∀ q ∈ sieve L, q ∈ L := by
  have : ∀ (L acc : List (List Int)), ∀ q ∈ L.foldl (fun acc p => if avoidB acc p = true then acc ++ [p] else acc) acc, q ∈ acc ∨ q ∈ L := by
    intro L
    induction L with
    | nil => intro acc q hq; exact .inl hq
    | cons a t ih =>
      intro acc q hq
      rw [List.foldl_cons] at hq
      rcases ih _ q hq with h | h
      · split at h
        · rcases List.mem_append.1 h with h | h
          · exact .inl h
          · rw [List.mem_singleton.1 h]; exact .inr (by simp)
        · exact .inl h
      · exact .inr (by simp [h])
  intro q hq
  rcases this L [] q hq with h | h
  · simp at h
  · exact h
def mkB (X : List (List Int)) : Bool := allPermB X && basisB (sieve (ordL X))
def mkG (X : List (List Int)) : List (List Int) := if mkB X = true then sieve (ordL X) else []
theorem mk_empty {X : List (List Int)} (h : [] ∈ X) : basisB (sieve (ordL X)) = false := by
  have h1 := (ordL_mem X []).2 h
  have hs := ordL_srt X
  match hO : ordL X with
  | [] => rw [hO] at h1; simp at h1
  | a :: t =>
    rw [hO] at h1 hs
    have ha : a = [] := by
      rcases List.mem_cons.1 h1 with e | h1
      · exact e.symm
      · have := (List.pairwise_cons.1 hs).1 _ h1
        unfold before at this
        split at this
        · rename_i hl
          exact List.eq_nil_of_length_eq_zero hl
        · simp at this
    subst ha
    obtain ⟨u, hu⟩ := sieve_fold t [[]]
    have e : sieve ([] :: t) = [[]] ++ u := hu
    rw [e]
    unfold basisB
    rw [Bool.and_eq_false_iff]
    right
    exact basTo_false (k := 0) (by simp) rfl
theorem mkB_basis {X : List (List Int)} (h : mkB X = true) : basisB (mkG X) = true := by
  unfold mkG; rw [if_pos h]
  unfold mkB at h; rw [Bool.and_eq_true] at h; exact h.2
theorem basis_size {X : List (List Int)} (h : basisB X = true) : X.length + sizeX X ≤ 1048576 := by
  have h1 := basis_len h
  have h2 : sizeX X ≤ X.length * 8 := by
    have hp := basis_perm h
    clear h h1
    induction X with
    | nil => simp [sizeX]
    | cons a t ih =>
      have h1 := (permB_true (hp a (by simp))).1
      have h2 := ih (fun q hq => hp q (by simp [hq]))
      simp only [sizeX, List.map_cons, List.sum_cons, List.length_cons, Nat.add_mul, Nat.one_mul] at h2 ⊢
      omega
  omega
theorem mkG_le (X : List (List Int)) : (mkG X).length + sizeX (mkG X) ≤ 1048576 := by
  by_cases h : mkB X = true
  · exact basis_size (mkB_basis h)
  · unfold mkG; rw [if_neg h]; simp [sizeX]
theorem sizeR_sub {rs rs' : List Row} (h : rs'.Sublist rs) : rs'.length + sizeR rs' ≤ rs.length + sizeR rs := by
  induction h with
  | slnil => exact Nat.le_refl _
  | cons a _ ih => simp only [sizeR, List.map_cons, List.sum_cons, List.length_cons] at ih ⊢; omega
  | cons_cons a _ ih => simp only [sizeR, List.map_cons, List.sum_cons, List.length_cons] at ih ⊢; omega
theorem sizeX_append (X Y : List (List Int)) : sizeX (X ++ Y) = sizeX X + sizeX Y := by simp [sizeX]
theorem putL_size (X : List (List Int)) (p : List Int) : (putL X p).length + sizeX (putL X p) ≤ X.length + sizeX X + 1 + p.length := by
  unfold putL
  split
  · omega
  · have h1 : sizeX X = sizeX (X.take (putAt X p X.length)) + sizeX (X.drop (putAt X p X.length)) := by rw [← sizeX_append, List.take_append_drop]
    have h2 : X.length = (X.take (putAt X p X.length)).length + (X.drop (putAt X p X.length)).length := by rw [← List.length_append, List.take_append_drop]
    rw [sizeX_append, List.length_append]
    have h3 : sizeX (p :: X.drop (putAt X p X.length)) = p.length + sizeX (X.drop (putAt X p X.length)) := by simp [sizeX]
    rw [h3, List.length_cons]
    omega
theorem ordL_size (X : List (List Int)) : (ordL X).length + sizeX (ordL X) ≤ X.length + sizeX X := by
  have : ∀ (X Y : List (List Int)), (X.foldl putL Y).length + sizeX (X.foldl putL Y) ≤ Y.length + sizeX Y + (X.length + sizeX X) := by
    intro X
    induction X with
    | nil => intro Y; simp [sizeX]
    | cons a t ih =>
      intro Y
      have h1 := ih (putL Y a)
      have h2 := putL_size Y a
      have h3 : sizeX (a :: t) = a.length + sizeX t := by simp [sizeX]
      rw [List.foldl_cons, List.length_cons, h3]
      omega
  have := this X []
  simpa [ordL, sizeX] using this
/-- The rows that are kept. -/
def sieveR (rs : List Row) : Nat → List Row
  | 0 => []
  | k + 1 => match rs[k]? with
    | some r => if avoidB ((sieveR rs k).map Row.xs) r.xs = true then sieveR rs k ++ [r] else sieveR rs k
    | none => sieveR rs k
theorem sieveR_succ (rs : List Row) (k : Nat) (h : k < rs.length) : sieveR rs (k + 1) = if avoidB ((sieveR rs k).map Row.xs) rs[k].xs = true then sieveR rs k ++ [rs[k]] else sieveR rs k := by
  rw [sieveR, List.getElem?_eq_getElem h]
theorem sieveR_sub (rs : List Row) (k : Nat) (h : k ≤ rs.length) : (sieveR rs k).Sublist (rs.take k) := by
  induction k with
  | zero => exact List.Sublist.refl _
  | succ k ih =>
    rw [sieveR_succ rs k (by omega), List.take_succ_eq_append_getElem (by omega)]
    split
    · exact (ih (by omega)).append (List.Sublist.refl _)
    · exact (ih (by omega)).trans (List.sublist_append_left _ _)
theorem sieveR_map (rs : List Row) (k : Nat) (h : k ≤ rs.length) : (sieveR rs k).map Row.xs = sieve ((rs.map Row.xs).take k) := by
  induction k with
  | zero => rfl
  | succ k ih =>
    have ih := ih (by omega)
    have hk : (rs.map Row.xs)[k]'(by rw [List.length_map]; omega) = rs[k].xs := by simp
    rw [sieveR_succ rs k (by omega), sieve_take _ k (by rw [List.length_map]; omega), ih, hk]
    split
    · rw [List.map_append, ih]; rfl
    · exact ih
theorem sieveR_all (rs : List Row) : (sieveR rs rs.length).map Row.xs = sieve (rs.map Row.xs) := by
  rw [sieveR_map rs rs.length (Nat.le_refl _), List.take_of_length_le (by simp)]
end Go.Proofs.YtldknpjeegdbmaaGreat

/- Symmetries of permutations: inverse, complement, symmetry; SymmetryBasis. -/
namespace Go.Proofs.YtldknpjeegdbmaaGreat
set_option maxRecDepth 100000
open Go Go.RowKit

/-- The inverse, as far as the first k numbers tell it. -/
def invTo (p : List Int) : Nat → List Int
  | 0 => List.replicate p.length 0
  | k + 1 => (invTo p k).set ((p[k]?.getD 0) - 1).toNat ((k : Int) + 1)
def invL (p : List Int) : List Int := invTo p p.length
theorem invTo_length (p : List Int) (k : Nat) : (invTo p k).length = p.length := by
  induction k with
  | zero => simp [invTo]
  | succ k ih => simp [invTo, ih]
theorem invTo_bound (p : List Int) (k : Nat) (hk : k ≤ p.length) : ∀ x ∈ invTo p k, 0 ≤ x ∧ x ≤ p.length := by
  induction k with
  | zero =>
    intro x hx
    rw [invTo] at hx
    rw [List.eq_of_mem_replicate hx]
    omega
  | succ k ih =>
    intro x hx
    rw [invTo] at hx
    rcases List.mem_or_eq_of_mem_set hx with h | h
    · exact ih (by omega) x h
    · omega
def complL (p : List Int) : List Int := p.map fun v => (p.length : Int) + 1 - v
def complTo (p : List Int) (k : Nat) : List Int := (p.take k).map fun v => (p.length : Int) + 1 - v
theorem complTo_succ (p : List Int) (k : Nat) (h : k < p.length) : complTo p (k + 1) = complTo p k ++ [(p.length : Int) + 1 - p[k]] := by
  unfold complTo; rw [List.take_succ_eq_append_getElem h, List.map_append]; rfl
theorem complTo_all (p : List Int) : complTo p p.length = complL p := by unfold complTo complL; rw [List.take_length]
theorem complTo_len (p : List Int) (k : Nat) (h : k ≤ p.length) : (complTo p k).length = k := by unfold complTo; simp; omega
def revL (p : List Int) : List Int := p.reverse
/-- The symmetry number k. -/
def symL (p : List Int) : Nat → List Int
  | 0 => p
  | 1 => invL p
  | 2 => revL p
  | 3 => revL (invL p)
  | 4 => complL p
  | 5 => complL (invL p)
  | 6 => complL (revL p)
  | _ => complL (revL (invL p))
theorem small_perm {p : List Int} (h : permB p = true) : p.length ≤ 8 ∧ ∀ x ∈ p, 0 ≤ x ∧ x ≤ 8 := by
  have h8 := (permB_true h).1
  exact ⟨h8, fun x hx => by have := (permB_true h).2.1 x hx; omega⟩
theorem small_inv {p : List Int} (h : p.length ≤ 8) : (invL p).length ≤ 8 ∧ ∀ x ∈ invL p, 0 ≤ x ∧ x ≤ 8 :=
  ⟨by unfold invL; rw [invTo_length]; exact h, fun x hx => by have := invTo_bound p p.length (Nat.le_refl _) x hx; omega⟩
theorem small_rev {p : List Int} (h : p.length ≤ 8 ∧ ∀ x ∈ p, 0 ≤ x ∧ x ≤ 8) : (revL p).length ≤ 8 ∧ ∀ x ∈ revL p, 0 ≤ x ∧ x ≤ 8 :=
  ⟨by unfold revL; rw [List.length_reverse]; exact h.1, fun x hx => h.2 x (List.mem_reverse.1 hx)⟩
theorem symL_len {p : List Int} (h : p.length ≤ 8) (k : Nat) : (symL p k).length ≤ 8 := by
  have hi : (invL p).length = p.length := invTo_length p p.length
  unfold symL
  split <;> simp [complL, revL, hi, h]
set_option maxHeartbeats 2000000 in
theorem complement_impl (A : Option Addr) (c : Nat) (p : List Int) (w : World) (h : In w A c p) (hB : ∀ x ∈ p, 0 ≤ x ∧ x ≤ 1048576) :
    Calls Tryz.prog 86 #[.slice A p.length c] w (Ret (Value.int .i64) 3 w (complL p)) := by
  obtain ⟨i0, hi, hz0, hz1, hz2⟩ := info_parts infoI
  have hl := h.len
  have HR := Lib.hid hB
  have hown0 : (w.alloc (.cells #[] 3)).ownsRow w.heap.size 3 1 (.slice (some ⟨w.heap.size, 0, none⟩) 0 0) 0 ((complTo p 0).map (Value.int .i64)) := World.ownsRow_lit w #[] 0 (Nat.le_refl _) (by unfold maxLen; omega) rfl
  have hb0 := (Below.refl w.heap.size w).alloc (Nat.le_refl _) (.cells #[] 3)
  clear hB
  go_enter Tryz.func86, Tryz.ntmps86
  go_wp2_with fail
  go_loopw [3, 9] (fun v i wr => ∃ (k : Nat) (A1 : Option Addr) (c1 : Nat), k ≤ p.length ∧ i = .int .i64 k ∧ v = .slice A1 k c1 ∧ wr.ownsRow w.heap.size 3 1 (.slice A1 k c1) k ((complTo p k).map (Value.int .i64)) ∧ Below w.heap.size w wr) (fun _ i _ => p.length - (intOf i).toNat)
  case atStart => exact ⟨0, _, _, Nat.zero_le _, rfl, rfl, hown0, hb0⟩
  case round =>
    clear hown0 hb0
    obtain ⟨k, A1, c1, hk, rfl, rfl, hown, hb⟩ := hrel
    have hsz := hb.size
    rcases Nat.lt_or_ge k p.length with hlt | hge
    · obtain ⟨b, off, rfl, _, hc⟩ := (h.next hb).rd (by omega)
      have g1 := hc k hlt
      have hv := HR.out p[k] (List.getElem_mem hlt)
      have HS := Lib.hid (complTo_succ p k hlt)
      have e1 : IntKind.i64.wrap ((p.length : Int) + 1) = (p.length : Int) + 1 := IntWalk.i64_in _ (by omega)
      have e2 : IntKind.i64.wrap ((p.length : Int) + 1 - p[k]) = (p.length : Int) + 1 - p[k] := IntWalk.i64_in _ (by omega)
      clear hc
      go_wp2_with (at_builtin; refine wpList_append_own _ rfl _ _ 24 rfl (w.heap.size) 3 i0 (.int .i64 0) 1 8 Tryz.underlying24 hi hz0 hz1 hz2 rfl (by decide) _ _ _ rfl (World.ownsRow.alloc hown _) ⟨wr.heap.size, 0, none⟩ 1 1 [.int .i64 ((p.length : Int) + 1 - p[k])] rfl rfl (cell_one_new _ _ _) (by intro u hu; simp at hu; subst hu; rfl) (by unfold maxLen; omega) (by omega) (by simp; omega) ?_; intro v1 w1 hown1 hgrow1 _)
      have hb1 := (hb.alloc hsz (Obj.cells #[Value.int .i64 ((p.length : Int) + 1 - p[k])] 3)).grown hgrow1 (by simp; omega) (by intro g hg; exact ((hown.lt g hg).1))
      have hS2 : w1.ownsRow w.heap.size 3 1 v1 (k + 1) ((complTo p (k + 1)).map (Value.int .i64)) := by rw [HS.out]; simpa using hown1
      obtain ⟨A3, c3, rfl, _, _⟩ := own_shape hS2
      have K := Lib.hid (And.intro hS2 hb1)
      clear hS2 hown1 hgrow1 hb1 hown hb
      go_wp2_with fail
      go_roundw
      case rel => exact ⟨k + 1, A3, c3, by omega, by go_num, rfl, K.out.1, K.out.2⟩
      case measure => simp [intOf]; omega
    · obtain rfl : k = p.length := by omega
      have HLL := Lib.hid (show (complL p).length = p.length by unfold complL; simp)
      have hcap := own_caps hown
      rw [complTo_all] at hown
      have HO := Lib.hid hown
      clear hown
      go_wp2_with fail
      go_ret
      exact ⟨A1, c1, by rw [HLL.out]; rfl, by rw [HLL.out]; exact hcap.1, hcap.2, by rw [HLL.out]; exact HO.out, hb⟩
set_option maxHeartbeats 2000000 in
theorem l3Complement_any (A : Option Addr) (c : Nat) (p : List Int) (w : World) (h : In w A c p) (hB : ∀ x ∈ p, 0 ≤ x ∧ x ≤ 1048576) :
    Calls Tryz.prog 89 #[.slice A p.length c] w (Ret (Value.int .i64) 3 w (complL p)) := by
  obtain ⟨i0, hi, hz0, hz1, hz2⟩ := info_parts infoI
  have hl := h.len
  have HR := Lib.hid hB
  have hown0 : (w.alloc (.cells #[] 3)).ownsRow w.heap.size 3 1 (.slice (some ⟨w.heap.size, 0, none⟩) 0 0) 0 ((complTo p 0).map (Value.int .i64)) := World.ownsRow_lit w #[] 0 (Nat.le_refl _) (by unfold maxLen; omega) rfl
  have hb0 := (Below.refl w.heap.size w).alloc (Nat.le_refl _) (.cells #[] 3)
  clear hB
  go_enter Tryz.func89, Tryz.ntmps89
  go_wp2_with fail
  go_loopw [3, 4] (fun v i wr => ∃ (k : Nat) (A1 : Option Addr) (c1 : Nat), k ≤ p.length ∧ i = .int .i64 k ∧ v = .slice A1 k c1 ∧ wr.ownsRow w.heap.size 3 1 (.slice A1 k c1) k ((complTo p k).map (Value.int .i64)) ∧ Below w.heap.size w wr) (fun _ i _ => p.length - (intOf i).toNat)
  case atStart => exact ⟨0, _, _, Nat.zero_le _, rfl, rfl, hown0, hb0⟩
  case round =>
    clear hown0 hb0
    obtain ⟨k, A1, c1, hk, rfl, rfl, hown, hb⟩ := hrel
    have hsz := hb.size
    rcases Nat.lt_or_ge k p.length with hlt | hge
    · obtain ⟨b, off, rfl, _, hc⟩ := (h.next hb).rd (by omega)
      have g1 := hc k hlt
      have hv := HR.out p[k] (List.getElem_mem hlt)
      have HS := Lib.hid (complTo_succ p k hlt)
      have e1 : IntKind.i64.wrap ((p.length : Int) + 1) = (p.length : Int) + 1 := IntWalk.i64_in _ (by omega)
      have e2 : IntKind.i64.wrap ((p.length : Int) + 1 - p[k]) = (p.length : Int) + 1 - p[k] := IntWalk.i64_in _ (by omega)
      clear hc
      go_wp2_with (at_builtin; refine wpList_append_own _ rfl _ _ 24 rfl (w.heap.size) 3 i0 (.int .i64 0) 1 8 Tryz.underlying24 hi hz0 hz1 hz2 rfl (by decide) _ _ _ rfl (World.ownsRow.alloc hown _) ⟨wr.heap.size, 0, none⟩ 1 1 [.int .i64 ((p.length : Int) + 1 - p[k])] rfl rfl (cell_one_new _ _ _) (by intro u hu; simp at hu; subst hu; rfl) (by unfold maxLen; omega) (by omega) (by simp; omega) ?_; intro v1 w1 hown1 hgrow1 _)
      have hb1 := (hb.alloc hsz (Obj.cells #[Value.int .i64 ((p.length : Int) + 1 - p[k])] 3)).grown hgrow1 (by simp; omega) (by intro g hg; exact ((hown.lt g hg).1))
      have hS2 : w1.ownsRow w.heap.size 3 1 v1 (k + 1) ((complTo p (k + 1)).map (Value.int .i64)) := by rw [HS.out]; simpa using hown1
      obtain ⟨A3, c3, rfl, _, _⟩ := own_shape hS2
      have K := Lib.hid (And.intro hS2 hb1)
      clear hS2 hown1 hgrow1 hb1 hown hb
      go_wp2_with fail
      go_roundw
      case rel => exact ⟨k + 1, A3, c3, by omega, by go_num, rfl, K.out.1, K.out.2⟩
      case measure => simp [intOf]; omega
    · obtain rfl : k = p.length := by omega
      have HLL := Lib.hid (show (complL p).length = p.length by unfold complL; simp)
      have hcap := own_caps hown
      rw [complTo_all] at hown
      have HO := Lib.hid hown
      clear hown
      go_wp2_with fail
      go_ret
      exact ⟨A1, c1, by rw [HLL.out]; rfl, by rw [HLL.out]; exact hcap.1, hcap.2, by rw [HLL.out]; exact HO.out, hb⟩
end Go.Proofs.YtldknpjeegdbmaaGreat

/- Plain maths of occurrences: the inverse and the complement. -/
namespace Go.Proofs.YtldknpjeegdbmaaGreat
set_option maxRecDepth 100000

theorem invTo_get {p : List Int} (hp : permB p = true) : ∀ (k : Nat), k ≤ p.length → ∀ i : Int, 1 ≤ i → i ≤ k → at1 (invTo p k) (at1 p i) = i := by
  intro k
  induction k with
  | zero => intro _ i h1 h2; omega
  | succ k ih =>
    intro hk i h1 h2
    have hr := perm_rng hp h1 (by omega)
    have hk1 := perm_rng hp (x := (k : Int) + 1) (by omega) (by omega)
    have e1 : p[k]?.getD 0 = at1 p ((k : Int) + 1) := by rw [at1_get (by omega), List.getElem?_eq_getElem (by omega)]; rfl
    have hl := invTo_length p k
    rw [invTo, e1]
    unfold at1
    by_cases hik : i = (k : Int) + 1
    · subst hik
      rw [show (p[((k : Int) + 1 - 1).toNat]?.getD 0) = at1 p ((k : Int) + 1) from rfl]
      rw [List.getElem?_set_self (by omega)]; rfl
    · have hne : at1 p i ≠ at1 p ((k : Int) + 1) := fun e => hik (perm_inj hp ⟨h1, by omega⟩ ⟨by omega, by omega⟩ e)
      rw [show (p[(i - 1).toNat]?.getD 0) = at1 p i from rfl]
      rw [show (p[((k : Int) + 1 - 1).toNat]?.getD 0) = at1 p ((k : Int) + 1) from rfl]
      rw [List.getElem?_set_ne (by omega)]
      exact ih (by omega) i h1 (by omega)
theorem inv_at {p : List Int} (hp : permB p = true) {i : Int} (h1 : 1 ≤ i) (h2 : i ≤ p.length) : at1 (invL p) (at1 p i) = i := invTo_get hp p.length (Nat.le_refl _) i h1 h2
theorem invL_length (p : List Int) : (invL p).length = p.length := invTo_length p p.length
theorem at_inv {p : List Int} (hp : permB p = true) {v : Int} (h1 : 1 ≤ v) (h2 : v ≤ p.length) : at1 p (at1 (invL p) v) = v ∧ 1 ≤ at1 (invL p) v ∧ at1 (invL p) v ≤ p.length := by
  obtain ⟨x, hx1, hx2, rfl⟩ := perm_onto hp h1 h2
  rw [inv_at hp hx1 hx2]
  exact ⟨rfl, hx1, hx2⟩
theorem perm_inv {p : List Int} (hp : permB p = true) : permB (invL p) = true := by
  have h8 := (permB_true hp).1
  have hl := invL_length p
  refine perm_of (by omega) (fun x h1 h2 => ?_) (fun x y hx hy e => ?_)
  · have := (at_inv hp h1 (by omega)).2
    omega
  · have h1 := (at_inv hp hx.1 (by omega)).1
    have h2 := (at_inv hp hy.1 (by omega)).1
    rw [e, h2] at h1
    exact h1.symm
theorem inv_inv {p : List Int} (hp : permB p = true) : invL (invL p) = p := by
  have hl := invL_length p
  have hl2 := invL_length (invL p)
  refine at1_ext (by omega) fun x h1 h2 => ?_
  have hr := perm_rng hp h1 (by omega)
  have h3 := inv_at (perm_inv hp) (i := at1 p x) hr.1 (by omega)
  rw [inv_at hp h1 (by omega)] at h3
  exact h3
/-- The numbers at the places, in their order: the places of the inverse. -/
def invPl (p q l : List Int) : List Int := ofF q.length fun j => at1 p (at1 l (at1 (invL q) j))
theorem occ_inverse {p q l : List Int} (hp : permB p = true) (hq : permB q = true) (h : Occ p q l) : Occ (invL p) (invL q) (invPl p q l) := by
  have hl := h.len
  have hip := invL_length p
  have hiq := invL_length q
  have hb : ∀ j : Int, 1 ≤ j ∧ j ≤ q.length → 1 ≤ at1 (invL q) j ∧ at1 (invL q) j ≤ q.length := fun j hj => (at_inv hq hj.1 hj.2).2
  have hr : ∀ j : Int, 1 ≤ j ∧ j ≤ q.length → 1 ≤ at1 l (at1 (invL q) j) ∧ at1 l (at1 (invL q) j) ≤ p.length := fun j hj => h.rng _ (hb j hj).1 (by have := (hb j hj).2; omega)
  refine ⟨by rw [invPl, ofF_length, hiq], fun i j h1 h2 h3 => ?_, fun i h1 h2 => ?_, fun i j hi hj => ?_⟩
  · rw [invPl, ofF_length] at h3
    unfold invPl
    rw [at1_ofF h1 (by omega), at1_ofF (by omega) h3]
    rw [← h.ord _ _ (hb i ⟨h1, by omega⟩) (hb j ⟨by omega, h3⟩), (at_inv hq h1 (by omega)).1, (at_inv hq (by omega) h3).1]
    exact h2
  · rw [invPl, ofF_length] at h2
    unfold invPl
    rw [at1_ofF h1 h2, hip]
    have a := hr i ⟨h1, h2⟩
    exact perm_rng hp a.1 a.2
  · rw [hiq] at hi hj
    unfold invPl
    rw [at1_ofF hi.1 hi.2, at1_ofF hj.1 hj.2]
    have a := hr i hi
    have b := hr j hj
    rw [inv_at hp a.1 a.2, inv_at hp b.1 b.2, h.inc.lt (by have := hb i hi; omega) (by have := hb j hj; omega)]
theorem invPl_at {p q l : List Int} (hq : permB q = true) {i : Int} (h1 : 1 ≤ i) (h2 : i ≤ q.length) : at1 (invPl p q l) (at1 q i) = at1 p (at1 l i) := by
  have hr := perm_rng hq h1 h2
  unfold invPl
  rw [at1_ofF hr.1 hr.2, inv_at hq h1 h2]
theorem invPl_inj {p q l k : List Int} (hp : permB p = true) (hq : permB q = true) (hl : Occ p q l) (hk : Occ p q k) (e : invPl p q l = invPl p q k) : l = k := by
  have h1 := hl.len
  have h2 := hk.len
  refine at1_ext (by omega) fun x hx1 hx2 => ?_
  have : at1 (invPl p q l) (at1 q x) = at1 (invPl p q k) (at1 q x) := by rw [e]
  rw [invPl_at hq hx1 (by omega), invPl_at hq hx1 (by omega)] at this
  exact perm_inj hp (hl.rng x hx1 hx2) (hk.rng x hx1 (by omega)) this
theorem occ_count_inverse {p q : List Int} (hp : permB p = true) (hq : permB q = true) : (occI (invL p) (invL q)).length = (occI p q).length := by
  have hp' := perm_inv hp
  have hq' := perm_inv hq
  refine len_of_inj (occI_nodup _ _) (occI_nodup _ _) (invPl (invL p) (invL q)) (invPl p q) (fun l hl => ?_) (fun l hl k hk e => ?_) (fun l hl => ?_) (fun l hl k hk e => ?_)
  · have h := occ_inverse hp' hq' ((occ_iff hp' hq').1 hl)
    rw [inv_inv hp, inv_inv hq] at h
    exact (occ_iff hp hq).2 h
  · exact invPl_inj hp' hq' ((occ_iff hp' hq').1 hl) ((occ_iff hp' hq').1 hk) e
  · exact (occ_iff hp' hq').2 (occ_inverse hp hq ((occ_iff hp hq).1 hl))
  · exact invPl_inj hp hq ((occ_iff hp hq).1 hl) ((occ_iff hp hq).1 hk) e

/-! The complement. -/
theorem complL_length (p : List Int) : (complL p).length = p.length := by simp [complL]
theorem at1_compl {p : List Int} {x : Int} (h1 : 1 ≤ x) (h2 : x ≤ p.length) : at1 (complL p) x = (p.length : Int) + 1 - at1 p x := by
  obtain ⟨i, h, e1, e2⟩ := at1_nat (p := p) h1 h2
  have h' : i < (complL p).length := by rw [complL_length]; exact h
  rw [e2, e1, at1_get h']
  simp [complL]
theorem perm_compl {p : List Int} (hp : permB p = true) : permB (complL p) = true := by
  have h8 := (permB_true hp).1
  have hl := complL_length p
  refine perm_of (by omega) (fun x h1 h2 => ?_) (fun x y hx hy e => ?_)
  · rw [at1_compl h1 (by omega)]
    have := perm_rng hp h1 (by omega)
    omega
  · rw [at1_compl hx.1 (by omega), at1_compl hy.1 (by omega)] at e
    exact perm_inj hp ⟨hx.1, by omega⟩ ⟨hy.1, by omega⟩ (by omega)
theorem occ_compl {p q l : List Int} (h : Occ p q l) : Occ (complL p) (complL q) l := by
  have hl := h.len
  refine ⟨by rw [complL_length]; exact hl, h.inc, by rw [complL_length]; exact h.rng, fun i j hi hj => ?_⟩
  rw [complL_length] at hi hj
  have a := h.rng i hi.1 (by omega)
  have b := h.rng j hj.1 (by omega)
  rw [at1_compl hi.1 hi.2, at1_compl hj.1 hj.2, at1_compl a.1 a.2, at1_compl b.1 b.2]
  have := h.ord j i hj hi
  omega
theorem compl_compl {p : List Int} : complL (complL p) = p := by
  refine at1_ext (by rw [complL_length, complL_length]) fun x h1 h2 => ?_
  rw [complL_length, complL_length] at h2
  rw [at1_compl h1 (by rw [complL_length]; exact h2), at1_compl h1 h2, complL_length]
  omega

/-! All symmetries. -/
theorem perm_sym {p : List Int} (hp : permB p = true) (k : Nat) : permB (symL p k) = true := by
  unfold symL
  split
  all_goals first | exact hp | exact perm_inv hp | exact perm_reverse hp | exact perm_reverse (perm_inv hp) | exact perm_compl hp | exact perm_compl (perm_inv hp) | exact perm_compl (perm_reverse hp) | exact perm_compl (perm_reverse (perm_inv hp))
theorem has_reverse {p q : List Int} (hp : permB p = true) (hq : permB q = true) : hasB p.reverse q.reverse = hasB p q := by
  rw [Bool.eq_iff_iff, has_iff hp hq, has_iff (perm_reverse hp) (perm_reverse hq)]
  constructor
  · rintro ⟨l, h⟩
    have := occ_reverse h
    rw [List.reverse_reverse, List.reverse_reverse] at this
    exact ⟨_, this⟩
  · rintro ⟨l, h⟩; exact ⟨_, occ_reverse h⟩
theorem has_inverse {p q : List Int} (hp : permB p = true) (hq : permB q = true) : hasB (invL p) (invL q) = hasB p q := by
  rw [Bool.eq_iff_iff, has_iff hp hq, has_iff (perm_inv hp) (perm_inv hq)]
  constructor
  · rintro ⟨l, h⟩
    have := occ_inverse (perm_inv hp) (perm_inv hq) h
    rw [inv_inv hp, inv_inv hq] at this
    exact ⟨_, this⟩
  · rintro ⟨l, h⟩; exact ⟨_, occ_inverse hp hq h⟩
theorem has_compl {p q : List Int} (hp : permB p = true) (hq : permB q = true) : hasB (complL p) (complL q) = hasB p q := by
  rw [Bool.eq_iff_iff, has_iff hp hq, has_iff (perm_compl hp) (perm_compl hq)]
  constructor
  · rintro ⟨l, h⟩
    have := occ_compl h
    rw [compl_compl, compl_compl] at this
    exact ⟨_, this⟩
  · rintro ⟨l, h⟩; exact ⟨_, occ_compl h⟩
theorem has_sym {p q : List Int} (hp : permB p = true) (hq : permB q = true) (k : Nat) : hasB (symL p k) (symL q k) = hasB p q := by
  match k with
  | 0 => rfl
  | 1 => exact has_inverse hp hq
  | 2 => exact has_reverse hp hq
  | 3 => exact (has_reverse (perm_inv hp) (perm_inv hq)).trans (has_inverse hp hq)
  | 4 => exact has_compl hp hq
  | 5 => exact (has_compl (perm_inv hp) (perm_inv hq)).trans (has_inverse hp hq)
  | 6 => exact (has_compl (perm_reverse hp) (perm_reverse hq)).trans (has_reverse hp hq)
  | _ + 7 => exact (has_compl (perm_reverse (perm_inv hp)) (perm_reverse (perm_inv hq))).trans ((has_reverse (perm_inv hp) (perm_inv hq)).trans (has_inverse hp hq))
end Go.Proofs.YtldknpjeegdbmaaGreat

/- Plain maths of FnPatterns: patterns of places, patterns without a place, subsets by bits. -/
namespace Go.Proofs.YtldknpjeegdbmaaGreat
set_option maxRecDepth 100000

theorem at1_atL {p l : List Int} {x : Int} (h1 : 1 ≤ x) (h2 : x ≤ l.length) : at1 (atL p l) x = at1 p (at1 l x) := by
  obtain ⟨i, h, e1, e2⟩ := at1_nat (p := l) h1 h2
  have h' : i < (atL p l).length := by rw [atL_length]; exact h
  rw [e2, e1, at1_get h']
  simp [atL_map]
theorem belowN_bound {L : List Int} {x : Int} (h : x ∈ L) : belowN L x < L.length := by
  unfold belowN
  apply List.length_filter_lt_length_iff_exists.2
  exact ⟨x, h, by simp⟩
theorem at1_pat {L : List Int} {x : Int} (h1 : 1 ≤ x) (h2 : x ≤ L.length) : at1 (patL L) x = (belowN L (at1 L x) : Int) + 1 := by
  obtain ⟨i, h, e1, e2⟩ := at1_nat (p := L) h1 h2
  have h' : i < (patL L).length := by rw [patL_length]; exact h
  rw [e2, e1, at1_get h']
  simp [patL]
theorem patL_permB {L : List Int} (hn : L.Nodup) (h8 : L.length ≤ 8) : permB (patL L) = true := by
  have hl := patL_length L
  refine perm_of (by omega) (fun x h1 h2 => ?_) (fun x y hx hy e => ?_)
  · rw [at1_pat h1 (by omega)]
    have := belowN_bound (at1_mem h1 (show x ≤ (L.length : Int) by omega))
    omega
  · rw [at1_pat hx.1 (by omega), at1_pat hy.1 (by omega)] at e
    have mx := at1_mem hx.1 (show x ≤ (L.length : Int) by omega)
    have my := at1_mem hy.1 (show y ≤ (L.length : Int) by omega)
    have hxy : at1 L x = at1 L y := by
      rcases Int.lt_trichotomy (at1 L x) (at1 L y) with a | a | a
      · have := belowN_lt mx a; omega
      · exact a
      · have := belowN_lt my a; omega
    obtain ⟨i, hi, e1, e2⟩ := at1_nat hx.1 (show x ≤ (L.length : Int) by omega)
    obtain ⟨j, hj, e3, e4⟩ := at1_nat hy.1 (show y ≤ (L.length : Int) by omega)
    rw [e2, e4] at hxy
    have := nodup_inj hn hi hj hxy
    omega
theorem pat_occ {p l : List Int} {k : Nat} (hp : permB p = true) (h : l ∈ ascI p.length k) : permB (patL (atL p l)) = true ∧ Occ p (patL (atL p l)) l := by
  obtain ⟨hk, ha⟩ := ascI_mem h
  have hn := atL_nodup (permB_true hp).2.2 ha
  have h8 := (permB_true hp).1
  have hl8 : l.length ≤ 8 := by
    obtain ⟨h1, h2, h3⟩ := ascI_iff.1 h
    have := nodup_sub_len l (nums p.length) (by rw [List.nodup_iff_pairwise_ne]; exact h2.imp fun h => by omega) fun x hx => nums_mem.2 (h3 x hx)
    rw [nums_length] at this
    omega
  have hpp := patL_permB hn (by rw [atL_length]; exact hl8)
  refine ⟨hpp, (occ_iff hp hpp).1 ?_⟩
  unfold occI
  rw [patL_length, atL_length, hk]
  exact List.mem_filter.2 ⟨h, decide_eq_true rfl⟩
theorem at1_cut {p : List Int} {i : Nat} {x : Int} (hi : i < p.length) (h1 : 1 ≤ x) (h2 : x ≤ (p.length : Int) - 1) : at1 (cutAt p i) x = at1 p (if x ≤ i then x else x + 1) := by
  have hc := cutAt_length p i hi
  obtain ⟨j, hj, e1, e2⟩ := at1_nat (p := cutAt p i) h1 (by omega)
  rw [e2]
  have hj' : j < (p.take i ++ p.drop (i + 1)).length := hj
  show (p.take i ++ p.drop (i + 1))[j] = _
  by_cases hlt : j < i
  · rw [List.getElem_append_left (by rw [List.length_take]; omega), List.getElem_take, if_pos (by omega), e1, at1_get (by omega)]
  · rw [List.getElem_append_right (by rw [List.length_take]; omega), List.getElem_drop, if_neg (by omega), e1, show (j : Int) + 1 + 1 = ((j + 1 : Nat) : Int) + 1 by omega, at1_get (by omega)]
    congr 1
    rw [List.length_take]
    omega
def cutPl (n i : Nat) : List Int := ofF (n - 1) fun x => if x ≤ i then x else x + 1
theorem atL_cut {p : List Int} {i : Nat} (hi : i < p.length) : atL p (cutPl p.length i) = cutAt p i := by
  have hc := cutAt_length p i hi
  have hl : (cutPl p.length i).length = p.length - 1 := ofF_length _ _
  refine at1_ext (by rw [atL_length]; omega) fun x h1 h2 => ?_
  rw [atL_length] at h2
  rw [at1_atL h1 h2, at1_cut hi h1 (by omega)]
  unfold cutPl
  rw [at1_ofF h1 (by omega)]
theorem cutPl_asc {n i : Nat} (hi : i < n) : cutPl n i ∈ ascI n (n - 1) := by
  rw [ascI_iff]
  have hl : (cutPl n i).length = n - 1 := ofF_length _ _
  refine ⟨hl, inc_pair.1 fun a b h1 h2 h3 => ?_, rng_mem.1 fun a h1 h2 => ?_⟩
  · unfold cutPl
    rw [at1_ofF h1 (by omega), at1_ofF (by omega) (by omega)]
    split <;> split <;> omega
  · unfold cutPl
    rw [at1_ofF h1 (by omega)]
    split <;> omega
/-- A permutation has the pattern that is left without a place. -/
theorem cut_occ {p : List Int} {i : Nat} (hp : permB p = true) (hi : i < p.length) : permB (patL (cutAt p i)) = true ∧ hasB p (patL (cutAt p i)) = true := by
  have h := pat_occ hp (cutPl_asc hi)
  rw [atL_cut hi] at h
  exact ⟨h.1, (has_iff hp h.1).2 ⟨_, h.2⟩⟩
/-- Are these places of the pattern? -/
def isoB (p q l : List Int) : Bool := permB p && permB q && joinTo (p.length + 1) l l.length && decide (patL (atL p l) = q)
theorem inc_join {n : Nat} {l : List Int} (h : l.Pairwise (· < ·)) (hr : ∀ x ∈ l, 1 ≤ x ∧ x ≤ n) : joinTo (n + 1) l l.length = true := by
  unfold joinTo
  rw [List.all_eq_true]
  intro j hj
  have hj := List.mem_range.1 hj
  unfold joinAt
  rw [List.getElem?_eq_getElem hj]
  simp only [Option.getD_some, decide_eq_true_eq]
  have := hr _ (List.getElem_mem hj)
  refine ⟨this.1, by omega, ?_⟩
  rcases Nat.eq_zero_or_pos j with h0 | h0
  · exact .inl h0
  · right
    rw [List.getElem?_eq_getElem (by omega)]
    exact List.pairwise_iff_getElem.1 h (j - 1) j (by omega) hj (by omega)
theorem join_facts {n : Nat} {l : List Int} (h : joinTo (n + 1) l l.length = true) : l.Pairwise (· < ·) ∧ (∀ x ∈ l, 1 ≤ x ∧ x ≤ n) ∧ l.length ≤ n := by
  unfold joinTo at h
  rw [List.all_eq_true] at h
  have hat : ∀ j (hj : j < l.length), 1 ≤ l[j] ∧ l[j] ≤ n ∧ (j = 0 ∨ l[j - 1]?.getD 0 < l[j]) := fun j hj => by
    have := h j (List.mem_range.2 hj)
    unfold joinAt at this
    rw [List.getElem?_eq_getElem hj] at this
    simp only [Option.getD_some, decide_eq_true_eq] at this
    omega
  have hp : l.Pairwise (· < ·) := by
    rw [List.pairwise_iff_getElem]
    intro i j hi hj hij
    induction j with
    | zero => omega
    | succ j ih =>
      have h1 := (hat (j + 1) hj).2.2
      rw [Nat.add_sub_cancel, List.getElem?_eq_getElem (show j < l.length by omega)] at h1
      simp only [Option.getD_some] at h1
      by_cases e : i = j
      · subst e; omega
      · have := ih (by omega) (by omega); omega
  have hr : ∀ x ∈ l, 1 ≤ x ∧ x ≤ n := fun x hx => by
    obtain ⟨j, hj, rfl⟩ := List.mem_iff_getElem.1 hx
    have := hat j hj
    exact ⟨this.1, this.2.1⟩
  refine ⟨hp, hr, ?_⟩
  have := nodup_sub_len l (nums n) (by rw [List.nodup_iff_pairwise_ne]; exact hp.imp fun h => by omega) fun x hx => nums_mem.2 (hr x hx)
  rwa [nums_length] at this
theorem occ_iso {p q l : List Int} (hp : permB p = true) (hq : permB q = true) (h : l ∈ occL p q) : isoB p q l = true := by
  rw [occ_eq hp hq] at h
  obtain ⟨h1, h2⟩ := List.mem_filter.1 h
  obtain ⟨_, h3, h4⟩ := ascI_iff.1 h1
  unfold isoB
  rw [hp, hq, inc_join h3 h4, h2]; rfl
theorem inc_ext {l k : List Int} (hl : l.Pairwise (· < ·)) (hk : k.Pairwise (· < ·)) (h : ∀ x, x ∈ l ↔ x ∈ k) : l = k := by
  induction l generalizing k with
  | nil =>
    cases k with
    | nil => rfl
    | cons b u => have := (h b).2 (by simp); cases this
  | cons a t ih =>
    cases k with
    | nil => have := (h a).1 (by simp); cases this
    | cons b u =>
      rw [List.pairwise_cons] at hl hk
      have hab : a = b := by
        rcases List.mem_cons.1 ((h a).1 (by simp)) with e | e
        · exact e
        · rcases List.mem_cons.1 ((h b).2 (by simp)) with e2 | e2
          · exact e2.symm
          · have := hk.1 a e
            have := hl.1 b e2
            omega
      subst hab
      rw [ih hl.2 hk.2 fun x => ?_]
      constructor
      · intro hx
        rcases List.mem_cons.1 ((h x).1 (by simp [hx])) with e | e
        · subst e; have := hl.1 x hx; omega
        · exact e
      · intro hx
        rcases List.mem_cons.1 ((h x).2 (by simp [hx])) with e | e
        · subst e; have := hk.1 x hx; omega
        · exact e
/-- The places whose bits are set. -/
def bitsL (n s : Nat) : List Int := ((List.range n).filter fun i => s.testBit i).map fun i : Nat => (i : Int) + 1
theorem bitsL_succ (n s : Nat) : bitsL (n + 1) s = bitsL n s ++ (if s.testBit n = true then [(n : Int) + 1] else []) := by
  unfold bitsL
  rw [List.range_succ, List.filter_append, List.map_append]
  by_cases h : s.testBit n = true <;> simp [h]
theorem bitsL_mem {n s : Nat} {x : Int} : x ∈ bitsL n s ↔ 1 ≤ x ∧ x ≤ n ∧ s.testBit (x - 1).toNat = true := by
  unfold bitsL
  rw [List.mem_map]
  constructor
  · rintro ⟨i, hi, rfl⟩
    obtain ⟨h1, h2⟩ := List.mem_filter.1 hi
    have := List.mem_range.1 h1
    refine ⟨by omega, by omega, ?_⟩
    rw [show ((i : Int) + 1 - 1).toNat = i by omega]; exact h2
  · rintro ⟨h1, h2, h3⟩
    exact ⟨(x - 1).toNat, List.mem_filter.2 ⟨List.mem_range.2 (by omega), h3⟩, by omega⟩
theorem bitsL_inc (n s : Nat) : (bitsL n s).Pairwise (· < ·) := by
  unfold bitsL
  rw [List.pairwise_map]
  exact (List.pairwise_lt_range.sublist List.filter_sublist).imp fun h => by omega
theorem bitsL_asc (n s : Nat) : bitsL n s ∈ ascI n (bitsL n s).length := ascI_iff.2 ⟨rfl, bitsL_inc n s, fun _ hx => ⟨(bitsL_mem.1 hx).1, (bitsL_mem.1 hx).2.1⟩⟩
theorem bits_ex (f : Nat → Bool) : ∀ n : Nat, ∃ s, s < 2 ^ n ∧ ∀ i, i < n → s.testBit i = f i := by
  intro n
  induction n with
  | zero => exact ⟨0, by simp, fun i hi => by omega⟩
  | succ n ih =>
    obtain ⟨s, hs, h⟩ := ih
    by_cases hf : f n = true
    · refine ⟨2 ^ n + s, by rw [Nat.pow_succ]; omega, fun i hi => ?_⟩
      rcases Nat.lt_or_ge i n with hlt | hge
      · rw [Nat.testBit_two_pow_add_gt hlt]; exact h i hlt
      · obtain rfl : i = n := by omega
        rw [Nat.testBit_two_pow_add_eq, Nat.testBit_lt_two_pow hs, hf]; rfl
    · refine ⟨s, by rw [Nat.pow_succ]; omega, fun i hi => ?_⟩
      rcases Nat.lt_or_ge i n with hlt | hge
      · exact h i hlt
      · obtain rfl : i = n := by omega
        rw [Nat.testBit_lt_two_pow hs]
        simpa using hf
theorem asc_bits {n k : Nat} {l : List Int} (h : l ∈ ascI n k) : ∃ s, s < 2 ^ n ∧ bitsL n s = l := by
  obtain ⟨h1, h2, h3⟩ := ascI_iff.1 h
  obtain ⟨s, hs, hb⟩ := bits_ex (fun i => decide (((i : Int) + 1) ∈ l)) n
  refine ⟨s, hs, inc_ext (bitsL_inc n s) h2 fun x => ?_⟩
  rw [bitsL_mem]
  constructor
  · rintro ⟨a, b, c⟩
    rw [hb _ (by omega), decide_eq_true_eq, show (((x - 1).toNat : Int) + 1) = x by omega] at c
    exact c
  · intro hx
    have := h3 x hx
    refine ⟨this.1, this.2, ?_⟩
    rw [hb _ (by omega), decide_eq_true_eq, show (((x - 1).toNat : Int) + 1) = x by omega]
    exact hx
/-- The patterns of k places. -/
def patsM (p : List Int) (k : Nat) : List (List Int) := (ascI p.length k).map fun l => patL (atL p l)
def patsL (p : List Int) (k : Nat) : List (List Int) := ordL (patsM p k)
/-- What the reference has put from the first s sets. -/
def patsTo (p : List Int) (k s : Nat) : List (List Int) := ordL (((List.range s).filter fun t => decide ((bitsL p.length t).length = k)).map fun t => patL (atL p (bitsL p.length t)))
theorem patsTo_succ (p : List Int) (k s : Nat) : patsTo p k (s + 1) = if (bitsL p.length s).length = k then putL (patsTo p k s) (patL (atL p (bitsL p.length s))) else patsTo p k s := by
  unfold patsTo
  rw [List.range_succ, List.filter_append, List.map_append]
  by_cases h : (bitsL p.length s).length = k
  · rw [if_pos h]
    simp [h, ordL]
  · rw [if_neg h]
    simp [h]
theorem patsTo_all (p : List Int) (k : Nat) : patsTo p k (2 ^ p.length) = patsL p k := by
  unfold patsTo patsL patsM
  refine ordL_congr fun q => ?_
  rw [List.mem_map, List.mem_map]
  constructor
  · rintro ⟨t, ht, rfl⟩
    obtain ⟨_, h2⟩ := List.mem_filter.1 ht
    have h2 := of_decide_eq_true h2
    exact ⟨_, by rw [← h2]; exact bitsL_asc _ _, rfl⟩
  · rintro ⟨l, hl, rfl⟩
    obtain ⟨s, hs, rfl⟩ := asc_bits hl
    exact ⟨s, List.mem_filter.2 ⟨List.mem_range.2 hs, decide_eq_true (ascI_iff.1 hl).1⟩, rfl⟩
theorem pats_has {p q : List Int} {k : Nat} (hp : permB p = true) (h : q ∈ patsL p k) : permB q = true ∧ hasB p q = true := by
  unfold patsL patsM at h
  rw [ordL_mem] at h
  obtain ⟨l, hl, rfl⟩ := List.mem_map.1 h
  have := pat_occ hp hl
  exact ⟨this.1, (has_iff hp this.1).2 ⟨l, this.2⟩⟩
end Go.Proofs.YtldknpjeegdbmaaGreat

/- Plain maths of FnTrees: numbers without 2413 and 3142 fall into two parts, one wholly below the other. -/
namespace Go.Proofs.YtldknpjeegdbmaaGreat
set_option maxRecDepth 100000

theorem least_of {P : Nat → Prop} (h : ∃ k, P k) : ∃ k, P k ∧ ∀ j, j < k → ¬ P j := by
  obtain ⟨k, hk⟩ := h
  induction k using Nat.strongRecOn with
  | _ k ih =>
    by_cases h : ∃ j, j < k ∧ P j
    · obtain ⟨j, hj, hp⟩ := h
      exact ih j hj hp
    · exact ⟨k, hk, fun j hj hp => h ⟨j, hj, hp⟩⟩
/-- The first k lie below all others. -/
def SumAt (f : Nat → Int) (n k : Nat) : Prop := 0 < k ∧ k < n ∧ ∀ i j, i < k → k ≤ j → j < n → f i < f j
def DiffOn (f : Nat → Int) (n : Nat) : Prop := ∀ i j, i < j → j < n → f i ≠ f j
def No3142 (f : Nat → Int) (n : Nat) : Prop := ∀ a b c d, a < b → b < c → c < d → d < n → ¬ (f b < f d ∧ f d < f a ∧ f a < f c)
def No2413 (f : Nat → Int) (n : Nat) : Prop := ∀ a b c d, a < b → b < c → c < d → d < n → ¬ (f c < f a ∧ f a < f d ∧ f d < f b)
theorem dec_step {f : Nat → Int} {n : Nat} (hd : DiffOn f (n + 1)) (h3 : No3142 f (n + 1)) (h : ∃ k, SumAt f n k) :
    (∃ k, SumAt f (n + 1) k) ∨ ∃ k, SumAt (fun i => - f i) (n + 1) k := by
  obtain ⟨k, ⟨k0, kn, hk⟩, hmin⟩ := least_of h
  by_cases h1 : ∀ i, i < k → f i < f n
  · refine .inl ⟨k, k0, by omega, fun i j hi hj hjn => ?_⟩
    rcases Nat.lt_or_ge j n with h | h
    · exact hk i j hi hj h
    · obtain rfl : j = n := by omega
      exact h1 i hi
  by_cases h2 : ∀ i, i < k → f n < f i
  · refine .inr ⟨n, by omega, by omega, fun i j hi hj hjn => ?_⟩
    obtain rfl : j = n := by omega
    show - f i < - f j
    rcases Nat.lt_or_ge i k with h | h
    · have := h2 i h; omega
    · have := h2 0 k0
      have := hk 0 i k0 h hi
      omega
  exfalso
  have e1 : ∃ i, i < k ∧ f n < f i := by
    apply Classical.byContradiction
    intro hn
    exact h1 fun i hi => by
      have := hd i n (by omega) (by omega)
      have : ¬ f n < f i := fun hh => hn ⟨i, hi, hh⟩
      omega
  have e2 : ∃ i, i < k ∧ f i < f n := by
    apply Classical.byContradiction
    intro hn
    exact h2 fun i hi => by
      have := hd i n (by omega) (by omega)
      have : ¬ f i < f n := fun hh => hn ⟨i, hi, hh⟩
      omega
  obtain ⟨j, ⟨hjk, hj⟩, hjm⟩ := least_of e1
  have hup : ∀ i, j ≤ i → i < k → f n < f i := by
    intro i hji hik
    apply Classical.byContradiction
    intro hh
    have hne : i ≠ j := fun e => hh (by rw [e]; exact hj)
    have := hd i n (by omega) (by omega)
    exact h3 j i k n (by omega) hik (by omega) (by omega) ⟨by omega, hj, hk j k hjk (Nat.le_refl _) kn⟩
  have hdn : ∀ i, i < j → f i < f n := by
    intro i hi
    have := hd i n (by omega) (by omega)
    have : ¬ f n < f i := fun hh => hjm i hi ⟨by omega, hh⟩
    omega
  obtain ⟨i2, hi2, hv2⟩ := e2
  have hj0 : 0 < j := by
    rcases Nat.lt_or_ge i2 j with h | h
    · omega
    · have := hup i2 h hi2; omega
  refine hmin j hjk ⟨hj0, by omega, fun i l hi hl hln => ?_⟩
  rcases Nat.lt_or_ge l k with h | h
  · have := hdn i hi; have := hup l hl h; omega
  · exact hk i l (by omega) h hln
theorem neg_neg_fun (f : Nat → Int) : (fun i => - (fun i => - f i) i) = f := by
  funext i
  show - - f i = f i
  omega
theorem dec_of (f : Nat → Int) : ∀ n, 2 ≤ n → DiffOn f n → No2413 f n → No3142 f n → (∃ k, SumAt f n k) ∨ ∃ k, SumAt (fun i => - f i) n k := by
  intro n
  induction n with
  | zero => intro h; omega
  | succ n ih =>
    intro hn hd h2 h3
    by_cases h : n = 1
    · subst h
      have := hd 0 1 (by omega) (by omega)
      by_cases h : f 0 < f 1
      · refine .inl ⟨1, by omega, by omega, fun i j hi hj hjn => ?_⟩
        obtain rfl : i = 0 := by omega
        obtain rfl : j = 1 := by omega
        exact h
      · refine .inr ⟨1, by omega, by omega, fun i j hi hj hjn => ?_⟩
        obtain rfl : i = 0 := by omega
        obtain rfl : j = 1 := by omega
        show - f 0 < - f 1
        omega
    · have hdn : DiffOn f n := fun i j hi hj => hd i j hi (by omega)
      rcases ih (by omega) hdn (fun a b c d h1 h2' h3' h4 => h2 a b c d h1 h2' h3' (by omega)) (fun a b c d h1 h2' h3' h4 => h3 a b c d h1 h2' h3' (by omega)) with hk | hk
      · exact dec_step hd h3 hk
      · have hs := dec_step (f := fun i => - f i) (fun i j hi hj => by have := hd i j hi hj; show - f i ≠ - f j; omega) (fun a b c d h1 h2' h3' h4 hh => h2 a b c d h1 h2' h3' h4 (by
          obtain ⟨x, y, z⟩ := hh
          have x : - f b < - f d := x
          have y : - f d < - f a := y
          have z : - f a < - f c := z
          exact ⟨by omega, by omega, by omega⟩)) hk
        rw [neg_neg_fun] at hs
        exact hs.symm
end Go.Proofs.YtldknpjeegdbmaaGreat

/- Plain maths of FnTrees: a permutation in blocks of values that follow one another; it is the inflation of the heads' pattern by the blocks' patterns. -/
namespace Go.Proofs.YtldknpjeegdbmaaGreat
set_option maxRecDepth 100000

theorem len_pos {α : Type} {l : List α} (h : l ≠ []) : 0 < l.length := List.length_pos_iff.2 h
theorem belowN_append (a b : List Int) (x : Int) : belowN (a ++ b) x = belowN a x + belowN b x := by unfold belowN; rw [List.filter_append, List.length_append]
theorem belowN_flat (L : List (List Int)) (x : Int) : belowN L.flatten x = (L.map fun a => belowN a x).sum := by
  induction L with
  | nil => rfl
  | cons a t ih => rw [List.flatten_cons, belowN_append, ih, List.map_cons, List.sum_cons]
/-- The values of b are those from m on. -/
def IvAt (b : List Int) (m : Int) : Prop := ∀ v, v ∈ b ↔ m ≤ v ∧ v < m + b.length
def fromL (m : Int) (k : Nat) : List Int := (List.range k).map fun i : Nat => m + (i : Int)
theorem fromL_mem {m : Int} {k : Nat} {v : Int} : v ∈ fromL m k ↔ m ≤ v ∧ v < m + k := by
  unfold fromL
  rw [List.mem_map]
  constructor
  · rintro ⟨i, hi, rfl⟩
    have := List.mem_range.1 hi
    omega
  · intro h
    exact ⟨(v - m).toNat, List.mem_range.2 (by omega), by omega⟩
theorem fromL_length (m : Int) (k : Nat) : (fromL m k).length = k := by simp [fromL]
theorem fromL_nodup (m : Int) (k : Nat) : (fromL m k).Nodup := by
  unfold fromL
  rw [List.nodup_iff_pairwise_ne, List.pairwise_map]
  exact List.pairwise_lt_range.imp fun {a b} h => by omega
theorem len_same {X Y : List Int} (hX : X.Nodup) (hY : Y.Nodup) (h : ∀ x, x ∈ X ↔ x ∈ Y) : X.length = Y.length :=
  Nat.le_antisymm (nodup_sub_len X Y hX fun x hx => (h x).1 hx) (nodup_sub_len Y X hY fun x hx => (h x).2 hx)
theorem below_iv {b : List Int} {m x : Int} (hn : b.Nodup) (h : IvAt b m) (hx : m ≤ x ∧ x ≤ m + b.length) : belowN b x = (x - m).toNat := by
  have := len_same (hn.filter fun y => decide (y < x)) (fromL_nodup m (x - m).toNat) fun v => by
    rw [List.mem_filter, fromL_mem, h v, decide_eq_true_eq]
    omega
  rw [fromL_length] at this
  exact this
theorem perm_iv {p : List Int} (hp : permB p = true) : IvAt p 1 := fun v => by
  obtain ⟨_, h2, h3⟩ := permB_true hp
  constructor
  · intro h; have := h2 v h; omega
  · intro h; exact perm_mem h3 h2 rfl v (by omega)
def headL (b : List Int) : Int := b[0]?.getD 0
theorem headL_mem {b : List Int} (h : b ≠ []) : headL b ∈ b := by
  cases b with
  | nil => exact absurd rfl h
  | cons a t => simp [headL]
structure Blks (p : List Int) (bs : List (List Int)) : Prop where
  flat : bs.flatten = p
  ne : ∀ b ∈ bs, b ≠ []
  iv : ∀ b ∈ bs, ∃ m, IvAt b m
theorem flat_disj {bs : List (List Int)} (hn : bs.flatten.Nodup) {a b : List Int} (ha : a ∈ bs) (hb : b ∈ bs) (hab : a ≠ b) : ∀ x ∈ a, x ∉ b := by
  induction bs with
  | nil => cases ha
  | cons c t ih =>
    rw [List.flatten_cons, List.nodup_append] at hn
    obtain ⟨_, h2, h3⟩ := hn
    intro x hx hxb
    rcases List.mem_cons.1 ha with rfl | ha2
    · rcases List.mem_cons.1 hb with rfl | hb2
      · exact hab rfl
      · exact h3 x hx x (List.mem_flatten.2 ⟨b, hb2, hxb⟩) rfl
    · rcases List.mem_cons.1 hb with rfl | hb2
      · exact h3 x hxb x (List.mem_flatten.2 ⟨a, ha2, hx⟩) rfl
      · exact ih h2 ha2 hb2 x hx hxb
theorem flat_nodup {bs : List (List Int)} (hn : bs.flatten.Nodup) {b : List Int} (hb : b ∈ bs) : b.Nodup := by
  induction bs with
  | nil => cases hb
  | cons c t ih =>
    rw [List.flatten_cons, List.nodup_append] at hn
    rcases List.mem_cons.1 hb with rfl | hb
    · exact hn.1
    · exact ih hn.2.1 hb
theorem blks_lt {p : List Int} {bs : List (List Int)} (h : Blks p bs) (hn : p.Nodup) {a b : List Int} (ha : a ∈ bs) (hb : b ∈ bs) (hlt : headL a < headL b) : ∀ x ∈ a, ∀ y ∈ b, x < y := by
  have hab : a ≠ b := fun e => by rw [e] at hlt; omega
  have hd := flat_disj (by rw [h.flat]; exact hn) ha hb hab
  obtain ⟨ma, hma⟩ := h.iv a ha
  obtain ⟨mb, hmb⟩ := h.iv b hb
  have ea := (hma _).1 (headL_mem (h.ne a ha))
  have eb := (hmb _).1 (headL_mem (h.ne b hb))
  intro x hx y hy
  have hx' := (hma x).1 hx
  have hy' := (hmb y).1 hy
  apply Classical.byContradiction
  intro hxy
  rcases Int.lt_or_le (ma + a.length) (mb + 1) with h1 | h1
  · omega
  · rcases Int.lt_or_le (mb + b.length) (ma + 1) with h2 | h2
    · omega
    · rcases Int.le_total ma mb with h3 | h3
      · exact hd mb ((hma mb).2 ⟨h3, by omega⟩) ((hmb mb).2 ⟨Int.le_refl _, by omega⟩)
      · exact hd ma ((hma ma).2 ⟨Int.le_refl _, by omega⟩) ((hmb ma).2 ⟨h3, by omega⟩)
theorem head_inj {p : List Int} {bs : List (List Int)} (h : Blks p bs) (hn : p.Nodup) {a b : List Int} (ha : a ∈ bs) (hb : b ∈ bs) (he : headL a = headL b) : a = b := by
  apply Classical.byContradiction
  intro hab
  exact flat_disj (by rw [h.flat]; exact hn) ha hb hab _ (headL_mem (h.ne a ha)) (by rw [he]; exact headL_mem (h.ne b hb))
/-- How many values lie below a block: the lengths of the blocks with less heads. -/
def baseL (bs : List (List Int)) (b : List Int) : Nat := (bs.map fun a => if headL a < headL b then a.length else 0).sum
theorem base_eq {p : List Int} {bs : List (List Int)} (h : Blks p bs) (hp : permB p = true) {b : List Int} (hb : b ∈ bs) {m : Int} (hm : IvAt b m) : (baseL bs b : Int) = m - 1 := by
  have hn := (permB_true hp).2.2
  have hbn := h.ne b hb
  have hl : 0 < b.length := len_pos hbn
  have hmb : m ∈ b := (hm m).2 (by omega)
  have hmp : m ∈ p := by rw [← h.flat]; exact List.mem_flatten.2 ⟨b, hb, hmb⟩
  have hr := (permB_true hp).2.1 m hmp
  have h1 := below_iv hn (perm_iv hp) (x := m) (by omega)
  have h2 : baseL bs b = belowN p m := by
    rw [← h.flat, belowN_flat]
    unfold baseL
    congr 1
    refine List.map_congr_left fun a ha => ?_
    have han := h.ne a ha
    by_cases hlt : headL a < headL b
    · rw [if_pos hlt]
      have := blks_lt h hn ha hb hlt
      unfold belowN
      rw [List.filter_eq_self.2 fun x hx => decide_eq_true (this x hx m hmb)]
    · rw [if_neg hlt]
      unfold belowN
      rw [List.filter_eq_nil_iff.2 fun x hx => ?_]
      · rfl
      · have : m ≤ x := by
          by_cases e : a = b
          · subst e; exact ((hm x).1 hx).1
          · have hne : headL a ≠ headL b := fun e' => e (head_inj h hn ha hb e')
            have := blks_lt h hn hb ha (by omega) m hmb x hx
            omega
        simpa using this
  rw [h2, h1]
  omega
theorem infl_block {p : List Int} {bs : List (List Int)} (h : Blks p bs) (hp : permB p = true) {b : List Int} (hb : b ∈ bs) : (patL b).map (fun x => (baseL bs b : Int) + x) = b := by
  obtain ⟨m, hm⟩ := h.iv b hb
  have hbn := flat_nodup (by rw [h.flat]; exact (permB_true hp).2.2) hb
  have hba := base_eq h hp hb hm
  unfold patL
  rw [List.map_map]
  conv => rhs; rw [← List.map_id b]
  refine List.map_congr_left fun x hx => ?_
  have hx' := (hm x).1 hx
  have := below_iv hbn hm (x := x) (by omega)
  simp only [Function.comp, id]
  rw [this, hba]
  omega
theorem infl_blocks {p : List Int} {bs : List (List Int)} (h : Blks p bs) (hp : permB p = true) : (bs.map fun b => (patL b).map fun x => (baseL bs b : Int) + x).flatten = p := by
  rw [List.map_congr_left fun b hb => infl_block h hp hb]
  rw [List.map_id']
  exact h.flat
/-- The heads' pattern. -/
def rootL (bs : List (List Int)) : List Int := patL (bs.map headL)
theorem rootL_length (bs : List (List Int)) : (rootL bs).length = bs.length := by unfold rootL; rw [patL_length, List.length_map]
theorem heads_nodup {p : List Int} {bs : List (List Int)} (h : Blks p bs) (hn : p.Nodup) : (bs.map headL).Nodup := by
  rw [List.nodup_iff_pairwise_ne, List.pairwise_map]
  have hd : bs.Pairwise fun a b => ∀ x ∈ a, ∀ y ∈ b, x ≠ y := by
    have hf : bs.flatten.Pairwise (· ≠ ·) := by rw [h.flat]; exact List.nodup_iff_pairwise_ne.1 hn
    exact (List.pairwise_flatten.1 hf).2
  refine hd.imp_of_mem fun {a b} ha hb hab => ?_
  exact hab _ (headL_mem (h.ne a ha)) _ (headL_mem (h.ne b hb))
theorem flat_len_le {bs : List (List Int)} (hne : ∀ b ∈ bs, b ≠ []) : bs.length ≤ bs.flatten.length := by
  induction bs with
  | nil => simp
  | cons a t ih =>
    have h1 := len_pos (hne a (by simp))
    have h2 := ih fun b hb => hne b (by simp [hb])
    rw [List.flatten_cons, List.length_append, List.length_cons]
    omega
theorem root_perm {p : List Int} {bs : List (List Int)} (h : Blks p bs) (hp : permB p = true) : permB (rootL bs) = true := by
  refine patL_permB (heads_nodup h (permB_true hp).2.2) ?_
  rw [List.length_map]
  have := flat_len_le h.ne
  rw [h.flat] at this
  have := (permB_true hp).1
  omega
theorem root_lt {bs : List (List Int)} {i j : Nat} (hi : i < bs.length) (hj : j < bs.length) : (rootL bs)[i]'(by rw [rootL_length]; exact hi) < (rootL bs)[j]'(by rw [rootL_length]; exact hj) ↔ headL bs[i] < headL bs[j] := by
  have := patL_lt (L := bs.map headL) (i := i) (j := j) (by rw [List.length_map]; exact hi) (by rw [List.length_map]; exact hj)
  rw [List.getElem_map, List.getElem_map] at this
  exact this
theorem part_perm {p : List Int} {bs : List (List Int)} (h : Blks p bs) (hp : permB p = true) {b : List Int} (hb : b ∈ bs) : permB (patL b) = true := by
  refine patL_permB (flat_nodup (by rw [h.flat]; exact (permB_true hp).2.2) hb) ?_
  have h1 : b.length ≤ bs.flatten.length := by
    clear h
    induction bs with
    | nil => cases hb
    | cons c t ih =>
      rw [List.flatten_cons, List.length_append]
      rcases List.mem_cons.1 hb with rfl | hb
      · omega
      · have := ih hb; omega
  rw [h.flat] at h1
  have := (permB_true hp).1
  omega
end Go.Proofs.YtldknpjeegdbmaaGreat
