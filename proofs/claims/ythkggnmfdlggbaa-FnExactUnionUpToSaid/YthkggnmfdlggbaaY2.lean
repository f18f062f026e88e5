/- slices.SortFunc of a list of rows; ordered. -/
import Derived.Test.YthkggnmfdlggbaaY1
import Derived.Test.YthkggnmfdlggbaaH1
import Derived.Test.YthkggnmfdlggbaaShelfF
import Derived.Shelf.SlSortCmp.NoneTotal
import Derived.Lib.OwnBridge
namespace Go.Proofs.Ythkggnmfdlggbaa
set_option maxRecDepth 100000
open Go Go.RowKit

theorem before_ntrans {x y z : List Int} (h1 : before x y = false) (h2 : before y z = false) : before x z = false := by
  cases h : before x z with
  | false => rfl
  | true =>
    cases h3 : before y x with
    | true => rw [before_trans h3 h] at h2; cases h2
    | false =>
      have e := before_total h1 h3
      subst e
      rw [h] at h2; cases h2
theorem permIn_list {α : Type} [Inhabited α] {d d' : Array α} (h : Sort.PermIn 0 d.size d d') : d'.toList.Perm d.toList := by
  have h1 := h.2.2
  have e1 : d'.extract 0 d.size = d' := by rw [← h.1]; exact Array.extract_size
  have e2 : d.extract 0 d.size = d := Array.extract_size
  rw [e1, e2] at h1
  exact h1
theorem sortedIn_list {α : Type} [Inhabited α] {lt : α → α → Bool} {d : Array α} {n : Nat} (hn : d.size = n) (h : Sort.SortedIn lt 0 n d) : d.toList.Pairwise fun x y => lt y x = false := by
  rw [List.pairwise_iff_getElem]
  intro i j hi hj hij
  rw [Array.length_toList] at hi hj
  have := h i j (Nat.zero_le _) hij (by omega)
  rw [getElem!_pos d j hj, getElem!_pos d i hi] at this
  simpa using this
/-- The row's cells in a world that the sort passes through. -/
theorem rd_sortWorld {α : Type} [Inhabited α] {enc : α → Value} {w : World} {blk m : Nat} {dk : Array α} {os : Array Obj} {A : Option Addr} {xs : List Int} (h : Rd (Value.int .i64) w w.heap.size A xs) (hne : ∀ b off, A = some ⟨b, off, none⟩ → 0 < xs.length → b ≠ blk) :
    Rd (Value.int .i64) (sortWorld enc w blk 0 m dk os) (sortWorld enc w blk 0 m dk os).heap.size A xs := fun h0 => by
  obtain ⟨b, off, rfl, hb, hc⟩ := h h0
  have hn := hne b off rfl h0
  have hs : (Sort.putRow enc (Sort.ahead w m) blk 0 dk).heap.size = w.heap.size := by simp [Sort.putRow, Sort.mapBlock, Sort.ahead]
  refine ⟨b, off, rfl, ?_, fun j hj => ?_⟩
  · show b < (Sort.grow (Sort.putRow enc (Sort.ahead w m) blk 0 dk) os).heap.size
    simp only [Sort.grow, Array.size_append, hs]
    omega
  · have h1 : (Sort.putRow enc (Sort.ahead w m) blk 0 dk).cell? ⟨b, off + j, none⟩ = some (.int .i64 xs[j]) :=
      (Sort.cell?_putRow_other enc (Sort.ahead w m) blk 0 dk ⟨b, off + j, none⟩ (Or.inl hn)).trans (hc j hj)
    exact cell_grown (show b < _ by rw [hs]; exact hb) h1 0 os
theorem sort_none (p : Option Addr) (c : Nat) (fv : Value) (w : World) : Calls Try.prog 54 #[.slice p 0 c, fv] w fun e w' => e = .returned (.tuple #[]) ∧ w' = w :=
  AnyF.slices_SortFunc_none { Try.sortF with } p c fv w
theorem grow_below (W : World) (os : Array Obj) : Below W.heap.size W (Sort.grow W os) := ⟨rfl, rfl, rfl, by simp [Sort.grow], fun k hk => by simp [Sort.grow, Array.getElem?_append, hk]⟩
theorem putRow_grown {α : Type} [Inhabited α] (enc : α → Value) (w : World) (q g : Nat) (d : Array α) : w.grownBy (Sort.putRow enc (Sort.ahead w q) g 0 d) (some g) :=
  ⟨rfl, rfl, rfl, by simp [Sort.putRow, Sort.mapBlock, Sort.ahead], fun k _ hne => by
    have hk : g ≠ k := fun e => hne (by rw [e])
    simp [Sort.putRow, Sort.mapBlock, Sort.ahead, Array.getElem?_modify, hk]⟩
set_option maxHeartbeats 1000000 in
theorem sort_any (A : Option Addr) (c lo : Nat) (rs : List Row) (w : World) (F : Nat) (cf : List Int → List Int → Int) (hO : Own w lo w.heap.size rs [⟨A, c, rs.map Row.v⟩]) (hn : rs.length ≤ 1048576)
    (hF : ∀ args w, (callFunc F args).run Try.prog w = .ok (.enter F args) w)
    (hcf : ∀ x ∈ rs, ∀ y ∈ rs, decide (cf x.xs y.xs < 0) = before x.xs y.xs)
    (hcmp : ∀ (W : World) (x y : Row), x ∈ rs → y ∈ rs → Rd (Value.int .i64) W W.heap.size x.A x.xs → Rd (Value.int .i64) W W.heap.size y.A y.xs → Calls Try.prog F #[x.v, y.v] W fun e w' => e = .returned (.int .i64 (cf x.xs y.xs)) ∧ ∃ q os', w' = Sort.grow (W.drewN q) os') :
    Calls Try.prog 54 #[.slice A rs.length c, .func (.func F) #[] #[]] w fun e w' => e = .returned (.tuple #[]) ∧ ∃ rs' : List Row, rs'.Perm rs ∧ (rs'.map Row.xs).Pairwise (fun x y => before y x = false) ∧ Own w' lo w'.heap.size rs' [⟨A, c, rs'.map Row.v⟩] ∧ w.grownBy w' (Value.slice A 0 0).ownBlock := by
  rcases Nat.eq_zero_or_pos rs.length with h0 | h0
  · have hr : rs = [] := List.eq_nil_of_length_eq_zero h0
    subst hr
    refine (sort_none A c _ w).mono ?_
    rintro e w' ⟨rfl, rfl⟩
    exact ⟨rfl, [], List.Perm.refl _, List.Pairwise.nil, hO, World.grownBy.refl _ _⟩
  obtain ⟨g, hgA, hglo, hglt⟩ : ∃ g, A = some ⟨g, 0, none⟩ ∧ lo ≤ g ∧ g < w.heap.size := by
    obtain ⟨g, cap, hv, h1, h3⟩ := hO.out.form (by rw [List.length_map]; omega)
    injection hv with hv _ _
    exact ⟨g, hv, h1, h3⟩
  subst hgA
  let α := {r : Row // r ∈ rs}
  haveI : Inhabited α := ⟨⟨rs[0], List.getElem_mem h0⟩⟩
  let enc : α → Value := fun r => r.1.v
  have hz : (rs.attach : List α).map enc = rs.map Row.v := by
    show rs.attach.map (fun r => Row.v r.1) = _
    rw [show (fun r : {r : Row // r ∈ rs} => Row.v r.1) = Row.v ∘ Subtype.val from rfl, ← List.map_map, List.attach_map_subtype_val]
  have hown : w.ownsRow lo 22 1 (.slice (some ⟨g, 0, none⟩) rs.length c) rs.length ((rs.attach : List α).map enc) := by
    rw [hz]; exact hO.outN (by simp)
  obtain ⟨g', cap', hv', _, _, _, _, _, hH⟩ := Lib.holds_of_ownsRow hown (by simp)
  injection hv' with hv1 _ _
  injection hv1 with hv1
  injection hv1 with hv1 _ _
  subst hv1
  let cfa : α → α → Int := fun a b => cf a.1.xs b.1.xs
  have hlt : ∀ a b : α, ltOf cfa a b = before a.1.xs b.1.xs := fun a b => hcf a.1 a.2 b.1 b.2
  have hS : Sort.SWO (ltOf cfa) := ⟨fun x => by rw [hlt]; exact before_irrefl _, fun x y z h1 h2 => by rw [hlt] at *; exact before_trans h1 h2, fun x y z h1 h2 => by rw [hlt] at *; exact before_ntrans h1 h2⟩
  have hrd : ∀ (r : Row), r ∈ rs → ∀ (m : Nat) (os : Array Obj) (dk : Array α), Rd (Value.int .i64) (sortWorld enc w g 0 m dk os) (sortWorld enc w g 0 m dk os).heap.size r.A r.xs := fun r hr m os dk =>
    rd_sortWorld (hO.read.rd r hr) (fun b off he _ hbg => by
      subst hbg
      exact own_ne hO hr (List.mem_singleton.2 rfl) b (by show (Value.slice r.A _ _).ownBlock = _; rw [he]; rfl) rfl)
  have hC : CmpLays1 Try.prog F #[] enc cfa g 0 (rs.attach : List α).toArray.size w := fun m os dk _ x y =>
    hcmp (sortWorld enc w g 0 m dk os) x.1 y.1 x.2 y.2 (hrd x.1 x.2 m os dk) (hrd y.1 y.2 m os dk)
  have hsz : (rs.attach : List α).toArray.size = rs.length := by simp
  have h := Any.slices_SortFunc Try.sortF enc (fun _ => rfl) cfa hS F #[] g 0 c (rs.attach : List α).toArray w hF hC hH hglt (by rw [hsz]; omega)
  rw [hsz] at h
  refine Calls.mono h ?_
  rintro e w' ⟨rfl, d', n, os, hp, hs, rfl⟩
  have hd' : d'.size = rs.length := by
    have := hp.1
    rw [← hsz]; exact this
  have hp' : Sort.PermIn 0 (rs.attach : List α).toArray.size (rs.attach : List α).toArray d' := by rw [hsz]; exact hp
  have hpl := permIn_list hp'
  have hperm : (d'.toList.map Subtype.val).Perm rs := by
    have h1 := hpl.map Subtype.val
    have e : ((rs.attach : List α).toArray.toList).map Subtype.val = rs := by simp
    rwa [e] at h1
  have hsl := sortedIn_list hd' hs
  refine ⟨rfl, d'.toList.map Subtype.val, hperm, ?_, ?_, ?_⟩
  · rw [List.map_map, List.pairwise_map]
    exact hsl.imp fun {a b} hab => by rw [hlt] at hab; exact hab
  · have hg1 := putRow_grown enc w n g d'
    have hbg : Below (Sort.putRow enc (Sort.ahead w n) g 0 d').heap.size (Sort.putRow enc (Sort.ahead w n) g 0 d') (sortWorld enc w g 0 n d' os) := grow_below _ os
    have hrows := (Own.kept hO (Nat.le_refl _) (show (rs.map Row.v).length = rs.length by simp) (show w.grownBy _ (Value.slice (some ⟨g, 0, none⟩) rs.length c).ownBlock from hg1)).below hbg
    have hout := Lib.ownsRow_putRow (q := n) (k := rs.length) (ys := d'.toList) hown (by simpa using hd') (Nat.le_refl _)
    rw [List.take_of_length_le (by simp [hd'])] at hout
    have hout2 := own_below hout hbg
    have he : d'.toList.map enc = (d'.toList.map Subtype.val).map Row.v := by rw [List.map_map]; rfl
    refine ((hrows.perm hperm.symm).wider (Nat.le_refl _) hbg.size).with_ (A := some ⟨g, 0, none⟩) (c := c) ?_ (Nat.le_refl _)
    rw [← he, List.length_map, Array.length_toList, hd']
    exact hout2
  · exact grown_trans (putRow_grown enc w n g d') (below_grown (grow_below _ os))
theorem grow_alloc (w : World) (o : Obj) : w.alloc o = Sort.grow (w.drewN 0) #[o] := by
  show ({ w with heap := w.heap.push o } : World) = { w with heap := w.heap ++ #[o] }
  rw [Array.push_eq_append]
set_option maxHeartbeats 800000 in
theorem comparePerms_x (A A' : Option Addr) (c c' : Nat) (p q : List Int) (w : World) (hl : p.length ≤ 1048576) (hl' : q.length ≤ 1048576)
    (hx : Rd (Value.int .i64) w w.heap.size A p) (hy : Rd (Value.int .i64) w w.heap.size A' q) :
    Calls Try.prog 91 #[.slice A p.length c, .slice A' q.length c'] w fun e w' => e = .returned (.int .i64 (cmpP p q)) ∧ ∃ q os', w' = Sort.grow (w.drewN q) os' := by
  have HO := Lib.hid (cmpP_or p q)
  have HG := Lib.hid (grow_alloc w (Obj.cells #[.int .i64 (cmpI p.length q.length), .int .i64 (cmpL p q)] 3))
  have hnew : Rd (Value.int .i64) (w.alloc (Obj.cells #[.int .i64 (cmpI p.length q.length), .int .i64 (cmpL p q)] 3)) (w.alloc (Obj.cells #[.int .i64 (cmpI p.length q.length), .int .i64 (cmpL p q)] 3)).heap.size (some ⟨w.heap.size, 0, none⟩) [cmpI p.length q.length, cmpL p q] :=
    Rd.of_own (c := 2) (World.ownsRow_lit (base := w.heap.size) w #[.int .i64 (cmpI p.length q.length), .int .i64 (cmpL p q)] 2 (Nat.le_refl _) (by unfold maxLen; omega) rfl)
  go_enter Try.func91, Try.ntmps91
  go_wp2_with fail
  (with_reducible refine (compare_any (p.length : Int) (q.length : Int) w).mono ?_)
  rintro e w' ⟨rfl, rfl⟩
  go_wp2_with fail
  (with_reducible refine (compareS_any A A' c c' p.length q.length p q w rfl rfl (by omega) (by omega) hx hy).mono ?_)
  rintro e w' ⟨rfl, rfl⟩
  go_wp2_with fail
  (with_reducible refine (or_any (some ⟨w.heap.size, 0, none⟩) 2 2 [cmpI p.length q.length, cmpL p q] _ rfl (by omega) hnew).mono ?_)
  rintro e w' ⟨rfl, rfl⟩
  go_wp2_with fail
  go_ret
  exact ⟨ret_int HO.out, 0, _, HG.out⟩
theorem call_cmpP (args : Array Value) (w : World) : (callFunc 91 args).run Try.prog w = .ok (.enter 91 args) w := by kernel_rfl
set_option maxHeartbeats 2000000 in
theorem ordered_impl (A : Option Addr) (c : Nat) (rs : List Row) (w : World) (h : InL w A c rs) :
    Calls Try.prog 61 #[.slice A rs.length c] w (RetL w (ordL (rs.map Row.xs))) := by
  obtain ⟨j0, hj, hy0, hy1, hy2⟩ := info_parts infoL
  have hlen := h.len
  have hlit := Own.lit (lo := w.heap.size) w (Nat.le_refl _)
  have hb0 := (Below.refl w.heap.size w).alloc (Nat.le_refl _) (.cells #[] 22)
  go_enter Try.func61, Try.ntmps61
  go_wp2_with fail
  go_loopw [3, 9] (fun v i wr => ∃ (k : Nat) (A1 : Option Addr) (c1 : Nat) (ds : List Row), k ≤ rs.length ∧ i = .int .i64 k ∧ v = .slice A1 ds.length c1 ∧ Hid (ds.map Row.xs = (rs.map Row.xs).take k) ∧ Own wr w.heap.size wr.heap.size ds [⟨A1, c1, ds.map Row.v⟩] ∧ Below w.heap.size w wr) (fun _ i _ => rs.length - (intOf i).toNat)
  case atStart => exact ⟨0, _, _, [], Nat.zero_le _, rfl, rfl, Lib.hid rfl, hlit, hb0⟩
  case round =>
    clear hlit hb0
    obtain ⟨k, A1, c1, ds, hk, rfl, rfl, HX, hO, hb⟩ := hrel
    have hdl : ds.length = k := by have := congrArg List.length HX.out; simp at this; omega
    have hsz := hb.size
    rcases Nat.lt_or_ge k rs.length with hlt | hge
    · obtain ⟨b, off, rfl, _, hc⟩ := (h.next hb).read.at (by omega)
      have c1' := hc k hlt
      have hin := (h.next hb).row (List.getElem_mem hlt)
      have hrl := hin.len
      have HD := Lib.hid hdl
      have hkd : ds.length ≤ 1048576 := by omega
      have HT := Lib.hid (show (rs.map Row.xs).take (k + 1) = (rs.map Row.xs).take k ++ [rs[k].xs] by rw [List.take_succ_eq_append_getElem (by simpa using hlt)]; simp)
      clear hc hdl
      go_wp2_with fail
      (with_reducible refine (clone_any rs[k].A rs[k].c rs[k].xs wr hin).mono ?_)
      rintro e w1 ⟨A3, c3, rfl, _, _, own3, hbB⟩
      have hszB := hbB.size
      have hO2 := (hO.below hbB).add (r := ⟨A3, c3, rs[k].xs⟩) own3 hszB hsz
      have ho2 := hO2.outN (n := ds.length) (by simp)
      clear own3 hO
      go_wp2_with (at_builtin; refine wpList_append_own _ rfl _ _ 33 rfl (w.heap.size) 22 j0 (.slice none 0 0) 1 24 Try.underlying33 hj hy0 hy1 hy2 rfl (by decide) _ _ _ rfl (World.ownsRow.alloc ho2 _) ⟨w1.heap.size, 0, none⟩ 1 1 [Value.slice A3 rs[k].xs.length c3] rfl rfl (cell_one_at _ _ (by simp)) (by intro u hu; simp at hu; subst hu; rfl) (by unfold maxLen; omega) (by omega) (by simp; omega) ?_; intro v9 w9 hown9 hgrow9 _)
      obtain ⟨A5, c5, rfl, hO3, hg3⟩ := hO2.grow (Nat.le_refl _) (by simp) hown9 hgrow9
      have hbw := (hb.trans (hbB.mono hsz)).grown hg3 (by omega) (fun g hg => (hO2.olim (by simp) g hg).1)
      have K := Lib.hid (And.intro hO3 hbw)
      clear hO3 hbw hown9 hgrow9 hg3 hO2 ho2 hbB hb
      go_wp2_with fail
      go_roundw
      case rel => exact ⟨k + 1, A5, c5, ds ++ [⟨A3, c3, rs[k].xs⟩], by omega, by go_num, by rw [List.length_append]; rfl, Lib.hid (by rw [HT.out, List.map_append, HX.out]; rfl), by simpa [Row.v] using K.out.1, K.out.2⟩
      case measure => simp [intOf]; omega
    · obtain rfl : k = rs.length := by omega
      have HT := Lib.hid (show ds.map Row.xs = rs.map Row.xs by rw [HX.out]; exact List.take_of_length_le (by simp))
      have hr8 : ∀ r ∈ ds, r.xs.length ≤ 1048576 := fun r hr => by
        have h1 := map_memX HT.out hr
        obtain ⟨q, hq, he⟩ := List.mem_map.1 h1
        have h2 := sizeR_mem hq
        rw [← he]; omega
      have hS := sort_any A1 c1 w.heap.size ds wr 91 cmpP (hO.wider (Nat.le_refl _) (Nat.le_refl _)) (by omega) (fun args w => call_cmpP args w) (fun x _ y _ => (before_cmp x.xs y.xs).symm) (fun W x y hx hy h1 h2 => comparePerms_x x.A y.A x.c y.c x.xs y.xs W (hr8 x hx) (hr8 y hy) h1 h2)
      have HS := Lib.hid hS
      have hdl2 : ds.length ≤ 1048576 := by omega
      have HR8 := Lib.hid hr8
      have hA1 := hO.olim (n := ds.length) (by simp)
      clear hS hr8 hO hdl HX
      go_wp2_with fail
      (with_reducible refine HS.out.mono ?_)
      rintro e w1 ⟨rfl, ss, hperm, hsorted, hO1, hg1⟩
      have hsl : ss.length = ds.length := hperm.length_eq
      have HE := Lib.hid (show compL (ss.map Row.xs) = ordL (rs.map Row.xs) from comp_ord hsorted (fun q => by rw [← HT.out, List.mem_map, List.mem_map]; constructor <;> rintro ⟨r, hr, he⟩; exact ⟨r, hperm.mem_iff.1 hr, he⟩; exact ⟨r, hperm.mem_iff.2 hr, he⟩))
      have hC := compact_any A1 c1 w.heap.size ss w1 hO1 (by omega) (fun r hr => HR8.out r (hperm.mem_iff.1 hr))
      rw [hsl] at hC
      have HC := Lib.hid hC
      have hb1 := hb.grown hg1 hsz (fun g hg => (hA1 g (by rw [← hg]; exact ownBlock_len _ _ _ _ _)).1)
      have HG1 := Lib.hid hA1
      have hs1 := hb1.size
      clear hC hperm hsorted hO1 hg1 hsl hA1 HS
      go_wp2_with fail
      (with_reducible refine HC.out.mono ?_)
      rintro e w2 ⟨A4, c4, qs, rfl, hX4, hO4, hg4⟩
      have hb2 := hb1.grown hg4 hs1 (fun g hg => (HG1.out g (by rw [← hg]; exact ownBlock_len _ _ _ _ _)).1)
      go_wp2_with fail
      go_ret
      exact ⟨A4, c4, qs, rfl, by rw [hX4, HE.out], hO4, hb2⟩
end Go.Proofs.Ythkggnmfdlggbaa
