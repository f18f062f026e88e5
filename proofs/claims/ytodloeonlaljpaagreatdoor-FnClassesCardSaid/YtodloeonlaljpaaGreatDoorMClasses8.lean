/- Several texts in one, each with its own head: Y2, Y3, Y4, OC2, OC4, Y5, V6, U1. No program of ours. -/
import Derived.Test.YtodloeonlaljpaaGreatDoorShelfF
import Derived.Shelf.SlSortCmp.NoneTotal
import Derived.Lib.OwnBridge
import Derived.Test.YtodloeonlaljpaaGreatDoorMClasses7
/- slices.SortFunc of a list of rows; ordered. -/
namespace Go.Proofs.YtodloeonlaljpaaGreatDoor
set_option maxRecDepth 100000
open Go Go.RowKit

theorem before_ntrans {x y z : List Int} (h1 : before x y = false) (h2 : before y z = false) : before x z = false := by
  cases h : before x z with
  | false => rfl
  | true =>
    cases h3 : before y x with
    | true => rw [before_trans h3 h] at h2; cases h2
    | false =>
      have e := before_total h1 h3
      subst e
      rw [h] at h2; cases h2
theorem permIn_list {α : Type} [Inhabited α] {d d' : Array α} (h : Sort.PermIn 0 d.size d d') : d'.toList.Perm d.toList := by
  have h1 := h.2.2
  have e1 : d'.extract 0 d.size = d' := by rw [← h.1]; exact Array.extract_size
  have e2 : d.extract 0 d.size = d := Array.extract_size
  rw [e1, e2] at h1
  exact h1
theorem sortedIn_list {α : Type} [Inhabited α] {lt : α → α → Bool} {d : Array α} {n : Nat} (hn : d.size = n) (h : Sort.SortedIn lt 0 n d) : d.toList.Pairwise fun x y => lt y x = false := by
  rw [List.pairwise_iff_getElem]
  intro i j hi hj hij
  rw [Array.length_toList] at hi hj
  have := h i j (Nat.zero_le _) hij (by omega)
  rw [getElem!_pos d j hj, getElem!_pos d i hi] at this
  simpa using this
/-- The row's cells in a world that the sort passes through. -/
theorem rd_sortWorld {α : Type} [Inhabited α] {enc : α → Value} {w : World} {blk m : Nat} {dk : Array α} {os : Array Obj} {A : Option Addr} {xs : List Int} (h : Rd (Value.int .i64) w w.heap.size A xs) (hne : ∀ b off, A = some ⟨b, off, none⟩ → 0 < xs.length → b ≠ blk) :
    Rd (Value.int .i64) (sortWorld enc w blk 0 m dk os) (sortWorld enc w blk 0 m dk os).heap.size A xs := fun h0 => by
  obtain ⟨b, off, rfl, hb, hc⟩ := h h0
  have hn := hne b off rfl h0
  have hs : (Sort.putRow enc (Sort.ahead w m) blk 0 dk).heap.size = w.heap.size := by simp [Sort.putRow, Sort.mapBlock, Sort.ahead]
  refine ⟨b, off, rfl, ?_, fun j hj => ?_⟩
  · show b < (Sort.grow (Sort.putRow enc (Sort.ahead w m) blk 0 dk) os).heap.size
    simp only [Sort.grow, Array.size_append, hs]
    omega
  · have h1 : (Sort.putRow enc (Sort.ahead w m) blk 0 dk).cell? ⟨b, off + j, none⟩ = some (.int .i64 xs[j]) :=
      (Sort.cell?_putRow_other enc (Sort.ahead w m) blk 0 dk ⟨b, off + j, none⟩ (Or.inl hn)).trans (hc j hj)
    exact cell_grown (show b < _ by rw [hs]; exact hb) h1 0 os
theorem grow_below (W : World) (os : Array Obj) : Below W.heap.size W (Sort.grow W os) := ⟨rfl, rfl, rfl, by simp [Sort.grow], fun k hk => by simp [Sort.grow, Array.getElem?_append, hk]⟩
theorem putRow_grown {α : Type} [Inhabited α] (enc : α → Value) (w : World) (q g : Nat) (d : Array α) : w.grownBy (Sort.putRow enc (Sort.ahead w q) g 0 d) (some g) :=
  ⟨rfl, rfl, rfl, by simp [Sort.putRow, Sort.mapBlock, Sort.ahead], fun k _ hne => by
    have hk : g ≠ k := fun e => hne (by rw [e])
    simp [Sort.putRow, Sort.mapBlock, Sort.ahead, Array.getElem?_modify, hk]⟩
theorem sort_none (p : Option Addr) (c : Nat) (fv : Value) (w : World) : Calls Tryz.prog 77 #[.slice p 0 c, fv] w fun e w' => e = .returned (.tuple #[]) ∧ w' = w :=
  AnyF.slices_SortFunc_none { Tryz.sortF with } p c fv w
set_option maxHeartbeats 1000000 in
theorem sort_any (A : Option Addr) (c lo : Nat) (rs : List Row) (w : World) (F : Nat) (cf : List Int → List Int → Int) (hO : Own w lo w.heap.size rs [⟨A, c, rs.map Row.v⟩]) (hn : rs.length ≤ 1048576)
    (hF : ∀ args w, (callFunc F args).run Tryz.prog w = .ok (.enter F args) w)
    (hcf : ∀ x ∈ rs, ∀ y ∈ rs, decide (cf x.xs y.xs < 0) = before x.xs y.xs)
    (hcmp : ∀ (W : World) (x y : Row), x ∈ rs → y ∈ rs → Rd (Value.int .i64) W W.heap.size x.A x.xs → Rd (Value.int .i64) W W.heap.size y.A y.xs → Calls Tryz.prog F #[x.v, y.v] W fun e w' => e = .returned (.int .i64 (cf x.xs y.xs)) ∧ ∃ q os', w' = Sort.grow (W.drewN q) os') :
    Calls Tryz.prog 77 #[.slice A rs.length c, .func (.func F) #[] #[]] w fun e w' => e = .returned (.tuple #[]) ∧ ∃ rs' : List Row, rs'.Perm rs ∧ (rs'.map Row.xs).Pairwise (fun x y => before y x = false) ∧ Own w' lo w'.heap.size rs' [⟨A, c, rs'.map Row.v⟩] ∧ w.grownBy w' (Value.slice A 0 0).ownBlock := by
  rcases Nat.eq_zero_or_pos rs.length with h0 | h0
  · have hr : rs = [] := List.eq_nil_of_length_eq_zero h0
    subst hr
    refine (sort_none A c _ w).mono ?_
    rintro e w' ⟨rfl, rfl⟩
    exact ⟨rfl, [], List.Perm.refl _, List.Pairwise.nil, hO, World.grownBy.refl _ _⟩
  obtain ⟨g, hgA, hglo, hglt⟩ : ∃ g, A = some ⟨g, 0, none⟩ ∧ lo ≤ g ∧ g < w.heap.size := by
    obtain ⟨g, cap, hv, h1, h3⟩ := hO.out.form (by rw [List.length_map]; omega)
    injection hv with hv _ _
    exact ⟨g, hv, h1, h3⟩
  subst hgA
  let α := {r : Row // r ∈ rs}
  haveI : Inhabited α := ⟨⟨rs[0], List.getElem_mem h0⟩⟩
  let enc : α → Value := fun r => r.1.v
  have hz : (rs.attach : List α).map enc = rs.map Row.v := by
    show rs.attach.map (fun r => Row.v r.1) = _
    rw [show (fun r : {r : Row // r ∈ rs} => Row.v r.1) = Row.v ∘ Subtype.val from rfl, ← List.map_map, List.attach_map_subtype_val]
  have hown : w.ownsRow lo 27 1 (.slice (some ⟨g, 0, none⟩) rs.length c) rs.length ((rs.attach : List α).map enc) := by
    rw [hz]; exact hO.outN (by simp)
  obtain ⟨g', cap', hv', _, _, _, _, _, hH⟩ := Lib.holds_of_ownsRow hown (by simp)
  injection hv' with hv1 _ _
  injection hv1 with hv1
  injection hv1 with hv1 _ _
  subst hv1
  let cfa : α → α → Int := fun a b => cf a.1.xs b.1.xs
  have hlt : ∀ a b : α, ltOf cfa a b = before a.1.xs b.1.xs := fun a b => hcf a.1 a.2 b.1 b.2
  have hS : Sort.SWO (ltOf cfa) := ⟨fun x => by rw [hlt]; exact before_irrefl _, fun x y z h1 h2 => by rw [hlt] at *; exact before_trans h1 h2, fun x y z h1 h2 => by rw [hlt] at *; exact before_ntrans h1 h2⟩
  have hrd : ∀ (r : Row), r ∈ rs → ∀ (m : Nat) (os : Array Obj) (dk : Array α), Rd (Value.int .i64) (sortWorld enc w g 0 m dk os) (sortWorld enc w g 0 m dk os).heap.size r.A r.xs := fun r hr m os dk =>
    rd_sortWorld (hO.read.rd r hr) (fun b off he _ hbg => by
      subst hbg
      exact own_ne hO hr (List.mem_singleton.2 rfl) b (by show (Value.slice r.A _ _).ownBlock = _; rw [he]; rfl) rfl)
  have hC : CmpLays1 Tryz.prog F #[] enc cfa g 0 (rs.attach : List α).toArray.size w := fun m os dk _ x y =>
    hcmp (sortWorld enc w g 0 m dk os) x.1 y.1 x.2 y.2 (hrd x.1 x.2 m os dk) (hrd y.1 y.2 m os dk)
  have hsz : (rs.attach : List α).toArray.size = rs.length := by simp
  have h := Any.slices_SortFunc Tryz.sortF enc (fun _ => rfl) cfa hS F #[] g 0 c (rs.attach : List α).toArray w hF hC hH hglt (by rw [hsz]; omega)
  rw [hsz] at h
  refine Calls.mono h ?_
  rintro e w' ⟨rfl, d', n, os, hp, hs, rfl⟩
  have hd' : d'.size = rs.length := by
    have := hp.1
    rw [← hsz]; exact this
  have hp' : Sort.PermIn 0 (rs.attach : List α).toArray.size (rs.attach : List α).toArray d' := by rw [hsz]; exact hp
  have hpl := permIn_list hp'
  have hperm : (d'.toList.map Subtype.val).Perm rs := by
    have h1 := hpl.map Subtype.val
    have e : ((rs.attach : List α).toArray.toList).map Subtype.val = rs := by simp
    rwa [e] at h1
  have hsl := sortedIn_list hd' hs
  refine ⟨rfl, d'.toList.map Subtype.val, hperm, ?_, ?_, ?_⟩
  · rw [List.map_map, List.pairwise_map]
    exact hsl.imp fun {a b} hab => by rw [hlt] at hab; exact hab
  · have hg1 := putRow_grown enc w n g d'
    have hbg : Below (Sort.putRow enc (Sort.ahead w n) g 0 d').heap.size (Sort.putRow enc (Sort.ahead w n) g 0 d') (sortWorld enc w g 0 n d' os) := grow_below _ os
    have hrows := (Own.kept hO (Nat.le_refl _) (show (rs.map Row.v).length = rs.length by simp) (show w.grownBy _ (Value.slice (some ⟨g, 0, none⟩) rs.length c).ownBlock from hg1)).below hbg
    have hout := Lib.ownsRow_putRow (q := n) (k := rs.length) (ys := d'.toList) hown (by simpa using hd') (Nat.le_refl _)
    rw [List.take_of_length_le (by simp [hd'])] at hout
    have hout2 := own_below hout hbg
    have he : d'.toList.map enc = (d'.toList.map Subtype.val).map Row.v := by rw [List.map_map]; rfl
    refine ((hrows.perm hperm.symm).wider (Nat.le_refl _) hbg.size).with_ (A := some ⟨g, 0, none⟩) (c := c) ?_ (Nat.le_refl _)
    rw [← he, List.length_map, Array.length_toList, hd']
    exact hout2
  · exact grown_trans (putRow_grown enc w n g d') (below_grown (grow_below _ os))
theorem grow_alloc (w : World) (o : Obj) : w.alloc o = Sort.grow (w.drewN 0) #[o] := by
  show ({ w with heap := w.heap.push o } : World) = { w with heap := w.heap ++ #[o] }
  rw [Array.push_eq_append]
set_option maxHeartbeats 800000 in
theorem comparePerms_x (A A' : Option Addr) (c c' : Nat) (p q : List Int) (w : World) (hl : p.length ≤ 1048576) (hl' : q.length ≤ 1048576)
    (hx : Rd (Value.int .i64) w w.heap.size A p) (hy : Rd (Value.int .i64) w w.heap.size A' q) :
    Calls Tryz.prog 61 #[.slice A p.length c, .slice A' q.length c'] w fun e w' => e = .returned (.int .i64 (cmpP p q)) ∧ ∃ q os', w' = Sort.grow (w.drewN q) os' := by
  have HO := Lib.hid (cmpP_or p q)
  have HG := Lib.hid (grow_alloc w (Obj.cells #[.int .i64 (cmpI p.length q.length), .int .i64 (cmpL p q)] 3))
  have hnew : Rd (Value.int .i64) (w.alloc (Obj.cells #[.int .i64 (cmpI p.length q.length), .int .i64 (cmpL p q)] 3)) (w.alloc (Obj.cells #[.int .i64 (cmpI p.length q.length), .int .i64 (cmpL p q)] 3)).heap.size (some ⟨w.heap.size, 0, none⟩) [cmpI p.length q.length, cmpL p q] :=
    Rd.of_own (c := 2) (World.ownsRow_lit (base := w.heap.size) w #[.int .i64 (cmpI p.length q.length), .int .i64 (cmpL p q)] 2 (Nat.le_refl _) (by unfold maxLen; omega) rfl)
  go_enter Tryz.func61, Tryz.ntmps61
  go_wp2_with fail
  (with_reducible refine (compare_any (p.length : Int) (q.length : Int) w).mono ?_)
  rintro e w' ⟨rfl, rfl⟩
  go_wp2_with fail
  (with_reducible refine (compareS_any A A' c c' p.length q.length p q w rfl rfl (by omega) (by omega) hx hy).mono ?_)
  rintro e w' ⟨rfl, rfl⟩
  go_wp2_with fail
  (with_reducible refine (or_any (some ⟨w.heap.size, 0, none⟩) 2 2 [cmpI p.length q.length, cmpL p q] _ rfl (by omega) hnew).mono ?_)
  rintro e w' ⟨rfl, rfl⟩
  go_wp2_with fail
  go_ret
  exact ⟨ret_int HO.out, 0, _, HG.out⟩
theorem call_cmpP (args : Array Value) (w : World) : (callFunc 61 args).run Tryz.prog w = .ok (.enter 61 args) w := by kernel_rfl
set_option maxHeartbeats 2000000 in
theorem ordered_impl (A : Option Addr) (c : Nat) (rs : List Row) (w : World) (h : InL w A c rs) :
    Calls Tryz.prog 40 #[.slice A rs.length c] w (RetL w (ordL (rs.map Row.xs))) := by
  obtain ⟨j0, hj, hy0, hy1, hy2⟩ := info_parts infoL
  have hlen := h.len
  have hlit := Own.lit (lo := w.heap.size) w (Nat.le_refl _)
  have hb0 := (Below.refl w.heap.size w).alloc (Nat.le_refl _) (.cells #[] 27)
  go_enter Tryz.func40, Tryz.ntmps40
  go_wp2_with fail
  go_loopw [3, 9] (fun v i wr => ∃ (k : Nat) (A1 : Option Addr) (c1 : Nat) (ds : List Row), k ≤ rs.length ∧ i = .int .i64 k ∧ v = .slice A1 ds.length c1 ∧ Hid (ds.map Row.xs = (rs.map Row.xs).take k) ∧ Own wr w.heap.size wr.heap.size ds [⟨A1, c1, ds.map Row.v⟩] ∧ Below w.heap.size w wr) (fun _ i _ => rs.length - (intOf i).toNat)
  case atStart => exact ⟨0, _, _, [], Nat.zero_le _, rfl, rfl, Lib.hid rfl, hlit, hb0⟩
  case round =>
    clear hlit hb0
    obtain ⟨k, A1, c1, ds, hk, rfl, rfl, HX, hO, hb⟩ := hrel
    have hdl : ds.length = k := by have := congrArg List.length HX.out; simp at this; omega
    have hsz := hb.size
    rcases Nat.lt_or_ge k rs.length with hlt | hge
    · obtain ⟨b, off, rfl, _, hc⟩ := (h.next hb).read.at (by omega)
      have c1' := hc k hlt
      have hin := (h.next hb).row (List.getElem_mem hlt)
      have hrl := hin.len
      have HD := Lib.hid hdl
      have hkd : ds.length ≤ 1048576 := by omega
      have HT := Lib.hid (show (rs.map Row.xs).take (k + 1) = (rs.map Row.xs).take k ++ [rs[k].xs] by rw [List.take_succ_eq_append_getElem (by simpa using hlt)]; simp)
      clear hc hdl
      go_wp2_with fail
      (with_reducible refine (clone_any rs[k].A rs[k].c rs[k].xs wr hin).mono ?_)
      rintro e w1 ⟨A3, c3, rfl, _, _, own3, hbB⟩
      have hszB := hbB.size
      have hO2 := (hO.below hbB).add (r := ⟨A3, c3, rs[k].xs⟩) own3 hszB hsz
      have ho2 := hO2.outN (n := ds.length) (by simp)
      clear own3 hO
      go_wp2_with (at_builtin; refine wpList_append_own _ rfl _ _ 24 rfl (w.heap.size) 27 j0 (.slice none 0 0) 1 24 Tryz.underlying24 hj hy0 hy1 hy2 rfl (by decide) _ _ _ rfl (World.ownsRow.alloc ho2 _) ⟨w1.heap.size, 0, none⟩ 1 1 [Value.slice A3 rs[k].xs.length c3] rfl rfl (cell_one_at _ _ (by simp)) (by intro u hu; simp at hu; subst hu; rfl) (by unfold maxLen; omega) (by omega) (by simp; omega) ?_; intro v9 w9 hown9 hgrow9 _)
      obtain ⟨A5, c5, rfl, hO3, hg3⟩ := hO2.grow (Nat.le_refl _) (by simp) hown9 hgrow9
      have hbw := (hb.trans (hbB.mono hsz)).grown hg3 (by omega) (fun g hg => (hO2.olim (by simp) g hg).1)
      have K := Lib.hid (And.intro hO3 hbw)
      clear hO3 hbw hown9 hgrow9 hg3 hO2 ho2 hbB hb
      go_wp2_with fail
      go_roundw
      case rel => exact ⟨k + 1, A5, c5, ds ++ [⟨A3, c3, rs[k].xs⟩], by omega, by go_num, by rw [List.length_append]; rfl, Lib.hid (by rw [HT.out, List.map_append, HX.out]; rfl), by simpa [Row.v] using K.out.1, K.out.2⟩
      case measure => simp [intOf]; omega
    · obtain rfl : k = rs.length := by omega
      have HT := Lib.hid (show ds.map Row.xs = rs.map Row.xs by rw [HX.out]; exact List.take_of_length_le (by simp))
      have hr8 : ∀ r ∈ ds, r.xs.length ≤ 1048576 := fun r hr => by
        have h1 := map_memX HT.out hr
        obtain ⟨q, hq, he⟩ := List.mem_map.1 h1
        have h2 := sizeR_mem hq
        rw [← he]; omega
      have hS := sort_any A1 c1 w.heap.size ds wr 61 cmpP (hO.wider (Nat.le_refl _) (Nat.le_refl _)) (by omega) (fun args w => call_cmpP args w) (fun x _ y _ => (before_cmp x.xs y.xs).symm) (fun W x y hx hy h1 h2 => comparePerms_x x.A y.A x.c y.c x.xs y.xs W (hr8 x hx) (hr8 y hy) h1 h2)
      have HS := Lib.hid hS
      have hdl2 : ds.length ≤ 1048576 := by omega
      have HR8 := Lib.hid hr8
      have hA1 := hO.olim (n := ds.length) (by simp)
      clear hS hr8 hO hdl HX
      go_wp2_with fail
      (with_reducible refine HS.out.mono ?_)
      rintro e w1 ⟨rfl, ss, hperm, hsorted, hO1, hg1⟩
      have hsl : ss.length = ds.length := hperm.length_eq
      have HE := Lib.hid (show compL (ss.map Row.xs) = ordL (rs.map Row.xs) from comp_ord hsorted (fun q => by rw [← HT.out, List.mem_map, List.mem_map]; constructor <;> rintro ⟨r, hr, he⟩; exact ⟨r, hperm.mem_iff.1 hr, he⟩; exact ⟨r, hperm.mem_iff.2 hr, he⟩))
      have hC := compact_any A1 c1 w.heap.size ss w1 hO1 (by omega) (fun r hr => HR8.out r (hperm.mem_iff.1 hr))
      rw [hsl] at hC
      have HC := Lib.hid hC
      have hb1 := hb.grown hg1 hsz (fun g hg => (hA1 g (by rw [← hg]; exact ownBlock_len _ _ _ _ _)).1)
      have HG1 := Lib.hid hA1
      have hs1 := hb1.size
      clear hC hperm hsorted hO1 hg1 hsl hA1 HS
      go_wp2_with fail
      (with_reducible refine HC.out.mono ?_)
      rintro e w2 ⟨A4, c4, qs, rfl, hX4, hO4, hg4⟩
      have hb2 := hb1.grown hg4 hs1 (fun g hg => (HG1.out g (by rw [← hg]; exact ownBlock_len _ _ _ _ _)).1)
      go_wp2_with fail
      go_ret
      exact ⟨A4, c4, qs, rfl, by rw [hX4, HE.out], hO4, hb2⟩
end Go.Proofs.YtodloeonlaljpaaGreatDoor

/- OrderPerms of the reference; MakeBasis, program and reference. -/
namespace Go.Proofs.YtodloeonlaljpaaGreatDoor
set_option maxRecDepth 100000
open Go Go.RowKit

/-- A call's result of two: a list of rows of its own, and a truth value. -/
def RetLb (w : World) (X : List (List Int)) (b : Bool) (e : Ending) (w' : World) : Prop :=
  ∃ A c rs, e = .returned (.tuple #[.slice A rs.length c, .bool b]) ∧ rs.map Row.xs = X ∧ Own w' w.heap.size w'.heap.size rs [⟨A, c, rs.map Row.v⟩] ∧ Below w.heap.size w w'
/-- The lists in which none that was kept before occurs. -/
def sieve (L : List (List Int)) : List (List Int) := L.foldl (fun acc p => if avoidB acc p = true then acc ++ [p] else acc) []
theorem sieve_take (L : List (List Int)) (k : Nat) (h : k < L.length) : sieve (L.take (k + 1)) = if avoidB (sieve (L.take k)) L[k] = true then sieve (L.take k) ++ [L[k]] else sieve (L.take k) := by
  unfold sieve
  rw [List.take_succ_eq_append_getElem h, List.foldl_append]
  rfl
theorem sieve_fold (L acc : List (List Int)) : ∃ u, L.foldl (fun acc p => if avoidB acc p = true then acc ++ [p] else acc) acc = acc ++ u := by
  induction L generalizing acc with
  | nil => exact ⟨[], by simp⟩
  | cons a t ih =>
    rw [List.foldl_cons]
    by_cases h : avoidB acc a = true
    · rw [if_pos h]
      obtain ⟨u, hu⟩ := ih (acc ++ [a])
      exact ⟨a :: u, by rw [hu]; simp⟩
    · rw [if_neg h]
      exact ih acc
theorem sieve_sub (L : List (List Int)) : ∀ q ∈ sieve L, q ∈ L := by
  have : ∀ (L acc : List (List Int)), ∀ q ∈ L.foldl (fun acc p => if avoidB acc p = true then acc ++ [p] else acc) acc, q ∈ acc ∨ q ∈ L := by
    intro L
    induction L with
    | nil => intro acc q hq; exact .inl hq
    | cons a t ih =>
      intro acc q hq
      rw [List.foldl_cons] at hq
      rcases ih _ q hq with h | h
      · split at h
        · rcases List.mem_append.1 h with h | h
          · exact .inl h
          · rw [List.mem_singleton.1 h]; exact .inr (by simp)
        · exact .inl h
      · exact .inr (by simp [h])
  intro q hq
  rcases this L [] q hq with h | h
  · simp at h
  · exact h
def mkB (X : List (List Int)) : Bool := allPermB X && basisB (sieve (ordL X))
def mkG (X : List (List Int)) : List (List Int) := if mkB X = true then sieve (ordL X) else []
theorem mk_empty {X : List (List Int)} (h : [] ∈ X) : basisB (sieve (ordL X)) = false := by
  have h1 := (ordL_mem X []).2 h
  have hs := ordL_srt X
  match hO : ordL X with
  | [] => rw [hO] at h1; simp at h1
  | a :: t =>
    rw [hO] at h1 hs
    have ha : a = [] := by
      rcases List.mem_cons.1 h1 with e | h1
      · exact e.symm
      · have := (List.pairwise_cons.1 hs).1 _ h1
        unfold before at this
        split at this
        · rename_i hl
          exact List.eq_nil_of_length_eq_zero hl
        · simp at this
    subst ha
    obtain ⟨u, hu⟩ := sieve_fold t [[]]
    have e : sieve ([] :: t) = [[]] ++ u := hu
    rw [e]
    unfold basisB
    rw [Bool.and_eq_false_iff]
    right
    exact basTo_false (k := 0) (by simp) rfl
theorem mkB_basis {X : List (List Int)} (h : mkB X = true) : basisB (mkG X) = true := by
  unfold mkG; rw [if_pos h]
  unfold mkB at h; rw [Bool.and_eq_true] at h; exact h.2
theorem basis_size {X : List (List Int)} (h : basisB X = true) : X.length + sizeX X ≤ 1048576 := by
  have h1 := basis_len h
  have h2 : sizeX X ≤ X.length * 8 := by
    have hp := basis_perm h
    clear h h1
    induction X with
    | nil => simp [sizeX]
    | cons a t ih =>
      have h1 := (permB_true (hp a (by simp))).1
      have h2 := ih (fun q hq => hp q (by simp [hq]))
      simp only [sizeX, List.map_cons, List.sum_cons, List.length_cons, Nat.add_mul, Nat.one_mul] at h2 ⊢
      omega
  omega
theorem mkG_le (X : List (List Int)) : (mkG X).length + sizeX (mkG X) ≤ 1048576 := by
  by_cases h : mkB X = true
  · exact basis_size (mkB_basis h)
  · unfold mkG; rw [if_neg h]; simp [sizeX]
theorem sizeR_sub {rs rs' : List Row} (h : rs'.Sublist rs) : rs'.length + sizeR rs' ≤ rs.length + sizeR rs := by
  induction h with
  | slnil => exact Nat.le_refl _
  | cons a _ ih => simp only [sizeR, List.map_cons, List.sum_cons, List.length_cons] at ih ⊢; omega
  | cons_cons a _ ih => simp only [sizeR, List.map_cons, List.sum_cons, List.length_cons] at ih ⊢; omega
theorem sizeX_append (X Y : List (List Int)) : sizeX (X ++ Y) = sizeX X + sizeX Y := by simp [sizeX]
theorem putL_size (X : List (List Int)) (p : List Int) : (putL X p).length + sizeX (putL X p) ≤ X.length + sizeX X + 1 + p.length := by
  unfold putL
  split
  · omega
  · have h1 : sizeX X = sizeX (X.take (putAt X p X.length)) + sizeX (X.drop (putAt X p X.length)) := by rw [← sizeX_append, List.take_append_drop]
    have h2 : X.length = (X.take (putAt X p X.length)).length + (X.drop (putAt X p X.length)).length := by rw [← List.length_append, List.take_append_drop]
    rw [sizeX_append, List.length_append]
    have h3 : sizeX (p :: X.drop (putAt X p X.length)) = p.length + sizeX (X.drop (putAt X p X.length)) := by simp [sizeX]
    rw [h3, List.length_cons]
    omega
theorem ordL_size (X : List (List Int)) : (ordL X).length + sizeX (ordL X) ≤ X.length + sizeX X := by
  have : ∀ (X Y : List (List Int)), (X.foldl putL Y).length + sizeX (X.foldl putL Y) ≤ Y.length + sizeX Y + (X.length + sizeX X) := by
    intro X
    induction X with
    | nil => intro Y; simp [sizeX]
    | cons a t ih =>
      intro Y
      have h1 := ih (putL Y a)
      have h2 := putL_size Y a
      have h3 : sizeX (a :: t) = a.length + sizeX t := by simp [sizeX]
      rw [List.foldl_cons, List.length_cons, h3]
      omega
  have := this X []
  simpa [ordL, sizeX] using this
/-- The rows that are kept. -/
def sieveR (rs : List Row) : Nat → List Row
  | 0 => []
  | k + 1 => match rs[k]? with
    | some r => if avoidB ((sieveR rs k).map Row.xs) r.xs = true then sieveR rs k ++ [r] else sieveR rs k
    | none => sieveR rs k
theorem sieveR_succ (rs : List Row) (k : Nat) (h : k < rs.length) : sieveR rs (k + 1) = if avoidB ((sieveR rs k).map Row.xs) rs[k].xs = true then sieveR rs k ++ [rs[k]] else sieveR rs k := by
  rw [sieveR, List.getElem?_eq_getElem h]
theorem sieveR_sub (rs : List Row) (k : Nat) (h : k ≤ rs.length) : (sieveR rs k).Sublist (rs.take k) := by
  induction k with
  | zero => exact List.Sublist.refl _
  | succ k ih =>
    rw [sieveR_succ rs k (by omega), List.take_succ_eq_append_getElem (by omega)]
    split
    · exact (ih (by omega)).append (List.Sublist.refl _)
    · exact (ih (by omega)).trans (List.sublist_append_left _ _)
theorem sieveR_map (rs : List Row) (k : Nat) (h : k ≤ rs.length) : (sieveR rs k).map Row.xs = sieve ((rs.map Row.xs).take k) := by
  induction k with
  | zero => rfl
  | succ k ih =>
    have ih := ih (by omega)
    have hk : (rs.map Row.xs)[k]'(by rw [List.length_map]; omega) = rs[k].xs := by simp
    rw [sieveR_succ rs k (by omega), sieve_take _ k (by rw [List.length_map]; omega), ih, hk]
    split
    · rw [List.map_append, ih]; rfl
    · exact ih
theorem sieveR_all (rs : List Row) : (sieveR rs rs.length).map Row.xs = sieve (rs.map Row.xs) := by
  rw [sieveR_map rs rs.length (Nat.le_refl _), List.take_of_length_le (by simp)]
theorem call_mb (args : Array Value) (w : World) : (callFunc 42 args).run Tryz.prog w = .ok (.enter 42 args) w := by kernel_rfl
set_option maxHeartbeats 800000 in
theorem mb_cl (A B : Option Addr) (c d g : Nat) (p q : List Int) (w : World) (hp : In w B d p) (hq : In w A c q) (hg : w.cell? ⟨g, 0, none⟩ = some (.slice B p.length d)) (h8 : p.length ≤ 8) (hq8 : q.length ≤ 8) :
    Calls Tryz.prog 42 #[.slice A q.length c, .pointer (some ⟨g, 0, none⟩)] w (Rb w (.bool (hasB p q))) := by
  go_enter Tryz.func42, Tryz.ntmps42
  go_wp2_with fail
  (with_reducible refine (has_b B A d c p q w _ hp hq (by omega) (by omega) rfl).mono ?_)
  rintro e w1 ⟨rfl, hb1⟩
  go_wp2_with fail
  go_ret
  exact ⟨rfl, hb1⟩
set_option maxHeartbeats 8000000 in
theorem makeBasis_impl (A : Option Addr) (c : Nat) (qs : List Row) (w : World) (h : InL w A c qs) :
    Calls Tryz.prog 11 #[.slice A qs.length c] w (RetLb w (mkG (qs.map Row.xs)) (mkB (qs.map Row.xs))) := by
  obtain ⟨j0, hj, hy0, hy1, hy2⟩ := info_parts infoL
  have hmf : ∀ (fn : Fn) (first cap : Array Value) (w : World), (Instr.makeFunc fn first cap).run Tryz.prog w = .ok (.func fn first cap) w := fun _ _ _ _ => rfl
  have hlen := h.len
  go_enter Tryz.func11, Tryz.ntmps11
  go_wp2_with fail
  go_loopw [11] (fun i wr => ∃ k : Nat, k ≤ qs.length ∧ i = .int .i64 k ∧ Hid (∀ r ∈ qs.take k, permB r.xs = true) ∧ Below w.heap.size w wr) (fun i _ => qs.length - (intOf i).toNat)
  case atStart => exact ⟨0, Nat.zero_le _, rfl, Lib.hid (by simp), Below.refl _ _⟩
  case round =>
    obtain ⟨k, hk, rfl, HP, hb⟩ := hrel
    rcases Nat.lt_or_ge k qs.length with hlt | hge
    · obtain ⟨b', off, rfl, _, hc⟩ := (h.next hb).read.at (by omega)
      have c1 := hc k hlt
      have hin := (h.next hb).row (List.getElem_mem hlt)
      have hmem : qs[k].xs ∈ qs.map Row.xs := List.mem_map.2 ⟨qs[k], List.getElem_mem hlt, rfl⟩
      have HM := Lib.hid hmem
      clear hc hmem
      go_wp2_with fail
      by_cases hp : permB qs[k].xs = true
      · have HT := Lib.hid (show ∀ r ∈ qs.take (k + 1), permB r.xs = true from fun r hr => by
          rw [List.take_succ_eq_append_getElem hlt] at hr
          rcases List.mem_append.1 hr with hr | hr
          · exact HP.out r hr
          · rw [List.mem_singleton.1 hr]; exact hp)
        (with_reducible refine (isPerm_ib qs[k].A qs[k].c qs[k].xs wr true hin hp).mono ?_)
        rintro e w1 ⟨rfl, hb1⟩
        have hb1 := hb.trans (hb1.mono hb.size)
        clear hp
        by_cases h0 : qs[k].xs.length = 0
        · have HF := Lib.hid (show mkB (qs.map Row.xs) = false by
            unfold mkB
            rw [mk_empty (by rw [← List.eq_nil_of_length_eq_zero h0]; exact HM.out), Bool.and_false])
          have HG := Lib.hid (show mkG (qs.map Row.xs) = [] by unfold mkG; rw [HF.out]; rfl)
          have d0 : ((qs[k].xs.length : Int) == 0) = true := by simp; exact List.eq_nil_of_length_eq_zero h0
          clear h0
          go_wp2_with fail
          go_ret2
          rw [HG.out, HF.out]
          exact ⟨none, 0, [], rfl, rfl, Own.nil_list _ _ _, hb1⟩
        · have d0 : ((qs[k].xs.length : Int) == 0) = false := by simp; intro e; rw [e] at h0; simp at h0
          clear h0
          go_wp2_with fail
          go_roundw
          case rel => exact ⟨k + 1, by omega, by go_num, HT, hb1⟩
          case measure => simp [intOf]; omega
      · have hpf : permB qs[k].xs = false := by simpa using hp
        have HF := Lib.hid (show mkB (qs.map Row.xs) = false by
          unfold mkB allPermB
          rw [show ((qs.map Row.xs).any fun p => !permB p) = true from List.any_eq_true.2 ⟨_, HM.out, by rw [hpf]; rfl⟩]; rfl)
        have HG := Lib.hid (show mkG (qs.map Row.xs) = [] by unfold mkG; rw [HF.out]; rfl)
        (with_reducible refine (isPerm_ib qs[k].A qs[k].c qs[k].xs wr false hin hpf).mono ?_)
        rintro e w1 ⟨rfl, hb1⟩
        have hb1 := hb.trans (hb1.mono hb.size)
        clear hp hpf
        go_wp2_with fail
        go_ret2
        rw [HG.out, HF.out]
        exact ⟨none, 0, [], rfl, rfl, Own.nil_list _ _ _, hb1⟩
    · obtain rfl : k = qs.length := by omega
      have HPA := Lib.hid (show ∀ r ∈ qs, permB r.xs = true from fun r hr => HP.out r (by rw [List.take_length]; exact hr))
      have HAP := Lib.hid (show allPermB (qs.map Row.xs) = true by
        unfold allPermB
        rw [show ((qs.map Row.xs).any fun p => !permB p) = false from by
          rw [List.any_eq_false]
          intro p hp
          obtain ⟨r, hr, rfl⟩ := List.mem_map.1 hp
          rw [HPA.out r hr]; simp]; rfl)
      have hszr := hb.size
      have hown0 : (wr.alloc (.cells #[] 27)).ownsRow w.heap.size 27 1 (.slice (some ⟨wr.heap.size, 0, none⟩) 0 0) 0 [] := World.ownsRow_lit wr #[] 0 hszr (by unfold maxLen; omega) rfl
      have hb0 := hb.alloc hszr (.cells #[] 27)
      have hin0 := h.next hb0
      clear HP
      go_wp2_with fail
      (with_reducible refine (ordered_impl A c qs (wr.alloc (.cells #[] 27)) hin0).mono ?_)
      rintro e w1 ⟨A1, c1, rs, rfl, hX, hO, hb1⟩
      have hst : Sift w1 w.heap.size (wr.alloc (.cells #[] 27)).heap.size w1.heap.size rs ⟨A1, c1, rs.map Row.v⟩ (some ⟨wr.heap.size, 0, none⟩) 0 [] := Sift.start hO hown0 hb1 (Nat.le_refl _)
      have hbw1 := hb0.trans (hb1.mono hb0.size)
      have hrl : rs.length ≤ 1048576 := by
        have h1 := ordL_len (qs.map Row.xs)
        have h2 := congrArg List.length hX
        rw [List.length_map] at h1 h2
        omega
      have HX := Lib.hid hX
      have HP8 := Lib.hid (show ∀ r ∈ rs, r.xs.length ≤ 8 from fun r hr => by
        have h1 := map_memX hX hr
        rw [ordL_mem] at h1
        obtain ⟨q, hq, he⟩ := List.mem_map.1 h1
        rw [← he]; exact (permB_true (HPA.out q hq)).1)
      have hsz0 : (wr.alloc (Obj.cells #[] 27)).heap.size = wr.heap.size + 1 := by simp
      rw [hsz0] at hst
      have hloa : w.heap.size ≤ wr.heap.size + 1 := by omega
      clear hX hO hb1 hown0 hb0 hsz0 hin0
      obtain ⟨wa, rfl⟩ : ∃ wa : World, wa = wr := ⟨_, rfl⟩
      go_wp2_with fail
      go_loopw [6, 28] (fun v i wr => ∃ (k : Nat) (A2 : Option Addr) (c2 : Nat) (kept : List Row), k ≤ rs.length ∧ i = .int .i64 k ∧ v = .slice A2 kept.length c2 ∧ Hid (kept = sieveR rs k) ∧
        Sift wr w.heap.size (wa.heap.size + 1) w1.heap.size rs ⟨A1, c1, rs.map Row.v⟩ A2 c2 (kept.map Row.v) ∧ Below w.heap.size w wr ∧ w1.heap.size ≤ wr.heap.size) (fun _ i _ => rs.length - (intOf i).toNat)
      case atStart => exact ⟨0, _, _, [], Nat.zero_le _, rfl, rfl, Lib.hid rfl, hst, hbw1, Nat.le_refl _⟩
      case round =>
        clear hst hbw1
        obtain ⟨k, A2, c2, kept, hk, rfl, rfl, HV, hS, hb, hsz⟩ := hrel
        have hkl : kept.length ≤ k := by
          have h1 := (sieveR_sub rs k hk).length_le
          rw [HV.out]
          rw [List.length_take] at h1
          omega
        have HSUB := Lib.hid (show kept.Sublist rs by rw [HV.out]; exact (sieveR_sub rs k hk).trans (List.take_sublist _ _))
        have hszw := hb.size
        rcases Nat.lt_or_ge k rs.length with hlt | hge
        · obtain ⟨p, hp⟩ : ∃ p : Row, p = rs[k] := ⟨_, rfl⟩
          have hpm : p ∈ rs := by rw [hp]; exact List.getElem_mem hlt
          have hRd := hS.rows.read
          obtain ⟨b, off, rfl, _, hc⟩ := hRd.at (by omega)
          have cc : wr.cell? ⟨b, off + k, none⟩ = some (Value.slice p.A p.xs.length p.c) := by rw [hp]; exact hc k hlt
          have hl8 := HP8.out p hpm
          have HK := Lib.hid (show sieveR rs (k + 1) = if avoidB (kept.map Row.xs) p.xs = true then kept ++ [p] else kept by rw [sieveR_succ rs k hlt, ← hp, HV.out])
          have hba := (Below.refl wr.heap.size wr).alloc (Nat.le_refl _) (Obj.cells #[Value.slice p.A p.xs.length p.c] 27)
          have hSa := hS.below hba
          have hina := row_in hSa.rows.read hpm (by omega) (Nat.le_trans hsz hba.size)
          have hka := (hSa.done (rs' := kept) rfl HSUB.out hloa (Nat.le_trans hsz hba.size)).read
          have hc0 := alloc_cell wr (Value.slice p.A p.xs.length p.c) 27
          have hz0 : (wr.alloc (Obj.cells #[Value.slice p.A p.xs.length p.c] 27)).heap.size = wr.heap.size + 1 := by simp
          have hbwa := hb.trans (hba.mono hszw)
          have HK8 := Lib.hid (show ∀ r ∈ kept, r.xs.length ≤ 8 from fun r hr => HP8.out r (HSUB.out.subset hr))
          clear hc hp hRd hS
          go_wp2_with fail
          generalize (wr.alloc (Obj.cells #[Value.slice p.A p.xs.length p.c] 27)) = wb at hba hSa hina hka hc0 hz0 hbwa ⊢
          by_cases hV : avoidB (kept.map Row.xs) p.xs = true
          case' pos =>
            have HT := Lib.hid (show sieveR rs (k + 1) = kept ++ [p] by rw [HK.out, if_pos hV])
            have HBV := Lib.hid (show (kept.any fun r : Row => hasB p.xs r.xs) = false by
              have h1 := hV
              unfold avoidB at h1
              rw [← any_rows kept (hasB p.xs)] at h1; simpa using h1)
            refine (containsFuncL1 A2 c2 kept 42 wr.heap.size (hasB p.xs) wb (by omega) hka (fun args w' => call_mb args w') (fun w' j hj hbb => ?_) false HBV.out).mono ?_
            · exact mb_cl kept[j].A p.A kept[j].c p.c _ p.xs kept[j].xs w' (hina.next hbb) (row_in (hka.below hbb) (List.getElem_mem hj) (by have := HK8.out _ (List.getElem_mem hj); omega) hbb.size) ((hbb.cell (p := ⟨wr.heap.size, 0, none⟩) (by show wr.heap.size < wb.heap.size; omega)).trans hc0) hl8 (HK8.out _ (List.getElem_mem hj))
            rintro e w2 ⟨rfl, hb2⟩
            have hS2 := hSa.below hb2
            have hbw := hbwa.trans (hb2.mono hbwa.size)
            have hs2 := hb2.size
            have hsz2 : w1.heap.size ≤ w2.heap.size := by omega
            have hc2 : w2.cell? ⟨wr.heap.size, 0, none⟩ = some (Value.slice p.A p.xs.length p.c) := (hb2.cell (p := ⟨wr.heap.size, 0, none⟩) (by show wr.heap.size < wb.heap.size; omega)).trans hc0
            have ho2 := hS2.outN (n := kept.length) (by simp)
            have hol := hS2.olim (n := kept.length) (by simp)
            have hwz : w.heap.size ≤ w2.heap.size := hbw.size
            clear hV hSa hina hka hba hbwa hc0 hb2
            go_wp2_with (at_builtin; refine wpList_append_own_at _ rfl _ _ 24 rfl (w.heap.size) 27 j0 (.slice none 0 0) 1 24 Tryz.underlying24 hj hy0 hy1 hy2 rfl (by decide) _ _ _ rfl (World.ownsRow.alloc ho2 _) ⟨w2.heap.size, 0, none⟩ 1 1 [Value.slice p.A p.xs.length p.c] rfl rfl (cell_one_at _ _ (by simp)) (by intro u hu; simp at hu; subst hu; rfl) (by unfold maxLen; omega) (by omega) (by simp; omega) ?_; intro v9 w9 hown9 hgrow9 _ hat9)
            obtain ⟨A5, c5, rfl, hS3, hg3⟩ := hS2.grow hsz2 (show (kept.map Row.v).length = kept.length by simp) hown9 hgrow9 hat9
            have hb3 := hbw.grown hg3 hbw.size hol
            have K := Lib.hid (And.intro hS3 hb3)
            have hsz3 : w1.heap.size ≤ w9.heap.size := by have := hg3.size; omega
            clear hS3 hb3 hown9 hgrow9 hat9 hg3 hS2 ho2 hol hbw hc2
            go_wp2
            go_roundw
            case rel => exact ⟨k + 1, A5, c5, kept ++ [p], by omega, by go_num, by rw [List.length_append]; rfl, Lib.hid HT.out.symm, by simpa [Row.v] using K.out.1, K.out.2, hsz3⟩
            case measure => simp [intOf]; omega
          case' neg =>
            have HT := Lib.hid (show sieveR rs (k + 1) = kept by rw [HK.out, if_neg hV])
            have HBV := Lib.hid (show (kept.any fun r : Row => hasB p.xs r.xs) = true by
              have h1 := hV
              unfold avoidB at h1
              rw [← any_rows kept (hasB p.xs)] at h1; simpa using h1)
            refine (containsFuncL1 A2 c2 kept 42 wr.heap.size (hasB p.xs) wb (by omega) hka (fun args w' => call_mb args w') (fun w' j hj hbb => ?_) true HBV.out).mono ?_
            · exact mb_cl kept[j].A p.A kept[j].c p.c _ p.xs kept[j].xs w' (hina.next hbb) (row_in (hka.below hbb) (List.getElem_mem hj) (by have := HK8.out _ (List.getElem_mem hj); omega) hbb.size) ((hbb.cell (p := ⟨wr.heap.size, 0, none⟩) (by show wr.heap.size < wb.heap.size; omega)).trans hc0) hl8 (HK8.out _ (List.getElem_mem hj))
            rintro e w2 ⟨rfl, hb2⟩
            have hS2 := hSa.below hb2
            have hbw := hbwa.trans (hb2.mono hbwa.size)
            have hs2 := hb2.size
            have hsz2 : w1.heap.size ≤ w2.heap.size := by omega
            clear hV hSa hina hka hba hbwa hc0 hb2
            go_wp2
            go_roundw
            case rel => exact ⟨k + 1, A2, c2, kept, by omega, by go_num, rfl, Lib.hid HT.out.symm, hS2, hbw, hsz2⟩
            case measure => simp [intOf]; omega
        · obtain rfl : k = rs.length := by omega
          have hfin := hS.done (rs' := kept) rfl HSUB.out hloa hsz
          have HKX := Lib.hid (show kept.map Row.xs = sieve (ordL (qs.map Row.xs)) by rw [HV.out, sieveR_all, HX.out])
          have hL : InL wr A2 c2 kept := ⟨by
            have h1 := sizeR_sub HSUB.out
            have h2 := ordL_size (qs.map Row.xs)
            rw [← HX.out, ← sizeR_eq, ← sizeR_eq, List.length_map, List.length_map] at h2
            omega, hfin.read⟩
          have HFIN := Lib.hid hfin
          clear hfin hS
          go_wp2_with fail
          by_cases hB : basisB (sieve (ordL (qs.map Row.xs))) = true
          · have HF := Lib.hid (show mkB (qs.map Row.xs) = true by unfold mkB; rw [HAP.out, hB]; rfl)
            have HG := Lib.hid (show mkG (qs.map Row.xs) = sieve (ordL (qs.map Row.xs)) by unfold mkG; rw [if_pos HF.out])
            (with_reducible refine (basis_ib A2 c2 kept wr true hL (by rw [HKX.out]; exact hB)).mono ?_)
            rintro e w2 ⟨rfl, hb2⟩
            clear hB
            go_wp2_with fail
            go_ret2
            rw [HG.out, HF.out]
            exact ⟨A2, c2, kept, rfl, HKX.out, (HFIN.out.below hb2).wider (Nat.le_refl _) hb2.size, hb.trans (hb2.mono hszw)⟩
          · have hBf : basisB (sieve (ordL (qs.map Row.xs))) = false := by simpa using hB
            have HF := Lib.hid (show mkB (qs.map Row.xs) = false by unfold mkB; rw [hBf, Bool.and_false])
            have HG := Lib.hid (show mkG (qs.map Row.xs) = [] by unfold mkG; rw [HF.out]; rfl)
            (with_reducible refine (basis_ib A2 c2 kept wr false hL (by rw [HKX.out]; exact hBf)).mono ?_)
            rintro e w2 ⟨rfl, hb2⟩
            clear hB hBf
            go_wp2_with fail
            go_ret2
            rw [HG.out, HF.out]
            exact ⟨none, 0, [], rfl, rfl, Own.nil_list _ _ _, hb.trans (hb2.mono hszw)⟩
def opG (X : List (List Int)) : List (List Int) := if allPermB X = true then ordL X else []
set_option maxHeartbeats 2000000 in
theorem orderPerms_spec (A : Option Addr) (c : Nat) (qs : List Row) (w : World) (h : InL w A c qs) (hP : allPermB (qs.map Row.xs) = true) :
    Calls Tryz.prog 45 #[.slice A qs.length c] w (RetL w (ordL (qs.map Row.xs))) := by
  have hlen := h.len
  have HP := Lib.hid hP
  have hlit := Own.lit (lo := w.heap.size) w (Nat.le_refl _)
  have hb0 := (Below.refl w.heap.size w).alloc (Nat.le_refl _) (.cells #[] 27)
  clear hP
  go_enter Tryz.func45, Tryz.ntmps45
  go_wp2_with fail
  go_loopw [3, 4] (fun v i wr => ∃ (k : Nat) (A1 : Option Addr) (c1 : Nat) (ds : List Row), k ≤ qs.length ∧ i = .int .i64 k ∧ v = .slice A1 ds.length c1 ∧ Hid (ds.map Row.xs = ordL ((qs.map Row.xs).take k)) ∧ Own wr w.heap.size wr.heap.size ds [⟨A1, c1, ds.map Row.v⟩] ∧ Below w.heap.size w wr) (fun _ i _ => qs.length - (intOf i).toNat)
  case atStart => exact ⟨0, _, _, [], Nat.zero_le _, rfl, rfl, Lib.hid rfl, hlit, hb0⟩
  case round =>
    clear hlit hb0
    obtain ⟨k, A1, c1, ds, hk, rfl, rfl, HX, hO, hb⟩ := hrel
    have hsz := hb.size
    have hds := ordL_size ((qs.map Row.xs).take k)
    have htk : ((qs.map Row.xs).take k).length + sizeX ((qs.map Row.xs).take k) ≤ qs.length + sizeR qs := by
      rw [sizeR_eq, ← List.map_take, List.length_map]
      have h1 := sizeR_sub (List.take_sublist k qs)
      rw [sizeR_eq, sizeR_eq] at h1
      exact h1
    rw [← HX.out, ← sizeR_eq, List.length_map] at hds
    have hdl : ds.length ≤ 1048576 := by omega
    have HD8 := Lib.hid (show ∀ r ∈ ds, r.xs.length ≤ 1048576 from fun r hr => by have := sizeR_mem hr; omega)
    clear hds htk
    rcases Nat.lt_or_ge k qs.length with hlt | hge
    · have HT := Lib.hid (show ordL ((qs.map Row.xs).take (k + 1)) = putL (ds.map Row.xs) qs[k].xs by rw [ordL_take _ k (by simpa using hlt), HX.out]; simp)
      have HO := Lib.hid hO
      clear hO
      go_wp2_with fail
      (with_reducible refine (l3All_b A c qs wr true (h.next hb) HP.out).mono ?_)
      rintro e w1 ⟨rfl, hb1⟩
      have hb2 := hb.trans (hb1.mono hsz)
      have hO1 := (HO.out.below hb1).wider (Nat.le_refl _) hb1.size
      obtain ⟨b, off, rfl, _, hc⟩ := (h.next hb2).read.at (by omega)
      have cc := hc k hlt
      have hin := (h.next hb2).row (List.getElem_mem hlt)
      have hs2 := hb2.size
      have ct := Lib.hid (l3Put_any A1 qs[k].A c1 qs[k].c w.heap.size ds qs[k].xs w1 hO1 hs2 hin hdl HD8.out)
      have hol := hO1.olim (n := ds.length) (by simp)
      clear hc hO1 hb1
      go_wp2_with fail
      (with_reducible refine ct.out.mono ?_)
      rintro e w2 ⟨A4, c4, ps, rfl, hX4, hO4, hg4⟩
      have hb4 := hb2.grown hg4 hs2 (fun g hg => (hol g (by rw [← hg]; exact ownBlock_len _ _ _ _ _)).1)
      have K := Lib.hid (And.intro hX4 (And.intro hO4 hb4))
      clear hX4 hO4 hb4 hg4 hol
      go_wp2_with fail
      go_roundw
      case rel => exact ⟨k + 1, A4, c4, ps, by omega, by go_num, rfl, Lib.hid (by rw [HT.out, K.out.1]), K.out.2.1, K.out.2.2⟩
      case measure => simp [intOf]; omega
    · obtain rfl : k = qs.length := by omega
      have HT := Lib.hid (show ds.map Row.xs = ordL (qs.map Row.xs) by rw [HX.out, List.take_of_length_le (by simp)])
      go_wp2_with fail
      go_ret
      exact ⟨A1, c1, ds, rfl, HT.out, hO, hb⟩
set_option maxHeartbeats 4000000 in
theorem makeBasis_spec (A : Option Addr) (c : Nat) (qs : List Row) (w : World) (h : InL w A c qs) :
    Calls Tryz.prog 12 #[.slice A qs.length c] w (RetLb w (mkG (qs.map Row.xs)) (mkB (qs.map Row.xs))) := by
  obtain ⟨j0, hj, hy0, hy1, hy2⟩ := info_parts infoL
  have hlen := h.len
  go_enter Tryz.func12, Tryz.ntmps12
  go_wp2_with fail
  by_cases hA : allPermB (qs.map Row.xs) = true
  · have HAP := Lib.hid hA
    have HPA := Lib.hid (show ∀ r ∈ qs, permB r.xs = true from fun r hr => by
      unfold allPermB at hA
      have h1 : ((qs.map Row.xs).any fun p => !permB p) = false := by simpa using hA
      have h2 := List.any_eq_false.1 h1 r.xs (List.mem_map.2 ⟨r, hr, rfl⟩)
      simpa using h2)
    (with_reducible refine (l3All_b A c qs w true h hA).mono ?_)
    rintro e w1 ⟨rfl, hb1⟩
    have ct := Lib.hid (orderPerms_spec A c qs w1 (h.next hb1) hA)
    clear hA
    go_wp2_with fail
    (with_reducible refine ct.out.mono ?_)
    rintro e w2 ⟨A1, c1, rs, rfl, hX, hO, hb2⟩
    have hbw := hb1.trans (hb2.mono hb1.size)
    have hrl : rs.length ≤ 1048576 := by
      have h1 := ordL_len (qs.map Row.xs)
      have h2 := congrArg List.length hX
      rw [List.length_map] at h1 h2
      omega
    have HX := Lib.hid hX
    have HP8 := Lib.hid (show ∀ r ∈ rs, r.xs.length ≤ 8 from fun r hr => by
      have h1 := map_memX hX hr
      rw [ordL_mem] at h1
      obtain ⟨q, hq, he⟩ := List.mem_map.1 h1
      rw [← he]; exact (permB_true (HPA.out q hq)).1)
    have hst : Sift (w2.alloc (.cells #[] 27)) w.heap.size w1.heap.size w2.heap.size rs ⟨A1, c1, rs.map Row.v⟩ (some ⟨w2.heap.size, 0, none⟩) 0 [] :=
      ⟨hO.below ((Below.refl _ _).alloc (Nat.le_refl _) _), World.ownsRow_lit w2 #[] 0 hbw.size (by unfold maxLen; omega) rfl, fun g hg => .inr (by injection hg with hg; exact Nat.le_of_eq hg)⟩
    have hbl := hbw.alloc hbw.size (.cells #[] 27)
    have hlo1 := hb1.size
    have hsl : w2.heap.size ≤ (w2.alloc (.cells #[] 27)).heap.size := by simp
    clear hX hb2 hO
    go_wp2_with fail
    go_loopw [5, 6] (fun v i wr => ∃ (k : Nat) (A2 : Option Addr) (c2 : Nat) (kept : List Row), k ≤ rs.length ∧ i = .int .i64 k ∧ v = .slice A2 kept.length c2 ∧ Hid (kept = sieveR rs k) ∧
      Sift wr w.heap.size w1.heap.size w2.heap.size rs ⟨A1, c1, rs.map Row.v⟩ A2 c2 (kept.map Row.v) ∧ Below w.heap.size w wr ∧ w2.heap.size ≤ wr.heap.size) (fun _ i _ => rs.length - (intOf i).toNat)
    case atStart => exact ⟨0, _, _, [], Nat.zero_le _, rfl, rfl, Lib.hid rfl, hst, hbl, hsl⟩
    case round =>
      clear hst hbl hsl
      obtain ⟨k, A2, c2, kept, hk, rfl, rfl, HV, hS, hb, hsz⟩ := hrel
      have hkl : kept.length ≤ k := by
        have h1 := (sieveR_sub rs k hk).length_le
        rw [HV.out]
        rw [List.length_take] at h1
        omega
      have HSUB := Lib.hid (show kept.Sublist rs by rw [HV.out]; exact (sieveR_sub rs k hk).trans (List.take_sublist _ _))
      have hszw := hb.size
      have hka := hS.done (rs' := kept) rfl HSUB.out hlo1 hsz
      have hL : InL wr A2 c2 kept := ⟨by
        have h1 := sizeR_sub HSUB.out
        have h2 := ordL_size (qs.map Row.xs)
        rw [← HX.out, ← sizeR_eq, ← sizeR_eq, List.length_map, List.length_map] at h2
        omega, hka.read⟩
      rcases Nat.lt_or_ge k rs.length with hlt | hge
      · obtain ⟨p, hp⟩ : ∃ p : Row, p = rs[k] := ⟨_, rfl⟩
        have hpm : p ∈ rs := by rw [hp]; exact List.getElem_mem hlt
        have hRd := hS.rows.read
        obtain ⟨b, off, rfl, hbb, hc⟩ := hRd.at (by omega)
        have cc : wr.cell? ⟨b, off + k, none⟩ = some (Value.slice p.A p.xs.length p.c) := by rw [hp]; exact hc k hlt
        have hl8 := HP8.out p hpm
        have HK := Lib.hid (show sieveR rs (k + 1) = if avoidB (kept.map Row.xs) p.xs = true then kept ++ [p] else kept by rw [sieveR_succ rs k hlt, ← hp, HV.out])
        have hinp := row_in hRd hpm (by omega) hsz
        have HK8 := Lib.hid (show ∀ r ∈ kept, r.xs.length ≤ 8 from fun r hr => HP8.out r (HSUB.out.subset hr))
        clear hc hp hRd hka
        go_wp2_with fail
        by_cases hV : avoidB (kept.map Row.xs) p.xs = true
        · have HT := Lib.hid (show sieveR rs (k + 1) = kept ++ [p] by rw [HK.out, if_pos hV])
          (with_reducible refine (l12Avoids_b A2 p.A c2 p.c kept p.xs wr true hL hinp hl8 HK8.out hV).mono ?_)
          rintro e w3 ⟨rfl, hb3⟩
          have hS2 := hS.below hb3
          have hbw3 := hb.trans (hb3.mono hszw)
          have hs3 := hb3.size
          have hsz3 : w2.heap.size ≤ w3.heap.size := by omega
          have cc2 : w3.cell? ⟨b, off + k, none⟩ = some (Value.slice p.A p.xs.length p.c) := (hb3.cell (p := ⟨b, off + k, none⟩) (by show b < wr.heap.size; omega)).trans cc
          have ho2 := hS2.outN (n := kept.length) (by simp)
          have hol := hS2.olim (n := kept.length) (by simp)
          have hwz : w.heap.size ≤ w3.heap.size := hbw3.size
          clear hV hS hL hinp hb3 cc
          go_wp2_with (at_builtin; refine wpList_append_own_at _ rfl _ _ 24 rfl (w.heap.size) 27 j0 (.slice none 0 0) 1 24 Tryz.underlying24 hj hy0 hy1 hy2 rfl (by decide) _ _ _ rfl (World.ownsRow.alloc ho2 _) ⟨w3.heap.size, 0, none⟩ 1 1 [Value.slice p.A p.xs.length p.c] rfl rfl (cell_one_at _ _ (by simp)) (by intro u hu; simp at hu; subst hu; rfl) (by unfold maxLen; omega) (by omega) (by simp; omega) ?_; intro v9 w9 hown9 hgrow9 _ hat9)
          obtain ⟨A5, c5, rfl, hS3, hg3⟩ := hS2.grow hsz3 (show (kept.map Row.v).length = kept.length by simp) hown9 hgrow9 hat9
          have hb4 := hbw3.grown hg3 hbw3.size hol
          have K := Lib.hid (And.intro hS3 hb4)
          have hsz4 : w2.heap.size ≤ w9.heap.size := by have := hg3.size; omega
          clear hS3 hb4 hown9 hgrow9 hat9 hg3 hS2 ho2 hol hbw3 cc2
          go_wp2
          go_roundw
          case rel => exact ⟨k + 1, A5, c5, kept ++ [p], by omega, by go_num, by rw [List.length_append]; rfl, Lib.hid HT.out.symm, by simpa [Row.v] using K.out.1, K.out.2, hsz4⟩
          case measure => simp [intOf]; omega
        · have HT := Lib.hid (show sieveR rs (k + 1) = kept by rw [HK.out, if_neg hV])
          have hVf : avoidB (kept.map Row.xs) p.xs = false := by simpa using hV
          (with_reducible refine (l12Avoids_b A2 p.A c2 p.c kept p.xs wr false hL hinp hl8 HK8.out hVf).mono ?_)
          rintro e w3 ⟨rfl, hb3⟩
          have hS2 := hS.below hb3
          have hbw3 := hb.trans (hb3.mono hszw)
          have hs3 := hb3.size
          have hsz3 : w2.heap.size ≤ w3.heap.size := by omega
          clear hV hVf hS hL hinp hb3 cc
          go_wp2
          go_roundw
          case rel => exact ⟨k + 1, A2, c2, kept, by omega, by go_num, rfl, Lib.hid HT.out.symm, hS2, hbw3, hsz3⟩
          case measure => simp [intOf]; omega
      · obtain rfl : k = rs.length := by omega
        have HKX := Lib.hid (show kept.map Row.xs = sieve (ordL (qs.map Row.xs)) by rw [HV.out, sieveR_all, HX.out])
        have HFIN := Lib.hid hka
        clear hka hS
        go_wp2_with fail
        by_cases hB : basisB (sieve (ordL (qs.map Row.xs))) = true
        · have HF := Lib.hid (show mkB (qs.map Row.xs) = true by unfold mkB; rw [HAP.out, hB]; rfl)
          have HG := Lib.hid (show mkG (qs.map Row.xs) = sieve (ordL (qs.map Row.xs)) by unfold mkG; rw [if_pos HF.out])
          (with_reducible refine (basis_sb A2 c2 kept wr true hL (by rw [HKX.out]; exact hB)).mono ?_)
          rintro e w3 ⟨rfl, hb3⟩
          clear hB
          go_wp2_with fail
          go_ret2
          rw [HG.out, HF.out]
          exact ⟨A2, c2, kept, rfl, HKX.out, (HFIN.out.below hb3).wider (Nat.le_refl _) hb3.size, hb.trans (hb3.mono hszw)⟩
        · have hBf : basisB (sieve (ordL (qs.map Row.xs))) = false := by simpa using hB
          have HF := Lib.hid (show mkB (qs.map Row.xs) = false by unfold mkB; rw [hBf, Bool.and_false])
          have HG := Lib.hid (show mkG (qs.map Row.xs) = [] by unfold mkG; rw [HF.out]; rfl)
          (with_reducible refine (basis_sb A2 c2 kept wr false hL (by rw [HKX.out]; exact hBf)).mono ?_)
          rintro e w3 ⟨rfl, hb3⟩
          have hb4 := hb.trans (hb3.mono hszw)
          have hlit := Own.lit (lo := w.heap.size) w3 hb4.size
          have hb5 := hb4.alloc hb4.size (.cells #[] 27)
          clear hB hBf
          go_wp2_with fail
          go_ret2
          rw [HG.out, HF.out]
          exact ⟨_, _, [], rfl, rfl, hlit, hb5⟩
  · have hAf : allPermB (qs.map Row.xs) = false := by simpa using hA
    have HF := Lib.hid (show mkB (qs.map Row.xs) = false by unfold mkB; rw [hAf, Bool.false_and])
    have HG := Lib.hid (show mkG (qs.map Row.xs) = [] by unfold mkG; rw [HF.out]; rfl)
    (with_reducible refine (l3All_b A c qs w false h hAf).mono ?_)
    rintro e w1 ⟨rfl, hb1⟩
    have hlit := Own.lit (lo := w.heap.size) w1 hb1.size
    have hb5 := hb1.alloc hb1.size (.cells #[] 27)
    clear hA hAf
    go_wp2_with fail
    go_ret2
    rw [HG.out, HF.out]
    exact ⟨_, _, [], rfl, rfl, hlit, hb5⟩
end Go.Proofs.YtodloeonlaljpaaGreatDoor

/- Symmetries of permutations: inverse, complement, symmetry; SymmetryBasis. -/
namespace Go.Proofs.YtodloeonlaljpaaGreatDoor
set_option maxRecDepth 100000
open Go Go.RowKit

/-- The inverse, as far as the first k numbers tell it. -/
def invTo (p : List Int) : Nat → List Int
  | 0 => List.replicate p.length 0
  | k + 1 => (invTo p k).set ((p[k]?.getD 0) - 1).toNat ((k : Int) + 1)
def invL (p : List Int) : List Int := invTo p p.length
theorem invTo_length (p : List Int) (k : Nat) : (invTo p k).length = p.length := by
  induction k with
  | zero => simp [invTo]
  | succ k ih => simp [invTo, ih]
theorem invTo_bound (p : List Int) (k : Nat) (hk : k ≤ p.length) : ∀ x ∈ invTo p k, 0 ≤ x ∧ x ≤ p.length := by
  induction k with
  | zero =>
    intro x hx
    rw [invTo] at hx
    rw [List.eq_of_mem_replicate hx]
    omega
  | succ k ih =>
    intro x hx
    rw [invTo] at hx
    rcases List.mem_or_eq_of_mem_set hx with h | h
    · exact ih (by omega) x h
    · omega
def complL (p : List Int) : List Int := p.map fun v => (p.length : Int) + 1 - v
def complTo (p : List Int) (k : Nat) : List Int := (p.take k).map fun v => (p.length : Int) + 1 - v
theorem complTo_succ (p : List Int) (k : Nat) (h : k < p.length) : complTo p (k + 1) = complTo p k ++ [(p.length : Int) + 1 - p[k]] := by
  unfold complTo; rw [List.take_succ_eq_append_getElem h, List.map_append]; rfl
theorem complTo_all (p : List Int) : complTo p p.length = complL p := by unfold complTo complL; rw [List.take_length]
theorem complTo_len (p : List Int) (k : Nat) (h : k ≤ p.length) : (complTo p k).length = k := by unfold complTo; simp; omega
def revL (p : List Int) : List Int := p.reverse
/-- The symmetry number k. -/
def symL (p : List Int) : Nat → List Int
  | 0 => p
  | 1 => invL p
  | 2 => revL p
  | 3 => revL (invL p)
  | 4 => complL p
  | 5 => complL (invL p)
  | 6 => complL (revL p)
  | _ => complL (revL (invL p))
theorem small_perm {p : List Int} (h : permB p = true) : p.length ≤ 8 ∧ ∀ x ∈ p, 0 ≤ x ∧ x ≤ 8 := by
  have h8 := (permB_true h).1
  exact ⟨h8, fun x hx => by have := (permB_true h).2.1 x hx; omega⟩
theorem small_inv {p : List Int} (h : p.length ≤ 8) : (invL p).length ≤ 8 ∧ ∀ x ∈ invL p, 0 ≤ x ∧ x ≤ 8 :=
  ⟨by unfold invL; rw [invTo_length]; exact h, fun x hx => by have := invTo_bound p p.length (Nat.le_refl _) x hx; omega⟩
theorem small_rev {p : List Int} (h : p.length ≤ 8 ∧ ∀ x ∈ p, 0 ≤ x ∧ x ≤ 8) : (revL p).length ≤ 8 ∧ ∀ x ∈ revL p, 0 ≤ x ∧ x ≤ 8 :=
  ⟨by unfold revL; rw [List.length_reverse]; exact h.1, fun x hx => h.2 x (List.mem_reverse.1 hx)⟩
theorem symL_len {p : List Int} (h : p.length ≤ 8) (k : Nat) : (symL p k).length ≤ 8 := by
  have hi : (invL p).length = p.length := invTo_length p p.length
  unfold symL
  split <;> simp [complL, revL, hi, h]
end Go.Proofs.YtodloeonlaljpaaGreatDoor

/- Plain maths of occurrences: the inverse and the complement. -/
namespace Go.Proofs.YtodloeonlaljpaaGreatDoor
set_option maxRecDepth 100000

theorem invTo_get {p : List Int} (hp : permB p = true) : ∀ (k : Nat), k ≤ p.length → ∀ i : Int, 1 ≤ i → i ≤ k → at1 (invTo p k) (at1 p i) = i := by
  intro k
  induction k with
  | zero => intro _ i h1 h2; omega
  | succ k ih =>
    intro hk i h1 h2
    have hr := perm_rng hp h1 (by omega)
    have hk1 := perm_rng hp (x := (k : Int) + 1) (by omega) (by omega)
    have e1 : p[k]?.getD 0 = at1 p ((k : Int) + 1) := by rw [at1_get (by omega), List.getElem?_eq_getElem (by omega)]; rfl
    have hl := invTo_length p k
    rw [invTo, e1]
    unfold at1
    by_cases hik : i = (k : Int) + 1
    · subst hik
      rw [show (p[((k : Int) + 1 - 1).toNat]?.getD 0) = at1 p ((k : Int) + 1) from rfl]
      rw [List.getElem?_set_self (by omega)]; rfl
    · have hne : at1 p i ≠ at1 p ((k : Int) + 1) := fun e => hik (perm_inj hp ⟨h1, by omega⟩ ⟨by omega, by omega⟩ e)
      rw [show (p[(i - 1).toNat]?.getD 0) = at1 p i from rfl]
      rw [show (p[((k : Int) + 1 - 1).toNat]?.getD 0) = at1 p ((k : Int) + 1) from rfl]
      rw [List.getElem?_set_ne (by omega)]
      exact ih (by omega) i h1 (by omega)
theorem inv_at {p : List Int} (hp : permB p = true) {i : Int} (h1 : 1 ≤ i) (h2 : i ≤ p.length) : at1 (invL p) (at1 p i) = i := invTo_get hp p.length (Nat.le_refl _) i h1 h2
theorem invL_length (p : List Int) : (invL p).length = p.length := invTo_length p p.length
theorem at_inv {p : List Int} (hp : permB p = true) {v : Int} (h1 : 1 ≤ v) (h2 : v ≤ p.length) : at1 p (at1 (invL p) v) = v ∧ 1 ≤ at1 (invL p) v ∧ at1 (invL p) v ≤ p.length := by
  obtain ⟨x, hx1, hx2, rfl⟩ := perm_onto hp h1 h2
  rw [inv_at hp hx1 hx2]
  exact ⟨rfl, hx1, hx2⟩
theorem perm_inv {p : List Int} (hp : permB p = true) : permB (invL p) = true := by
  have h8 := (permB_true hp).1
  have hl := invL_length p
  refine perm_of (by omega) (fun x h1 h2 => ?_) (fun x y hx hy e => ?_)
  · have := (at_inv hp h1 (by omega)).2
    omega
  · have h1 := (at_inv hp hx.1 (by omega)).1
    have h2 := (at_inv hp hy.1 (by omega)).1
    rw [e, h2] at h1
    exact h1.symm
theorem inv_inv {p : List Int} (hp : permB p = true) : invL (invL p) = p := by
  have hl := invL_length p
  have hl2 := invL_length (invL p)
  refine at1_ext (by omega) fun x h1 h2 => ?_
  have hr := perm_rng hp h1 (by omega)
  have h3 := inv_at (perm_inv hp) (i := at1 p x) hr.1 (by omega)
  rw [inv_at hp h1 (by omega)] at h3
  exact h3
/-- The numbers at the places, in their order: the places of the inverse. -/
def invPl (p q l : List Int) : List Int := ofF q.length fun j => at1 p (at1 l (at1 (invL q) j))
theorem occ_inverse {p q l : List Int} (hp : permB p = true) (hq : permB q = true) (h : Occ p q l) : Occ (invL p) (invL q) (invPl p q l) := by
  have hl := h.len
  have hip := invL_length p
  have hiq := invL_length q
  have hb : ∀ j : Int, 1 ≤ j ∧ j ≤ q.length → 1 ≤ at1 (invL q) j ∧ at1 (invL q) j ≤ q.length := fun j hj => (at_inv hq hj.1 hj.2).2
  have hr : ∀ j : Int, 1 ≤ j ∧ j ≤ q.length → 1 ≤ at1 l (at1 (invL q) j) ∧ at1 l (at1 (invL q) j) ≤ p.length := fun j hj => h.rng _ (hb j hj).1 (by have := (hb j hj).2; omega)
  refine ⟨by rw [invPl, ofF_length, hiq], fun i j h1 h2 h3 => ?_, fun i h1 h2 => ?_, fun i j hi hj => ?_⟩
  · rw [invPl, ofF_length] at h3
    unfold invPl
    rw [at1_ofF h1 (by omega), at1_ofF (by omega) h3]
    rw [← h.ord _ _ (hb i ⟨h1, by omega⟩) (hb j ⟨by omega, h3⟩), (at_inv hq h1 (by omega)).1, (at_inv hq (by omega) h3).1]
    exact h2
  · rw [invPl, ofF_length] at h2
    unfold invPl
    rw [at1_ofF h1 h2, hip]
    have a := hr i ⟨h1, h2⟩
    exact perm_rng hp a.1 a.2
  · rw [hiq] at hi hj
    unfold invPl
    rw [at1_ofF hi.1 hi.2, at1_ofF hj.1 hj.2]
    have a := hr i hi
    have b := hr j hj
    rw [inv_at hp a.1 a.2, inv_at hp b.1 b.2, h.inc.lt (by have := hb i hi; omega) (by have := hb j hj; omega)]
theorem invPl_at {p q l : List Int} (hq : permB q = true) {i : Int} (h1 : 1 ≤ i) (h2 : i ≤ q.length) : at1 (invPl p q l) (at1 q i) = at1 p (at1 l i) := by
  have hr := perm_rng hq h1 h2
  unfold invPl
  rw [at1_ofF hr.1 hr.2, inv_at hq h1 h2]
theorem invPl_inj {p q l k : List Int} (hp : permB p = true) (hq : permB q = true) (hl : Occ p q l) (hk : Occ p q k) (e : invPl p q l = invPl p q k) : l = k := by
  have h1 := hl.len
  have h2 := hk.len
  refine at1_ext (by omega) fun x hx1 hx2 => ?_
  have : at1 (invPl p q l) (at1 q x) = at1 (invPl p q k) (at1 q x) := by rw [e]
  rw [invPl_at hq hx1 (by omega), invPl_at hq hx1 (by omega)] at this
  exact perm_inj hp (hl.rng x hx1 hx2) (hk.rng x hx1 (by omega)) this
theorem occ_count_inverse {p q : List Int} (hp : permB p = true) (hq : permB q = true) : (occI (invL p) (invL q)).length = (occI p q).length := by
  have hp' := perm_inv hp
  have hq' := perm_inv hq
  refine len_of_inj (occI_nodup _ _) (occI_nodup _ _) (invPl (invL p) (invL q)) (invPl p q) (fun l hl => ?_) (fun l hl k hk e => ?_) (fun l hl => ?_) (fun l hl k hk e => ?_)
  · have h := occ_inverse hp' hq' ((occ_iff hp' hq').1 hl)
    rw [inv_inv hp, inv_inv hq] at h
    exact (occ_iff hp hq).2 h
  · exact invPl_inj hp' hq' ((occ_iff hp' hq').1 hl) ((occ_iff hp' hq').1 hk) e
  · exact (occ_iff hp' hq').2 (occ_inverse hp hq ((occ_iff hp hq).1 hl))
  · exact invPl_inj hp hq ((occ_iff hp hq).1 hl) ((occ_iff hp hq).1 hk) e

/-! The complement. -/
theorem complL_length (p : List Int) : (complL p).length = p.length := by simp [complL]
theorem at1_compl {p : List Int} {x : Int} (h1 : 1 ≤ x) (h2 : x ≤ p.length) : at1 (complL p) x = (p.length : Int) + 1 - at1 p x := by
  obtain ⟨i, h, e1, e2⟩ := at1_nat (p := p) h1 h2
  have h' : i < (complL p).length := by rw [complL_length]; exact h
  rw [e2, e1, at1_get h']
  simp [complL]
theorem perm_compl {p : List Int} (hp : permB p = true) : permB (complL p) = true := by
  have h8 := (permB_true hp).1
  have hl := complL_length p
  refine perm_of (by omega) (fun x h1 h2 => ?_) (fun x y hx hy e => ?_)
  · rw [at1_compl h1 (by omega)]
    have := perm_rng hp h1 (by omega)
    omega
  · rw [at1_compl hx.1 (by omega), at1_compl hy.1 (by omega)] at e
    exact perm_inj hp ⟨hx.1, by omega⟩ ⟨hy.1, by omega⟩ (by omega)
theorem occ_compl {p q l : List Int} (h : Occ p q l) : Occ (complL p) (complL q) l := by
  have hl := h.len
  refine ⟨by rw [complL_length]; exact hl, h.inc, by rw [complL_length]; exact h.rng, fun i j hi hj => ?_⟩
  rw [complL_length] at hi hj
  have a := h.rng i hi.1 (by omega)
  have b := h.rng j hj.1 (by omega)
  rw [at1_compl hi.1 hi.2, at1_compl hj.1 hj.2, at1_compl a.1 a.2, at1_compl b.1 b.2]
  have := h.ord j i hj hi
  omega
theorem compl_compl {p : List Int} : complL (complL p) = p := by
  refine at1_ext (by rw [complL_length, complL_length]) fun x h1 h2 => ?_
  rw [complL_length, complL_length] at h2
  rw [at1_compl h1 (by rw [complL_length]; exact h2), at1_compl h1 h2, complL_length]
  omega

/-! All symmetries. -/
theorem perm_sym {p : List Int} (hp : permB p = true) (k : Nat) : permB (symL p k) = true := by
  unfold symL
  split
  all_goals first | exact hp | exact perm_inv hp | exact perm_reverse hp | exact perm_reverse (perm_inv hp) | exact perm_compl hp | exact perm_compl (perm_inv hp) | exact perm_compl (perm_reverse hp) | exact perm_compl (perm_reverse (perm_inv hp))
theorem has_reverse {p q : List Int} (hp : permB p = true) (hq : permB q = true) : hasB p.reverse q.reverse = hasB p q := by
  rw [Bool.eq_iff_iff, has_iff hp hq, has_iff (perm_reverse hp) (perm_reverse hq)]
  constructor
  · rintro ⟨l, h⟩
    have := occ_reverse h
    rw [List.reverse_reverse, List.reverse_reverse] at this
    exact ⟨_, this⟩
  · rintro ⟨l, h⟩; exact ⟨_, occ_reverse h⟩
theorem has_inverse {p q : List Int} (hp : permB p = true) (hq : permB q = true) : hasB (invL p) (invL q) = hasB p q := by
  rw [Bool.eq_iff_iff, has_iff hp hq, has_iff (perm_inv hp) (perm_inv hq)]
  constructor
  · rintro ⟨l, h⟩
    have := occ_inverse (perm_inv hp) (perm_inv hq) h
    rw [inv_inv hp, inv_inv hq] at this
    exact ⟨_, this⟩
  · rintro ⟨l, h⟩; exact ⟨_, occ_inverse hp hq h⟩
theorem has_compl {p q : List Int} (hp : permB p = true) (hq : permB q = true) : hasB (complL p) (complL q) = hasB p q := by
  rw [Bool.eq_iff_iff, has_iff hp hq, has_iff (perm_compl hp) (perm_compl hq)]
  constructor
  · rintro ⟨l, h⟩
    have := occ_compl h
    rw [compl_compl, compl_compl] at this
    exact ⟨_, this⟩
  · rintro ⟨l, h⟩; exact ⟨_, occ_compl h⟩
theorem has_sym {p q : List Int} (hp : permB p = true) (hq : permB q = true) (k : Nat) : hasB (symL p k) (symL q k) = hasB p q := by
  match k with
  | 0 => rfl
  | 1 => exact has_inverse hp hq
  | 2 => exact has_reverse hp hq
  | 3 => exact (has_reverse (perm_inv hp) (perm_inv hq)).trans (has_inverse hp hq)
  | 4 => exact has_compl hp hq
  | 5 => exact (has_compl (perm_inv hp) (perm_inv hq)).trans (has_inverse hp hq)
  | 6 => exact (has_compl (perm_reverse hp) (perm_reverse hq)).trans (has_reverse hp hq)
  | _ + 7 => exact (has_compl (perm_reverse (perm_inv hp)) (perm_reverse (perm_inv hq))).trans ((has_reverse (perm_inv hp) (perm_inv hq)).trans (has_inverse hp hq))
end Go.Proofs.YtodloeonlaljpaaGreatDoor

/- Plain maths of FnPatterns: patterns of places, patterns without a place, subsets by bits. -/
namespace Go.Proofs.YtodloeonlaljpaaGreatDoor
set_option maxRecDepth 100000

theorem at1_atL {p l : List Int} {x : Int} (h1 : 1 ≤ x) (h2 : x ≤ l.length) : at1 (atL p l) x = at1 p (at1 l x) := by
  obtain ⟨i, h, e1, e2⟩ := at1_nat (p := l) h1 h2
  have h' : i < (atL p l).length := by rw [atL_length]; exact h
  rw [e2, e1, at1_get h']
  simp [atL_map]
theorem belowN_bound {L : List Int} {x : Int} (h : x ∈ L) : belowN L x < L.length := by
  unfold belowN
  apply List.length_filter_lt_length_iff_exists.2
  exact ⟨x, h, by simp⟩
theorem at1_pat {L : List Int} {x : Int} (h1 : 1 ≤ x) (h2 : x ≤ L.length) : at1 (patL L) x = (belowN L (at1 L x) : Int) + 1 := by
  obtain ⟨i, h, e1, e2⟩ := at1_nat (p := L) h1 h2
  have h' : i < (patL L).length := by rw [patL_length]; exact h
  rw [e2, e1, at1_get h']
  simp [patL]
theorem patL_permB {L : List Int} (hn : L.Nodup) (h8 : L.length ≤ 8) : permB (patL L) = true := by
  have hl := patL_length L
  refine perm_of (by omega) (fun x h1 h2 => ?_) (fun x y hx hy e => ?_)
  · rw [at1_pat h1 (by omega)]
    have := belowN_bound (at1_mem h1 (show x ≤ (L.length : Int) by omega))
    omega
  · rw [at1_pat hx.1 (by omega), at1_pat hy.1 (by omega)] at e
    have mx := at1_mem hx.1 (show x ≤ (L.length : Int) by omega)
    have my := at1_mem hy.1 (show y ≤ (L.length : Int) by omega)
    have hxy : at1 L x = at1 L y := by
      rcases Int.lt_trichotomy (at1 L x) (at1 L y) with a | a | a
      · have := belowN_lt mx a; omega
      · exact a
      · have := belowN_lt my a; omega
    obtain ⟨i, hi, e1, e2⟩ := at1_nat hx.1 (show x ≤ (L.length : Int) by omega)
    obtain ⟨j, hj, e3, e4⟩ := at1_nat hy.1 (show y ≤ (L.length : Int) by omega)
    rw [e2, e4] at hxy
    have := nodup_inj hn hi hj hxy
    omega
theorem pat_occ {p l : List Int} {k : Nat} (hp : permB p = true) (h : l ∈ ascI p.length k) : permB (patL (atL p l)) = true ∧ Occ p (patL (atL p l)) l := by
  obtain ⟨hk, ha⟩ := ascI_mem h
  have hn := atL_nodup (permB_true hp).2.2 ha
  have h8 := (permB_true hp).1
  have hl8 : l.length ≤ 8 := by
    obtain ⟨h1, h2, h3⟩ := ascI_iff.1 h
    have := nodup_sub_len l (nums p.length) (by rw [List.nodup_iff_pairwise_ne]; exact h2.imp fun h => by omega) fun x hx => nums_mem.2 (h3 x hx)
    rw [nums_length] at this
    omega
  have hpp := patL_permB hn (by rw [atL_length]; exact hl8)
  refine ⟨hpp, (occ_iff hp hpp).1 ?_⟩
  unfold occI
  rw [patL_length, atL_length, hk]
  exact List.mem_filter.2 ⟨h, decide_eq_true rfl⟩
theorem at1_cut {p : List Int} {i : Nat} {x : Int} (hi : i < p.length) (h1 : 1 ≤ x) (h2 : x ≤ (p.length : Int) - 1) : at1 (cutAt p i) x = at1 p (if x ≤ i then x else x + 1) := by
  have hc := cutAt_length p i hi
  obtain ⟨j, hj, e1, e2⟩ := at1_nat (p := cutAt p i) h1 (by omega)
  rw [e2]
  have hj' : j < (p.take i ++ p.drop (i + 1)).length := hj
  show (p.take i ++ p.drop (i + 1))[j] = _
  by_cases hlt : j < i
  · rw [List.getElem_append_left (by rw [List.length_take]; omega), List.getElem_take, if_pos (by omega), e1, at1_get (by omega)]
  · rw [List.getElem_append_right (by rw [List.length_take]; omega), List.getElem_drop, if_neg (by omega), e1, show (j : Int) + 1 + 1 = ((j + 1 : Nat) : Int) + 1 by omega, at1_get (by omega)]
    congr 1
    rw [List.length_take]
    omega
def cutPl (n i : Nat) : List Int := ofF (n - 1) fun x => if x ≤ i then x else x + 1
theorem atL_cut {p : List Int} {i : Nat} (hi : i < p.length) : atL p (cutPl p.length i) = cutAt p i := by
  have hc := cutAt_length p i hi
  have hl : (cutPl p.length i).length = p.length - 1 := ofF_length _ _
  refine at1_ext (by rw [atL_length]; omega) fun x h1 h2 => ?_
  rw [atL_length] at h2
  rw [at1_atL h1 h2, at1_cut hi h1 (by omega)]
  unfold cutPl
  rw [at1_ofF h1 (by omega)]
theorem cutPl_asc {n i : Nat} (hi : i < n) : cutPl n i ∈ ascI n (n - 1) := by
  rw [ascI_iff]
  have hl : (cutPl n i).length = n - 1 := ofF_length _ _
  refine ⟨hl, inc_pair.1 fun a b h1 h2 h3 => ?_, rng_mem.1 fun a h1 h2 => ?_⟩
  · unfold cutPl
    rw [at1_ofF h1 (by omega), at1_ofF (by omega) (by omega)]
    split <;> split <;> omega
  · unfold cutPl
    rw [at1_ofF h1 (by omega)]
    split <;> omega
/-- A permutation has the pattern that is left without a place. -/
theorem cut_occ {p : List Int} {i : Nat} (hp : permB p = true) (hi : i < p.length) : permB (patL (cutAt p i)) = true ∧ hasB p (patL (cutAt p i)) = true := by
  have h := pat_occ hp (cutPl_asc hi)
  rw [atL_cut hi] at h
  exact ⟨h.1, (has_iff hp h.1).2 ⟨_, h.2⟩⟩
/-- Are these places of the pattern? -/
def isoB (p q l : List Int) : Bool := permB p && permB q && joinTo (p.length + 1) l l.length && decide (patL (atL p l) = q)
theorem inc_join {n : Nat} {l : List Int} (h : l.Pairwise (· < ·)) (hr : ∀ x ∈ l, 1 ≤ x ∧ x ≤ n) : joinTo (n + 1) l l.length = true := by
  unfold joinTo
  rw [List.all_eq_true]
  intro j hj
  have hj := List.mem_range.1 hj
  unfold joinAt
  rw [List.getElem?_eq_getElem hj]
  simp only [Option.getD_some, decide_eq_true_eq]
  have := hr _ (List.getElem_mem hj)
  refine ⟨this.1, by omega, ?_⟩
  rcases Nat.eq_zero_or_pos j with h0 | h0
  · exact .inl h0
  · right
    rw [List.getElem?_eq_getElem (by omega)]
    exact List.pairwise_iff_getElem.1 h (j - 1) j (by omega) hj (by omega)
theorem join_facts {n : Nat} {l : List Int} (h : joinTo (n + 1) l l.length = true) : l.Pairwise (· < ·) ∧ (∀ x ∈ l, 1 ≤ x ∧ x ≤ n) ∧ l.length ≤ n := by
  unfold joinTo at h
  rw [List.all_eq_true] at h
  have hat : ∀ j (hj : j < l.length), 1 ≤ l[j] ∧ l[j] ≤ n ∧ (j = 0 ∨ l[j - 1]?.getD 0 < l[j]) := fun j hj => by
    have := h j (List.mem_range.2 hj)
    unfold joinAt at this
    rw [List.getElem?_eq_getElem hj] at this
    simp only [Option.getD_some, decide_eq_true_eq] at this
    omega
  have hp : l.Pairwise (· < ·) := by
    rw [List.pairwise_iff_getElem]
    intro i j hi hj hij
    induction j with
    | zero => omega
    | succ j ih =>
      have h1 := (hat (j + 1) hj).2.2
      rw [Nat.add_sub_cancel, List.getElem?_eq_getElem (show j < l.length by omega)] at h1
      simp only [Option.getD_some] at h1
      by_cases e : i = j
      · subst e; omega
      · have := ih (by omega) (by omega); omega
  have hr : ∀ x ∈ l, 1 ≤ x ∧ x ≤ n := fun x hx => by
    obtain ⟨j, hj, rfl⟩ := List.mem_iff_getElem.1 hx
    have := hat j hj
    exact ⟨this.1, this.2.1⟩
  refine ⟨hp, hr, ?_⟩
  have := nodup_sub_len l (nums n) (by rw [List.nodup_iff_pairwise_ne]; exact hp.imp fun h => by omega) fun x hx => nums_mem.2 (hr x hx)
  rwa [nums_length] at this
theorem occ_iso {p q l : List Int} (hp : permB p = true) (hq : permB q = true) (h : l ∈ occL p q) : isoB p q l = true := by
  rw [occ_eq hp hq] at h
  obtain ⟨h1, h2⟩ := List.mem_filter.1 h
  obtain ⟨_, h3, h4⟩ := ascI_iff.1 h1
  unfold isoB
  rw [hp, hq, inc_join h3 h4, h2]; rfl
theorem inc_ext {l k : List Int} (hl : l.Pairwise (· < ·)) (hk : k.Pairwise (· < ·)) (h : ∀ x, x ∈ l ↔ x ∈ k) : l = k := by
  induction l generalizing k with
  | nil =>
    cases k with
    | nil => rfl
    | cons b u => have := (h b).2 (by simp); cases this
  | cons a t ih =>
    cases k with
    | nil => have := (h a).1 (by simp); cases this
    | cons b u =>
      rw [List.pairwise_cons] at hl hk
      have hab : a = b := by
        rcases List.mem_cons.1 ((h a).1 (by simp)) with e | e
        · exact e
        · rcases List.mem_cons.1 ((h b).2 (by simp)) with e2 | e2
          · exact e2.symm
          · have := hk.1 a e
            have := hl.1 b e2
            omega
      subst hab
      rw [ih hl.2 hk.2 fun x => ?_]
      constructor
      · intro hx
        rcases List.mem_cons.1 ((h x).1 (by simp [hx])) with e | e
        · subst e; have := hl.1 x hx; omega
        · exact e
      · intro hx
        rcases List.mem_cons.1 ((h x).2 (by simp [hx])) with e | e
        · subst e; have := hk.1 x hx; omega
        · exact e
/-- The places whose bits are set. -/
def bitsL (n s : Nat) : List Int := ((List.range n).filter fun i => s.testBit i).map fun i : Nat => (i : Int) + 1
theorem bitsL_succ (n s : Nat) : bitsL (n + 1) s = bitsL n s ++ (if s.testBit n = true then [(n : Int) + 1] else []) := by
  unfold bitsL
  rw [List.range_succ, List.filter_append, List.map_append]
  by_cases h : s.testBit n = true <;> simp [h]
theorem bitsL_mem {n s : Nat} {x : Int} : x ∈ bitsL n s ↔ 1 ≤ x ∧ x ≤ n ∧ s.testBit (x - 1).toNat = true := by
  unfold bitsL
  rw [List.mem_map]
  constructor
  · rintro ⟨i, hi, rfl⟩
    obtain ⟨h1, h2⟩ := List.mem_filter.1 hi
    have := List.mem_range.1 h1
    refine ⟨by omega, by omega, ?_⟩
    rw [show ((i : Int) + 1 - 1).toNat = i by omega]; exact h2
  · rintro ⟨h1, h2, h3⟩
    exact ⟨(x - 1).toNat, List.mem_filter.2 ⟨List.mem_range.2 (by omega), h3⟩, by omega⟩
theorem bitsL_inc (n s : Nat) : (bitsL n s).Pairwise (· < ·) := by
  unfold bitsL
  rw [List.pairwise_map]
  exact (List.pairwise_lt_range.sublist List.filter_sublist).imp fun h => by omega
theorem bitsL_asc (n s : Nat) : bitsL n s ∈ ascI n (bitsL n s).length := ascI_iff.2 ⟨rfl, bitsL_inc n s, fun x hx => ⟨(bitsL_mem.1 hx).1, (bitsL_mem.1 hx).2.1⟩⟩
theorem bits_ex (f : Nat → Bool) : ∀ n : Nat, ∃ s, s < 2 ^ n ∧ ∀ i, i < n → s.testBit i = f i := by
  intro n
  induction n with
  | zero => exact ⟨0, by simp, fun i hi => by omega⟩
  | succ n ih =>
    obtain ⟨s, hs, h⟩ := ih
    by_cases hf : f n = true
    · refine ⟨2 ^ n + s, by rw [Nat.pow_succ]; omega, fun i hi => ?_⟩
      rcases Nat.lt_or_ge i n with hlt | hge
      · rw [Nat.testBit_two_pow_add_gt hlt]; exact h i hlt
      · obtain rfl : i = n := by omega
        rw [Nat.testBit_two_pow_add_eq, Nat.testBit_lt_two_pow hs, hf]; rfl
    · refine ⟨s, by rw [Nat.pow_succ]; omega, fun i hi => ?_⟩
      rcases Nat.lt_or_ge i n with hlt | hge
      · exact h i hlt
      · obtain rfl : i = n := by omega
        rw [Nat.testBit_lt_two_pow hs]
        simpa using hf
theorem asc_bits {n k : Nat} {l : List Int} (h : l ∈ ascI n k) : ∃ s, s < 2 ^ n ∧ bitsL n s = l := by
  obtain ⟨h1, h2, h3⟩ := ascI_iff.1 h
  obtain ⟨s, hs, hb⟩ := bits_ex (fun i => decide (((i : Int) + 1) ∈ l)) n
  refine ⟨s, hs, inc_ext (bitsL_inc n s) h2 fun x => ?_⟩
  rw [bitsL_mem]
  constructor
  · rintro ⟨a, b, c⟩
    rw [hb _ (by omega), decide_eq_true_eq, show (((x - 1).toNat : Int) + 1) = x by omega] at c
    exact c
  · intro hx
    have := h3 x hx
    refine ⟨this.1, this.2, ?_⟩
    rw [hb _ (by omega), decide_eq_true_eq, show (((x - 1).toNat : Int) + 1) = x by omega]
    exact hx
/-- The patterns of k places. -/
def patsM (p : List Int) (k : Nat) : List (List Int) := (ascI p.length k).map fun l => patL (atL p l)
def patsL (p : List Int) (k : Nat) : List (List Int) := ordL (patsM p k)
/-- What the reference has put from the first s sets. -/
def patsTo (p : List Int) (k s : Nat) : List (List Int) := ordL (((List.range s).filter fun t => decide ((bitsL p.length t).length = k)).map fun t => patL (atL p (bitsL p.length t)))
theorem patsTo_succ (p : List Int) (k s : Nat) : patsTo p k (s + 1) = if (bitsL p.length s).length = k then putL (patsTo p k s) (patL (atL p (bitsL p.length s))) else patsTo p k s := by
  unfold patsTo
  rw [List.range_succ, List.filter_append, List.map_append]
  by_cases h : (bitsL p.length s).length = k
  · rw [if_pos h]
    simp [h, ordL]
  · rw [if_neg h]
    simp [h]
theorem patsTo_all (p : List Int) (k : Nat) : patsTo p k (2 ^ p.length) = patsL p k := by
  unfold patsTo patsL patsM
  refine ordL_congr fun q => ?_
  rw [List.mem_map, List.mem_map]
  constructor
  · rintro ⟨t, ht, rfl⟩
    obtain ⟨_, h2⟩ := List.mem_filter.1 ht
    have h2 := of_decide_eq_true h2
    exact ⟨_, by rw [← h2]; exact bitsL_asc _ _, rfl⟩
  · rintro ⟨l, hl, rfl⟩
    obtain ⟨s, hs, rfl⟩ := asc_bits hl
    exact ⟨s, List.mem_filter.2 ⟨List.mem_range.2 hs, decide_eq_true (ascI_iff.1 hl).1⟩, rfl⟩
theorem pats_has {p q : List Int} {k : Nat} (hp : permB p = true) (h : q ∈ patsL p k) : permB q = true ∧ hasB p q = true := by
  unfold patsL patsM at h
  rw [ordL_mem] at h
  obtain ⟨l, hl, rfl⟩ := List.mem_map.1 h
  have := pat_occ hp hl
  exact ⟨this.1, (has_iff hp this.1).2 ⟨l, this.2⟩⟩
end Go.Proofs.YtodloeonlaljpaaGreatDoor

/- SymmetryBasis, program and reference. -/
namespace Go.Proofs.YtodloeonlaljpaaGreatDoor
set_option maxRecDepth 100000
open Go Go.RowKit

def symM (X : List (List Int)) (k : Nat) : List (List Int) := X.map fun p => symL p k
theorem symM_succ (X : List (List Int)) (k j : Nat) (h : j < X.length) : symM (X.take (j + 1)) k = symM (X.take j) k ++ [symL X[j] k] := by
  unfold symM; rw [List.take_succ_eq_append_getElem h, List.map_append]; rfl
def symB (X : List (List Int)) (k : Int) : Bool := basisB X && decide (0 ≤ k ∧ k ≤ 7)
def symG (X : List (List Int)) (k : Int) : List (List Int) := if symB X k = true then ordL (symM X k.toNat) else []
theorem symM_small {X : List (List Int)} (h : basisB X = true) (k : Nat) : ∀ q ∈ symM X k, q.length ≤ 8 := fun q hq => by
  obtain ⟨p, hp, rfl⟩ := List.mem_map.1 hq
  exact symL_len (permB_true (basis_perm h p hp)).1 k
theorem rows_size {rs : List Row} (h : ∀ r ∈ rs, r.xs.length ≤ 8) : sizeR rs ≤ rs.length * 8 := by
  induction rs with
  | nil => simp [sizeR]
  | cons a t ih =>
    have h1 := h a (by simp)
    have h2 := ih (fun q hq => h q (by simp [hq]))
    simp only [sizeR, List.map_cons, List.sum_cons, List.length_cons, Nat.add_mul, Nat.one_mul] at h2 ⊢
    omega
theorem lists_size {X : List (List Int)} (h : ∀ q ∈ X, q.length ≤ 8) : sizeX X ≤ X.length * 8 := by
  induction X with
  | nil => simp [sizeX]
  | cons a t ih =>
    have h1 := h a (by simp)
    have h2 := ih (fun q hq => h q (by simp [hq]))
    simp only [sizeX, List.map_cons, List.sum_cons, List.length_cons, Nat.add_mul, Nat.one_mul] at h2 ⊢
    omega
theorem symG_le (X : List (List Int)) (k : Int) : (symG X k).length + sizeX (symG X k) ≤ 1048576 := by
  unfold symG
  split
  · rename_i h
    unfold symB at h
    rw [Bool.and_eq_true] at h
    have h1 := ordL_size (symM X k.toNat)
    have h2 := lists_size (symM_small h.1 k.toNat)
    have h3 := basis_len h.1
    have h4 : (symM X k.toNat).length = X.length := by simp [symM]
    omega
  · simp [sizeX]
end Go.Proofs.YtodloeonlaljpaaGreatDoor

/- InversePerm of the reference. -/
namespace Go.Proofs.YtodloeonlaljpaaGreatDoor
set_option maxRecDepth 100000
open Go Go.RowKit

def invG1 (p : List Int) : List Int := if permB p = true then invL p else []
end Go.Proofs.YtodloeonlaljpaaGreatDoor

/- The lower permutations: lowers, LowersOf, l7Without. -/
namespace Go.Proofs.YtodloeonlaljpaaGreatDoor
set_option maxRecDepth 100000
open Go Go.RowKit

def lowM (p : List Int) (k : Nat) : List (List Int) := (List.range k).map fun i => patL (cutAt p i)
theorem lowM_succ (p : List Int) (k : Nat) : lowM p (k + 1) = lowM p k ++ [patL (cutAt p k)] := by simp [lowM, List.range_succ]
theorem lowM_length (p : List Int) (k : Nat) : (lowM p k).length = k := by simp [lowM]
/-- The different patterns without a place, in order. -/
def lowL (p : List Int) : List (List Int) := ordL (lowM p p.length)
theorem lowM_len {p : List Int} {k : Nat} (hk : k ≤ p.length) : ∀ q ∈ lowM p k, q.length = p.length - 1 := fun q hq => by
  unfold lowM at hq
  obtain ⟨i, hi, rfl⟩ := List.mem_map.1 hq
  rw [patL_length, cutAt_length p i (by have := List.mem_range.1 hi; omega)]
theorem lowL_len {p : List Int} : ∀ q ∈ lowL p, q.length = p.length - 1 := fun q hq => lowM_len (Nat.le_refl _) q ((ordL_mem _ q).1 hq)
theorem lowL_length (p : List Int) : (lowL p).length ≤ p.length := by
  have h := ordL_len (lowM p p.length)
  rw [lowM_length] at h
  exact h
theorem sizeX_of {X : List (List Int)} {m : Nat} (h : ∀ s ∈ X, s.length ≤ m) : sizeX X ≤ X.length * m := by
  induction X with
  | nil => simp [sizeX]
  | cons a t ih =>
    have h1 := h a (by simp)
    have h2 := ih (fun s hs => h s (by simp [hs]))
    simp only [sizeX, List.map_cons, List.sum_cons, List.length_cons, Nat.add_mul, Nat.one_mul] at h2 ⊢
    omega
set_option maxHeartbeats 2000000 in
theorem lowers_impl (A : Option Addr) (c : Nat) (p : List Int) (w : World) (h : In w A c p) (h8 : p.length ≤ 8) :
    Calls Tryz.prog 87 #[.slice A p.length c] w (RetL w (lowL p)) := by
  obtain ⟨j0, hj, hy0, hy1, hy2⟩ := info_parts infoL
  have hlit := Own.lit (lo := w.heap.size) w (Nat.le_refl _)
  have hb0 := (Below.refl w.heap.size w).alloc (Nat.le_refl _) (.cells #[] 27)
  go_enter Tryz.func87, Tryz.ntmps87
  go_wp2_with fail
  go_loopw [3, 8] (fun v i wr => ∃ (k : Nat) (A1 : Option Addr) (c1 : Nat) (ds : List Row), k ≤ p.length ∧ i = .int .i64 k ∧ v = .slice A1 ds.length c1 ∧ Hid (ds.map Row.xs = lowM p k) ∧ Own wr w.heap.size wr.heap.size ds [⟨A1, c1, ds.map Row.v⟩] ∧ Below w.heap.size w wr) (fun _ i _ => p.length - (intOf i).toNat)
  case atStart => exact ⟨0, _, _, [], Nat.zero_le _, rfl, rfl, Lib.hid rfl, hlit, hb0⟩
  case round =>
    clear hlit hb0
    obtain ⟨k, A1, c1, ds, hk, rfl, rfl, HX, hO, hb⟩ := hrel
    have hdl : ds.length = k := by have := congrArg List.length HX.out; rw [List.length_map, lowM_length] at this; exact this
    have hsz := hb.size
    rcases Nat.lt_or_ge k p.length with hlt | hge
    · have HC := Lib.hid (without_impl A c k p wr (h.next hb) hlt)
      have HD := Lib.hid hdl
      have hkd : ds.length ≤ 8 := by omega
      clear hdl
      go_wp2_with fail
      (with_reducible refine HC.out.mono ?_)
      rintro e w1 ⟨A3, c3, rfl, _, _, own3, hbB⟩
      have hszB := hbB.size
      have hO2 := (hO.below hbB).add (r := ⟨A3, c3, patL (cutAt p k)⟩) own3 hszB hsz
      have ho2 := hO2.outN (n := ds.length) (by simp)
      clear own3 hO
      go_wp2_with (at_builtin; refine wpList_append_own _ rfl _ _ 24 rfl (w.heap.size) 27 j0 (.slice none 0 0) 1 24 Tryz.underlying24 hj hy0 hy1 hy2 rfl (by decide) _ _ _ rfl (World.ownsRow.alloc ho2 _) ⟨w1.heap.size, 0, none⟩ 1 1 [Value.slice A3 (patL (cutAt p k)).length c3] rfl rfl (cell_one_at _ _ (by simp)) (by intro u hu; simp at hu; subst hu; rfl) (by unfold maxLen; omega) (by omega) (by simp; omega) ?_; intro v9 w9 hown9 hgrow9 _)
      obtain ⟨A5, c5, rfl, hO3, hg3⟩ := hO2.grow (Nat.le_refl _) (by simp) hown9 hgrow9
      have hbw := (hb.trans (hbB.mono hsz)).grown hg3 (by omega) (fun g hg => (hO2.olim (by simp) g hg).1)
      have K := Lib.hid (And.intro hO3 hbw)
      clear hO3 hbw hown9 hgrow9 hg3 hO2 ho2 hbB hb
      go_wp2_with fail
      go_roundw
      case rel => exact ⟨k + 1, A5, c5, ds ++ [⟨A3, c3, patL (cutAt p k)⟩], by omega, by go_num, by rw [List.length_append]; rfl, Lib.hid (by rw [lowM_succ, List.map_append, HX.out]; rfl), by simpa [Row.v] using K.out.1, K.out.2⟩
      case measure => simp [intOf]; omega
    · obtain rfl : k = p.length := by omega
      have hin : InL wr A1 c1 ds := hO.read.toL (by
        have h1 := sizeX_of (X := ds.map Row.xs) (m := 8) (fun s hs => by rw [HX.out] at hs; have := lowM_len (Nat.le_refl _) s hs; omega)
        rw [sizeR_eq]
        rw [List.length_map] at h1
        omega) (Nat.le_refl _)
      have HC := Lib.hid (ordered_impl A1 c1 ds wr hin)
      clear hdl
      go_wp2_with fail
      (with_reducible refine HC.out.mono ?_)
      rintro e w1 ⟨A4, c4, qs, rfl, hX4, hO4, hb4⟩
      go_wp2_with fail
      go_ret
      exact ⟨A4, c4, qs, rfl, by rw [hX4, HX.out]; rfl, hO4.wider hsz (Nat.le_refl _), hb.trans (hb4.mono hsz)⟩
set_option maxHeartbeats 2000000 in
theorem l7Without_any (A : Option Addr) (c i : Nat) (p : List Int) (w : World) (h : In w A c p) (hi' : i < p.length) :
    Calls Tryz.prog 69 #[.slice A p.length c, .int .i64 i] w (Ret (Value.int .i64) 3 w (patL (cutAt p i))) := by
  obtain ⟨i0, hi, hz0, hz1, hz2⟩ := info_parts infoI
  have hpl := h.len
  have hcap := h.cap
  have hsl1 := fun w => run_slice_h (P := Tryz.prog) w 27 A p.length c Tryz.underlying27 .i64 i (by omega) (by omega)
  have hsl2 := fun w => run_cut (P := Tryz.prog) (t := 27) Tryz.underlying27 sizeI A p.length c (i + 1) ((i : Int) + 1) (by omega) (by omega) w
  have e1 : IntKind.i64.wrap ((i : Int) + 1) = (i : Int) + 1 := IntWalk.i64_in _ (by omega)
  have q0 : (0 : Int) ≤ (i : Int) + 1 := by omega
  have q1 : (i : Int) + 1 ≤ (p.length : Int) := by omega
  have q2 : (i : Int) ≤ (p.length : Int) := by omega
  have own0 : (w.drew.alloc (.cells #[] 3)).ownsRow w.heap.size 3 1 (.slice (some ⟨w.heap.size, 0, none⟩) 0 0) 0 [] := World.ownsRow_lit w.drew #[] 0 (Nat.le_refl _) (by unfold maxLen; omega) rfl
  have hb0 : Below w.heap.size w (w.drew.alloc (.cells #[] 3)) := (below_dr (Below.refl _ _) (Dr.refl _).drew).alloc (Nat.le_refl _) _
  have ht1 : (p.take i).length = i := by simp; omega
  have hd1 : (p.drop (i + 1)).length = p.length - (i + 1) := List.length_drop
  have hcl := cutAt_length p i hi'
  have HR := Lib.hid (h.next hb0).rd
  have HT1 := Lib.hid ht1
  have HD1 := Lib.hid hd1
  have HI := Lib.hid h.rd
  clear ht1 hd1
  go_enter Tryz.func69, Tryz.ntmps69
  go_wp2_with fail
  go_region_held3 (fun _ => True) (trivial) ((first
    | (refine step_append_rd _ (by rfl) _ _ _ (by rfl) w.heap.size 3 i0 (.int .i64 0) 8 Tryz.underlying27 hi hz0 hz1 hz2 (by rfl) (Value.slice (some ⟨w.heap.size, 0, none⟩) 0 0) 0 _ (by rfl) own0 _ A c i (p.take i) (by rfl) HT1.out (HR.out.take i) (fun _ => rfl) (by unfold maxLen; omega) (by omega) (by simp) ?_
       intro v1 w1 hown1 hgrow1
       simp only [Nat.zero_add, List.nil_append] at hown1
       obtain ⟨A1, c1, rfl, _, _⟩ := own_shape hown1
       have hb1 : Below w.heap.size w w1 := hb0.grown hgrow1 (by simp) (fun g hg => (own0.lt g hg).1)
       have hsz1 : w.heap.size ≤ w1.heap.size := hb1.size
       have HR2 := Lib.hid ((HI.out.next hb1).cut (k := i + 1) (c := c) (by omega) hcap))
    | (refine step_append_rd _ (by rfl) _ _ _ (by rfl) w.heap.size 3 i0 (.int .i64 0) 8 Tryz.underlying27 hi hz0 hz1 hz2 (by rfl) (Value.slice A1 i c1) i _ (by rfl) hown1 _ (cutA A c (i + 1)) (c - (i + 1)) (p.length - (i + 1)) (p.drop (i + 1)) (by rfl) HD1.out HR2.out (fun _ => rfl) (by unfold maxLen; omega) (by omega) (by first | omega | (simp; omega)) ?_
       intro v2 w2 hown2 hgrow2
       obtain ⟨A2, c2, rfl, _, _⟩ := own_shape hown2
       have hb2 : Below w.heap.size w w2 := hb1.grown hgrow2 (by first | omega | (simp; omega)) (fun g hg => (hown1.lt g hg).1)
       have hrd2 : Rd (Value.int .i64) w2 w2.heap.size A2 (cutAt p i) := Rd.of_own (e := 3) (base := w.heap.size) (c := c2) (by
         have h1 : (cutAt p i).map (Value.int .i64) = (p.take i).map (Value.int .i64) ++ (p.drop (i + 1)).map (Value.int .i64) := by unfold cutAt; rw [List.map_append]
         rw [h1, hcl, show p.length - 1 = i + (p.length - (i + 1)) by omega]
         exact hown2))
    | (go_at_call 99
       refine Calls.mono (pattern_spec A2 c2 _ (cutAt p i) _ (by rw [hcl]; omega) (by omega) hrd2) ?_
       rintro e w3 ⟨T3, t3, rfl, k1, k2, o3, b3⟩)
    | fail))
  all_goals
    go_wp2_with fail
    go_ret
    exact ⟨T3, t3, rfl, k1, k2, own_mono o3 hb2.size, hb2.trans (b3.mono hb2.size)⟩
set_option maxHeartbeats 2000000 in
theorem lowersOf_spec (A : Option Addr) (c : Nat) (p : List Int) (w : World) (h : In w A c p) (hP : permB p = true) :
    Calls Tryz.prog 26 #[.slice A p.length c] w (RetL w (lowL p)) := by
  have h8 := (permB_true hP).1
  have HP := Lib.hid hP
  have hlit := Own.lit (lo := w.heap.size) w (Nat.le_refl _)
  have hb0 := (Below.refl w.heap.size w).alloc (Nat.le_refl _) (.cells #[] 27)
  clear hP
  go_enter Tryz.func26, Tryz.ntmps26
  go_wp2_with fail
  go_loopw [3, 4] (fun v i wr => ∃ (k : Nat) (A1 : Option Addr) (c1 : Nat) (ds : List Row), k ≤ p.length ∧ i = .int .i64 k ∧ v = .slice A1 ds.length c1 ∧ Hid (ds.map Row.xs = ordL (lowM p k)) ∧ Own wr w.heap.size wr.heap.size ds [⟨A1, c1, ds.map Row.v⟩] ∧ Below w.heap.size w wr) (fun _ i _ => p.length - (intOf i).toNat)
  case atStart => exact ⟨0, _, _, [], Nat.zero_le _, rfl, rfl, Lib.hid rfl, hlit, hb0⟩
  case round =>
    clear hlit hb0
    obtain ⟨k, A1, c1, ds, hk, rfl, rfl, HX, hO, hb⟩ := hrel
    have hsz := hb.size
    have hdl : ds.length ≤ 8 := by
      have h1 := congrArg List.length HX.out
      have h2 := ordL_len (lowM p k)
      rw [lowM_length] at h2
      rw [List.length_map] at h1
      omega
    have HD8 := Lib.hid (show ∀ r ∈ ds, r.xs.length ≤ 1048576 from fun r hr => by
      have h1 := map_memX HX.out hr
      rw [ordL_mem] at h1
      have := lowM_len hk _ h1
      omega)
    rcases Nat.lt_or_ge k p.length with hlt | hge
    · have HT := Lib.hid (show ordL (lowM p (k + 1)) = putL (ds.map Row.xs) (patL (cutAt p k)) by rw [HX.out, lowM_succ]; unfold ordL; rw [List.foldl_append]; rfl)
      have hin := h.next hb
      have hlt' : (k : Int) < (p.length : Int) := by omega
      have HO := Lib.hid hO
      clear hO
      go_wp2_with fail
      (with_reducible refine (isPerm_sb A c p wr true hin HP.out).mono ?_)
      rintro e w1 ⟨rfl, hd1⟩
      have hb1 := below_dr hb hd1
      have HC := Lib.hid (l7Without_any A c k p w1 (h.next hb1) hlt)
      have hO1 := HO.out.dr hd1
      go_wp2_with fail
      (with_reducible refine HC.out.mono ?_)
      rintro e w2 ⟨A3, c3, rfl, q1, q2, own3, hbB⟩
      have hszB := hbB.size
      have hs1 := hb1.size
      have hb2 := hb1.trans (hbB.mono hs1)
      have hO2 := ((hO1.below (show Below w1.heap.size w1 w2 from hbB)).wider (Nat.le_refl _) (show wr.heap.size ≤ w2.heap.size from by rw [hd1.heap] at hszB; exact hszB))
      have hin3 : In w2 A3 c3 (patL (cutAt p k)) := In.own own3 (by rw [patL_length, cutAt_length p k hlt]; omega)
      have ct := Lib.hid (l3Put_any A1 A3 c1 c3 w.heap.size ds (patL (cutAt p k)) w2 hO2 hb2.size hin3 (by omega) HD8.out)
      have hol := hO2.olim (n := ds.length) (by simp)
      have hs2 := hb2.size
      clear own3 hO1 hin hbB
      go_wp2_with fail
      (with_reducible refine ct.out.mono ?_)
      rintro e w3 ⟨A4, c4, ps, rfl, hX4, hO4, hg4⟩
      have hb4 := hb2.grown hg4 hs2 (fun g hg => (hol g (by rw [← hg]; exact ownBlock_len _ _ _ _ _)).1)
      have K := Lib.hid (And.intro hX4 (And.intro hO4 hb4))
      clear hX4 hO4 hb4 hg4 hol
      go_wp2_with fail
      go_roundw
      case rel => exact ⟨k + 1, A4, c4, ps, by omega, by go_num, rfl, Lib.hid (by rw [HT.out, K.out.1]), K.out.2.1, K.out.2.2⟩
      case measure => simp [intOf]; omega
    · obtain rfl : k = p.length := by omega
      go_wp2_with fail
      go_ret
      exact ⟨A1, c1, ds, rfl, HX.out, hO, hb⟩
end Go.Proofs.YtodloeonlaljpaaGreatDoor
