/- Several texts in one, each with its own head: Y2, Y3, Y4, OC2, X3, OC3, V6. No program of ours. -/
import Derived.Test.YthipikllgpnlhaaShelfF
import Derived.Shelf.SlSortCmp.NoneTotal
import Derived.Lib.OwnBridge
import Derived.Test.YthipikllgpnlhaaMMeshes10
/- slices.SortFunc of a list of rows; ordered. -/
namespace Go.Proofs.Ythipikllgpnlhaa
set_option maxRecDepth 100000
open Go Go.RowKit

theorem before_ntrans {x y z : List Int} (h1 : before x y = false) (h2 : before y z = false) : before x z = false := by
  cases h : before x z with
  | false => rfl
  | true =>
    cases h3 : before y x with
    | true => rw [before_trans h3 h] at h2; cases h2
    | false =>
      have e := before_total h1 h3
      subst e
      rw [h] at h2; cases h2
theorem permIn_list {α : Type} [Inhabited α] {d d' : Array α} (h : Sort.PermIn 0 d.size d d') : d'.toList.Perm d.toList := by
  have h1 := h.2.2
  have e1 : d'.extract 0 d.size = d' := by rw [← h.1]; exact Array.extract_size
  have e2 : d.extract 0 d.size = d := Array.extract_size
  rw [e1, e2] at h1
  exact h1
theorem sortedIn_list {α : Type} [Inhabited α] {lt : α → α → Bool} {d : Array α} {n : Nat} (hn : d.size = n) (h : Sort.SortedIn lt 0 n d) : d.toList.Pairwise fun x y => lt y x = false := by
  rw [List.pairwise_iff_getElem]
  intro i j hi hj hij
  rw [Array.length_toList] at hi hj
  have := h i j (Nat.zero_le _) hij (by omega)
  rw [getElem!_pos d j hj, getElem!_pos d i hi] at this
  simpa using this
/-- The row's cells in a world that the sort passes through. -/
theorem rd_sortWorld {α : Type} [Inhabited α] {enc : α → Value} {w : World} {blk m : Nat} {dk : Array α} {os : Array Obj} {A : Option Addr} {xs : List Int} (h : Rd (Value.int .i64) w w.heap.size A xs) (hne : ∀ b off, A = some ⟨b, off, none⟩ → 0 < xs.length → b ≠ blk) :
    Rd (Value.int .i64) (sortWorld enc w blk 0 m dk os) (sortWorld enc w blk 0 m dk os).heap.size A xs := fun h0 => by
  obtain ⟨b, off, rfl, hb, hc⟩ := h h0
  have hn := hne b off rfl h0
  have hs : (Sort.putRow enc (Sort.ahead w m) blk 0 dk).heap.size = w.heap.size := by simp [Sort.putRow, Sort.mapBlock, Sort.ahead]
  refine ⟨b, off, rfl, ?_, fun j hj => ?_⟩
  · show b < (Sort.grow (Sort.putRow enc (Sort.ahead w m) blk 0 dk) os).heap.size
    simp only [Sort.grow, Array.size_append, hs]
    omega
  · have h1 : (Sort.putRow enc (Sort.ahead w m) blk 0 dk).cell? ⟨b, off + j, none⟩ = some (.int .i64 xs[j]) :=
      (Sort.cell?_putRow_other enc (Sort.ahead w m) blk 0 dk ⟨b, off + j, none⟩ (Or.inl hn)).trans (hc j hj)
    exact cell_grown (show b < _ by rw [hs]; exact hb) h1 0 os
theorem sort_none (p : Option Addr) (c : Nat) (fv : Value) (w : World) : Calls Try.prog 81 #[.slice p 0 c, fv] w fun e w' => e = .returned (.tuple #[]) ∧ w' = w :=
  AnyF.slices_SortFunc_none { Try.sortF with } p c fv w
theorem grow_below (W : World) (os : Array Obj) : Below W.heap.size W (Sort.grow W os) := ⟨rfl, rfl, rfl, by simp [Sort.grow], fun k hk => by simp [Sort.grow, Array.getElem?_append, hk]⟩
theorem putRow_grown {α : Type} [Inhabited α] (enc : α → Value) (w : World) (q g : Nat) (d : Array α) : w.grownBy (Sort.putRow enc (Sort.ahead w q) g 0 d) (some g) :=
  ⟨rfl, rfl, rfl, by simp [Sort.putRow, Sort.mapBlock, Sort.ahead], fun k _ hne => by
    have hk : g ≠ k := fun e => hne (by rw [e])
    simp [Sort.putRow, Sort.mapBlock, Sort.ahead, Array.getElem?_modify, hk]⟩
set_option maxHeartbeats 1000000 in
theorem sort_any (A : Option Addr) (c lo : Nat) (rs : List Row) (w : World) (F : Nat) (cf : List Int → List Int → Int) (hO : Own w lo w.heap.size rs [⟨A, c, rs.map Row.v⟩]) (hn : rs.length ≤ 1048576)
    (hF : ∀ args w, (callFunc F args).run Try.prog w = .ok (.enter F args) w)
    (hcf : ∀ x ∈ rs, ∀ y ∈ rs, decide (cf x.xs y.xs < 0) = before x.xs y.xs)
    (hcmp : ∀ (W : World) (x y : Row), x ∈ rs → y ∈ rs → Rd (Value.int .i64) W W.heap.size x.A x.xs → Rd (Value.int .i64) W W.heap.size y.A y.xs → Calls Try.prog F #[x.v, y.v] W fun e w' => e = .returned (.int .i64 (cf x.xs y.xs)) ∧ ∃ q os', w' = Sort.grow (W.drewN q) os') :
    Calls Try.prog 81 #[.slice A rs.length c, .func (.func F) #[] #[]] w fun e w' => e = .returned (.tuple #[]) ∧ ∃ rs' : List Row, rs'.Perm rs ∧ (rs'.map Row.xs).Pairwise (fun x y => before y x = false) ∧ Own w' lo w'.heap.size rs' [⟨A, c, rs'.map Row.v⟩] ∧ w.grownBy w' (Value.slice A 0 0).ownBlock := by
  rcases Nat.eq_zero_or_pos rs.length with h0 | h0
  · have hr : rs = [] := List.eq_nil_of_length_eq_zero h0
    subst hr
    refine (sort_none A c _ w).mono ?_
    rintro e w' ⟨rfl, rfl⟩
    exact ⟨rfl, [], List.Perm.refl _, List.Pairwise.nil, hO, World.grownBy.refl _ _⟩
  obtain ⟨g, hgA, hglo, hglt⟩ : ∃ g, A = some ⟨g, 0, none⟩ ∧ lo ≤ g ∧ g < w.heap.size := by
    obtain ⟨g, cap, hv, h1, h3⟩ := hO.out.form (by rw [List.length_map]; omega)
    injection hv with hv _ _
    exact ⟨g, hv, h1, h3⟩
  subst hgA
  let α := {r : Row // r ∈ rs}
  haveI : Inhabited α := ⟨⟨rs[0], List.getElem_mem h0⟩⟩
  let enc : α → Value := fun r => r.1.v
  have hz : (rs.attach : List α).map enc = rs.map Row.v := by
    show rs.attach.map (fun r => Row.v r.1) = _
    rw [show (fun r : {r : Row // r ∈ rs} => Row.v r.1) = Row.v ∘ Subtype.val from rfl, ← List.map_map, List.attach_map_subtype_val]
  have hown : w.ownsRow lo 24 1 (.slice (some ⟨g, 0, none⟩) rs.length c) rs.length ((rs.attach : List α).map enc) := by
    rw [hz]; exact hO.outN (by simp)
  obtain ⟨g', cap', hv', _, _, _, _, _, hH⟩ := Lib.holds_of_ownsRow hown (by simp)
  injection hv' with hv1 _ _
  injection hv1 with hv1
  injection hv1 with hv1 _ _
  subst hv1
  let cfa : α → α → Int := fun a b => cf a.1.xs b.1.xs
  have hlt : ∀ a b : α, ltOf cfa a b = before a.1.xs b.1.xs := fun a b => hcf a.1 a.2 b.1 b.2
  have hS : Sort.SWO (ltOf cfa) := ⟨fun x => by rw [hlt]; exact before_irrefl _, fun x y z h1 h2 => by rw [hlt] at *; exact before_trans h1 h2, fun x y z h1 h2 => by rw [hlt] at *; exact before_ntrans h1 h2⟩
  have hrd : ∀ (r : Row), r ∈ rs → ∀ (m : Nat) (os : Array Obj) (dk : Array α), Rd (Value.int .i64) (sortWorld enc w g 0 m dk os) (sortWorld enc w g 0 m dk os).heap.size r.A r.xs := fun r hr m os dk =>
    rd_sortWorld (hO.read.rd r hr) (fun b off he _ hbg => by
      subst hbg
      exact own_ne hO hr (List.mem_singleton.2 rfl) b (by show (Value.slice r.A _ _).ownBlock = _; rw [he]; rfl) rfl)
  have hC : CmpLays1 Try.prog F #[] enc cfa g 0 (rs.attach : List α).toArray.size w := fun m os dk _ x y =>
    hcmp (sortWorld enc w g 0 m dk os) x.1 y.1 x.2 y.2 (hrd x.1 x.2 m os dk) (hrd y.1 y.2 m os dk)
  have hsz : (rs.attach : List α).toArray.size = rs.length := by simp
  have h := Any.slices_SortFunc Try.sortF enc (fun _ => rfl) cfa hS F #[] g 0 c (rs.attach : List α).toArray w hF hC hH hglt (by rw [hsz]; omega)
  rw [hsz] at h
  refine Calls.mono h ?_
  rintro e w' ⟨rfl, d', n, os, hp, hs, rfl⟩
  have hd' : d'.size = rs.length := by
    have := hp.1
    rw [← hsz]; exact this
  have hp' : Sort.PermIn 0 (rs.attach : List α).toArray.size (rs.attach : List α).toArray d' := by rw [hsz]; exact hp
  have hpl := permIn_list hp'
  have hperm : (d'.toList.map Subtype.val).Perm rs := by
    have h1 := hpl.map Subtype.val
    have e : ((rs.attach : List α).toArray.toList).map Subtype.val = rs := by simp
    rwa [e] at h1
  have hsl := sortedIn_list hd' hs
  refine ⟨rfl, d'.toList.map Subtype.val, hperm, ?_, ?_, ?_⟩
  · rw [List.map_map, List.pairwise_map]
    exact hsl.imp fun {a b} hab => by rw [hlt] at hab; exact hab
  · have hg1 := putRow_grown enc w n g d'
    have hbg : Below (Sort.putRow enc (Sort.ahead w n) g 0 d').heap.size (Sort.putRow enc (Sort.ahead w n) g 0 d') (sortWorld enc w g 0 n d' os) := grow_below _ os
    have hrows := (Own.kept hO (Nat.le_refl _) (show (rs.map Row.v).length = rs.length by simp) (show w.grownBy _ (Value.slice (some ⟨g, 0, none⟩) rs.length c).ownBlock from hg1)).below hbg
    have hout := Lib.ownsRow_putRow (q := n) (k := rs.length) (ys := d'.toList) hown (by simpa using hd') (Nat.le_refl _)
    rw [List.take_of_length_le (by simp [hd'])] at hout
    have hout2 := own_below hout hbg
    have he : d'.toList.map enc = (d'.toList.map Subtype.val).map Row.v := by rw [List.map_map]; rfl
    refine ((hrows.perm hperm.symm).wider (Nat.le_refl _) hbg.size).with_ (A := some ⟨g, 0, none⟩) (c := c) ?_ (Nat.le_refl _)
    rw [← he, List.length_map, Array.length_toList, hd']
    exact hout2
  · exact grown_trans (putRow_grown enc w n g d') (below_grown (grow_below _ os))
end Go.Proofs.Ythipikllgpnlhaa

/- OrderPerms of the reference; MakeBasis, program and reference. -/
namespace Go.Proofs.Ythipikllgpnlhaa
set_option maxRecDepth 100000
open Go Go.RowKit

/-- A call's result of two: a list of rows of its own, and a truth value. -/
def RetLb (w : World) (X : List (List Int)) (b : Bool) (e : Ending) (w' : World) : Prop :=
  ∃ A c rs, e = .returned (.tuple #[.slice A rs.length c, .bool b]) ∧ rs.map Row.xs = X ∧ Own w' w.heap.size w'.heap.size rs [⟨A, c, rs.map Row.v⟩] ∧ Below w.heap.size w w'
/-- The lists in which none that was kept before occurs. -/
def sieve (L : List (List Int)) : List (List Int) := L.foldl (fun acc p => if avoidB acc p = true then acc ++ [p] else acc) []
theorem sieve_take (L : List (List Int)) (k : Nat) (h : k < L.length) : sieve (L.take (k + 1)) = if avoidB (sieve (L.take k)) L[k] = true then sieve (L.take k) ++ [L[k]] else sieve (L.take k) := by
  unfold sieve
  rw [List.take_succ_eq_append_getElem h, List.foldl_append]
  rfl
theorem sieve_fold (L acc : List (List Int)) : ∃ u, L.foldl (fun acc p => if avoidB acc p = true then acc ++ [p] else acc) acc = acc ++ u := by
  induction L generalizing acc with
  | nil => exact ⟨[], by simp⟩
  | cons a t ih =>
    rw [List.foldl_cons]
    by_cases h : avoidB acc a = true
    · rw [if_pos h]
      obtain ⟨u, hu⟩ := ih (acc ++ [a])
      exact ⟨a :: u, by rw [hu]; simp⟩
    · rw [if_neg h]
      exact ih acc
theorem sieve_sub (L : List (List Int)) : ∀ q ∈ sieve L, q ∈ L := by
  have : ∀ (L acc : List (List Int)), ∀ q ∈ L.foldl (fun acc p => if avoidB acc p = true then acc ++ [p] else acc) acc, q ∈ acc ∨ q ∈ L := by
    intro L
    induction L with
    | nil => intro acc q hq; exact .inl hq
    | cons a t ih =>
      intro acc q hq
      rw [List.foldl_cons] at hq
      rcases ih _ q hq with h | h
      · split at h
        · rcases List.mem_append.1 h with h | h
          · exact .inl h
          · rw [List.mem_singleton.1 h]; exact .inr (by simp)
        · exact .inl h
      · exact .inr (by simp [h])
  intro q hq
  rcases this L [] q hq with h | h
  · simp at h
  · exact h
def mkB (X : List (List Int)) : Bool := allPermB X && basisB (sieve (ordL X))
def mkG (X : List (List Int)) : List (List Int) := if mkB X = true then sieve (ordL X) else []
theorem mk_empty {X : List (List Int)} (h : [] ∈ X) : basisB (sieve (ordL X)) = false := by
  have h1 := (ordL_mem X []).2 h
  have hs := ordL_srt X
  match hO : ordL X with
  | [] => rw [hO] at h1; simp at h1
  | a :: t =>
    rw [hO] at h1 hs
    have ha : a = [] := by
      rcases List.mem_cons.1 h1 with e | h1
      · exact e.symm
      · have := (List.pairwise_cons.1 hs).1 _ h1
        unfold before at this
        split at this
        · rename_i hl
          exact List.eq_nil_of_length_eq_zero hl
        · simp at this
    subst ha
    obtain ⟨u, hu⟩ := sieve_fold t [[]]
    have e : sieve ([] :: t) = [[]] ++ u := hu
    rw [e]
    unfold basisB
    rw [Bool.and_eq_false_iff]
    right
    exact basTo_false (k := 0) (by simp) rfl
theorem mkB_basis {X : List (List Int)} (h : mkB X = true) : basisB (mkG X) = true := by
  unfold mkG; rw [if_pos h]
  unfold mkB at h; rw [Bool.and_eq_true] at h; exact h.2
theorem basis_size {X : List (List Int)} (h : basisB X = true) : X.length + sizeX X ≤ 1048576 := by
  have h1 := basis_len h
  have h2 : sizeX X ≤ X.length * 8 := by
    have hp := basis_perm h
    clear h h1
    induction X with
    | nil => simp [sizeX]
    | cons a t ih =>
      have h1 := (permB_true (hp a (by simp))).1
      have h2 := ih (fun q hq => hp q (by simp [hq]))
      simp only [sizeX, List.map_cons, List.sum_cons, List.length_cons, Nat.add_mul, Nat.one_mul] at h2 ⊢
      omega
  omega
theorem mkG_le (X : List (List Int)) : (mkG X).length + sizeX (mkG X) ≤ 1048576 := by
  by_cases h : mkB X = true
  · exact basis_size (mkB_basis h)
  · unfold mkG; rw [if_neg h]; simp [sizeX]
theorem sizeR_sub {rs rs' : List Row} (h : rs'.Sublist rs) : rs'.length + sizeR rs' ≤ rs.length + sizeR rs := by
  induction h with
  | slnil => exact Nat.le_refl _
  | cons a _ ih => simp only [sizeR, List.map_cons, List.sum_cons, List.length_cons] at ih ⊢; omega
  | cons_cons a _ ih => simp only [sizeR, List.map_cons, List.sum_cons, List.length_cons] at ih ⊢; omega
theorem sizeX_append (X Y : List (List Int)) : sizeX (X ++ Y) = sizeX X + sizeX Y := by simp [sizeX]
theorem putL_size (X : List (List Int)) (p : List Int) : (putL X p).length + sizeX (putL X p) ≤ X.length + sizeX X + 1 + p.length := by
  unfold putL
  split
  · omega
  · have h1 : sizeX X = sizeX (X.take (putAt X p X.length)) + sizeX (X.drop (putAt X p X.length)) := by rw [← sizeX_append, List.take_append_drop]
    have h2 : X.length = (X.take (putAt X p X.length)).length + (X.drop (putAt X p X.length)).length := by rw [← List.length_append, List.take_append_drop]
    rw [sizeX_append, List.length_append]
    have h3 : sizeX (p :: X.drop (putAt X p X.length)) = p.length + sizeX (X.drop (putAt X p X.length)) := by simp [sizeX]
    rw [h3, List.length_cons]
    omega
theorem ordL_size (X : List (List Int)) : (ordL X).length + sizeX (ordL X) ≤ X.length + sizeX X := by
  have : ∀ (X Y : List (List Int)), (X.foldl putL Y).length + sizeX (X.foldl putL Y) ≤ Y.length + sizeX Y + (X.length + sizeX X) := by
    intro X
    induction X with
    | nil => intro Y; simp [sizeX]
    | cons a t ih =>
      intro Y
      have h1 := ih (putL Y a)
      have h2 := putL_size Y a
      have h3 : sizeX (a :: t) = a.length + sizeX t := by simp [sizeX]
      rw [List.foldl_cons, List.length_cons, h3]
      omega
  have := this X []
  simpa [ordL, sizeX] using this
/-- The rows that are kept. -/
def sieveR (rs : List Row) : Nat → List Row
  | 0 => []
  | k + 1 => match rs[k]? with
    | some r => if avoidB ((sieveR rs k).map Row.xs) r.xs = true then sieveR rs k ++ [r] else sieveR rs k
    | none => sieveR rs k
theorem sieveR_succ (rs : List Row) (k : Nat) (h : k < rs.length) : sieveR rs (k + 1) = if avoidB ((sieveR rs k).map Row.xs) rs[k].xs = true then sieveR rs k ++ [rs[k]] else sieveR rs k := by
  rw [sieveR, List.getElem?_eq_getElem h]
theorem sieveR_sub (rs : List Row) (k : Nat) (h : k ≤ rs.length) : (sieveR rs k).Sublist (rs.take k) := by
  induction k with
  | zero => exact List.Sublist.refl _
  | succ k ih =>
    rw [sieveR_succ rs k (by omega), List.take_succ_eq_append_getElem (by omega)]
    split
    · exact (ih (by omega)).append (List.Sublist.refl _)
    · exact (ih (by omega)).trans (List.sublist_append_left _ _)
theorem sieveR_map (rs : List Row) (k : Nat) (h : k ≤ rs.length) : (sieveR rs k).map Row.xs = sieve ((rs.map Row.xs).take k) := by
  induction k with
  | zero => rfl
  | succ k ih =>
    have ih := ih (by omega)
    have hk : (rs.map Row.xs)[k]'(by rw [List.length_map]; omega) = rs[k].xs := by simp
    rw [sieveR_succ rs k (by omega), sieve_take _ k (by rw [List.length_map]; omega), ih, hk]
    split
    · rw [List.map_append, ih]; rfl
    · exact ih
theorem sieveR_all (rs : List Row) : (sieveR rs rs.length).map Row.xs = sieve (rs.map Row.xs) := by
  rw [sieveR_map rs rs.length (Nat.le_refl _), List.take_of_length_le (by simp)]
end Go.Proofs.Ythipikllgpnlhaa

/- Symmetries of permutations: inverse, complement, symmetry; SymmetryBasis. -/
namespace Go.Proofs.Ythipikllgpnlhaa
set_option maxRecDepth 100000
open Go Go.RowKit

/-- The inverse, as far as the first k numbers tell it. -/
def invTo (p : List Int) : Nat → List Int
  | 0 => List.replicate p.length 0
  | k + 1 => (invTo p k).set ((p[k]?.getD 0) - 1).toNat ((k : Int) + 1)
def invL (p : List Int) : List Int := invTo p p.length
theorem invTo_length (p : List Int) (k : Nat) : (invTo p k).length = p.length := by
  induction k with
  | zero => simp [invTo]
  | succ k ih => simp [invTo, ih]
theorem invTo_bound (p : List Int) (k : Nat) (hk : k ≤ p.length) : ∀ x ∈ invTo p k, 0 ≤ x ∧ x ≤ p.length := by
  induction k with
  | zero =>
    intro x hx
    rw [invTo] at hx
    rw [List.eq_of_mem_replicate hx]
    omega
  | succ k ih =>
    intro x hx
    rw [invTo] at hx
    rcases List.mem_or_eq_of_mem_set hx with h | h
    · exact ih (by omega) x h
    · omega
def complL (p : List Int) : List Int := p.map fun v => (p.length : Int) + 1 - v
def complTo (p : List Int) (k : Nat) : List Int := (p.take k).map fun v => (p.length : Int) + 1 - v
theorem complTo_succ (p : List Int) (k : Nat) (h : k < p.length) : complTo p (k + 1) = complTo p k ++ [(p.length : Int) + 1 - p[k]] := by
  unfold complTo; rw [List.take_succ_eq_append_getElem h, List.map_append]; rfl
theorem complTo_all (p : List Int) : complTo p p.length = complL p := by unfold complTo complL; rw [List.take_length]
theorem complTo_len (p : List Int) (k : Nat) (h : k ≤ p.length) : (complTo p k).length = k := by unfold complTo; simp; omega
def revL (p : List Int) : List Int := p.reverse
/-- The symmetry number k. -/
def symL (p : List Int) : Nat → List Int
  | 0 => p
  | 1 => invL p
  | 2 => revL p
  | 3 => revL (invL p)
  | 4 => complL p
  | 5 => complL (invL p)
  | 6 => complL (revL p)
  | _ => complL (revL (invL p))
theorem small_perm {p : List Int} (h : permB p = true) : p.length ≤ 8 ∧ ∀ x ∈ p, 0 ≤ x ∧ x ≤ 8 := by
  have h8 := (permB_true h).1
  exact ⟨h8, fun x hx => by have := (permB_true h).2.1 x hx; omega⟩
theorem small_inv {p : List Int} (h : p.length ≤ 8) : (invL p).length ≤ 8 ∧ ∀ x ∈ invL p, 0 ≤ x ∧ x ≤ 8 :=
  ⟨by unfold invL; rw [invTo_length]; exact h, fun x hx => by have := invTo_bound p p.length (Nat.le_refl _) x hx; omega⟩
theorem small_rev {p : List Int} (h : p.length ≤ 8 ∧ ∀ x ∈ p, 0 ≤ x ∧ x ≤ 8) : (revL p).length ≤ 8 ∧ ∀ x ∈ revL p, 0 ≤ x ∧ x ≤ 8 :=
  ⟨by unfold revL; rw [List.length_reverse]; exact h.1, fun x hx => h.2 x (List.mem_reverse.1 hx)⟩
theorem symL_len {p : List Int} (h : p.length ≤ 8) (k : Nat) : (symL p k).length ≤ 8 := by
  have hi : (invL p).length = p.length := invTo_length p p.length
  unfold symL
  split <;> simp [complL, revL, hi, h]
set_option maxHeartbeats 2000000 in
theorem inverse_impl (A : Option Addr) (c : Nat) (p : List Int) (w : World) (h : In w A c p) (hP : permB p = true) :
    Calls Try.prog 80 #[.slice A p.length c] w (Ret (Value.int .i64) 3 w (invL p)) := by
  obtain ⟨i0, hi, hz0, hz1, hz2⟩ := info_parts infoI
  have h8 := (permB_true hP).1
  have HR := Lib.hid (permB_true hP).2.1
  clear hP
  go_enter Try.func80, Try.ntmps80
  go_wp2_with (at_make; refine wpList_make_full _ rfl _ _ 24 rfl (w.heap.size) 3 i0 (.int .i64 0) 1 Try.underlying24 hi hz0 hz1 .i64 .i64 _ _ (p.length) rfl rfl (by omega) (by omega) (by rw [hz2]; omega) (by unfold maxLen; omega) (by omega) ?_; intro w1 hown1 hgrow1)
  have hown0 : w1.ownsRow w.heap.size 3 1 (.slice (some ⟨w.heap.size, 0, none⟩) p.length p.length) p.length ((invTo p 0).map (Value.int .i64)) := made_zeros hown1
  have hb1 := below_none hgrow1
  clear hown1 hgrow1
  go_loopw [11] (fun i wr => ∃ k : Nat, k ≤ p.length ∧ i = .int .i64 k ∧ wr.ownsRow w.heap.size 3 1 (.slice (some ⟨w.heap.size, 0, none⟩) p.length p.length) p.length ((invTo p k).map (Value.int .i64)) ∧ Below w.heap.size w wr) (fun i _ => p.length - (intOf i).toNat)
  case atStart => exact ⟨0, Nat.zero_le _, rfl, hown0, hb1⟩
  case round =>
    clear hown0 hb1
    obtain ⟨k, hk, rfl, hown, hb⟩ := hrel
    rcases Nat.lt_or_ge k p.length with hlt | hge
    · obtain ⟨b, off, rfl, _, hc⟩ := (h.next hb).rd (by omega)
      have c1 := hc k hlt
      have hv := HR.out p[k] (List.getElem_mem hlt)
      obtain ⟨u, hu⟩ : ∃ u : Nat, p[k] = (u : Int) + 1 := ⟨(p[k] - 1).toNat, by omega⟩
      have hul : u < p.length := by omega
      have HS := Lib.hid (show invTo p (k + 1) = (invTo p k).set u ((k : Int) + 1) by
        rw [invTo, List.getElem?_eq_getElem hlt, Option.getD_some, hu, show ((u : Int) + 1 - 1).toNat = u by omega])
      rw [hu] at c1
      have hput := own_put hown u (by rw [invTo_length]; exact hul) ((k : Int) + 1)
      obtain ⟨cz, fz, hown2⟩ := hput
      have hb2 := hb.setCell (p := ⟨w.heap.size, u, none⟩) (Nat.le_refl _) (.int .i64 ((k : Int) + 1))
      have K := Lib.hid (And.intro hown2 hb2)
      have e1 : IntKind.i64.wrap ((u : Int) + 1 - 1) = (u : Int) := by rw [Int.add_sub_cancel]; exact IntWalk.i64_in _ (by omega)
      have e2 : (u : Int) < (p.length : Int) := by omega
      clear hc hown2 hb2 hu hv
      go_wp2_with fail
      go_roundw
      case rel => exact ⟨k + 1, by omega, by go_num, by rw [HS.out]; exact K.out.1, K.out.2⟩
      case measure => simp [intOf]; omega
    · obtain rfl : k = p.length := by omega
      have hll : (invL p).length = p.length := invTo_length p p.length
      have HLL := Lib.hid hll
      clear hll
      go_wp2_with fail
      go_ret
      exact ⟨some ⟨w.heap.size, 0, none⟩, p.length, by rw [HLL.out]; rfl, by rw [HLL.out]; exact Nat.le_refl _, by unfold maxLen; omega, by rw [HLL.out]; exact hown, hb⟩
set_option maxHeartbeats 2000000 in
theorem l2Inverse_any (A : Option Addr) (c : Nat) (p : List Int) (w : World) (h : In w A c p) (hP : permB p = true) :
    Calls Try.prog 83 #[.slice A p.length c] w (Ret (Value.int .i64) 3 w (invL p)) := by
  obtain ⟨i0, hi, hz0, hz1, hz2⟩ := info_parts infoI
  have h8 := (permB_true hP).1
  have HR := Lib.hid (permB_true hP).2.1
  clear hP
  go_enter Try.func83, Try.ntmps83
  go_wp2_with (at_make; refine wpList_make_full _ rfl _ _ 24 rfl (w.heap.size) 3 i0 (.int .i64 0) 1 Try.underlying24 hi hz0 hz1 .i64 .i64 _ _ (p.length) rfl rfl (by omega) (by omega) (by rw [hz2]; omega) (by unfold maxLen; omega) (by omega) ?_; intro w1 hown1 hgrow1)
  have hown0 : w1.ownsRow w.heap.size 3 1 (.slice (some ⟨w.heap.size, 0, none⟩) p.length p.length) p.length ((invTo p 0).map (Value.int .i64)) := made_zeros hown1
  have hb1 := below_none hgrow1
  clear hown1 hgrow1
  go_loopw [4] (fun i wr => ∃ k : Nat, k ≤ p.length ∧ i = .int .i64 k ∧ wr.ownsRow w.heap.size 3 1 (.slice (some ⟨w.heap.size, 0, none⟩) p.length p.length) p.length ((invTo p k).map (Value.int .i64)) ∧ Below w.heap.size w wr) (fun i _ => p.length - (intOf i).toNat)
  case atStart => exact ⟨0, Nat.zero_le _, rfl, hown0, hb1⟩
  case round =>
    clear hown0 hb1
    obtain ⟨k, hk, rfl, hown, hb⟩ := hrel
    rcases Nat.lt_or_ge k p.length with hlt | hge
    · obtain ⟨b, off, rfl, _, hc⟩ := (h.next hb).rd (by omega)
      have c1 := hc k hlt
      have hv := HR.out p[k] (List.getElem_mem hlt)
      obtain ⟨u, hu⟩ : ∃ u : Nat, p[k] = (u : Int) + 1 := ⟨(p[k] - 1).toNat, by omega⟩
      have hul : u < p.length := by omega
      have HS := Lib.hid (show invTo p (k + 1) = (invTo p k).set u ((k : Int) + 1) by
        rw [invTo, List.getElem?_eq_getElem hlt, Option.getD_some, hu, show ((u : Int) + 1 - 1).toNat = u by omega])
      rw [hu] at c1
      have hput := own_put hown u (by rw [invTo_length]; exact hul) ((k : Int) + 1)
      obtain ⟨cz, fz, hown2⟩ := hput
      have hb2 := hb.setCell (p := ⟨w.heap.size, u, none⟩) (Nat.le_refl _) (.int .i64 ((k : Int) + 1))
      have K := Lib.hid (And.intro hown2 hb2)
      have e1 : IntKind.i64.wrap ((u : Int) + 1 - 1) = (u : Int) := by rw [Int.add_sub_cancel]; exact IntWalk.i64_in _ (by omega)
      have e2 : (u : Int) < (p.length : Int) := by omega
      clear hc hown2 hb2 hu hv
      go_wp2_with fail
      go_roundw
      case rel => exact ⟨k + 1, by omega, by go_num, by rw [HS.out]; exact K.out.1, K.out.2⟩
      case measure => simp [intOf]; omega
    · obtain rfl : k = p.length := by omega
      have hll : (invL p).length = p.length := invTo_length p p.length
      have HLL := Lib.hid hll
      clear hll
      go_wp2_with fail
      go_ret
      exact ⟨some ⟨w.heap.size, 0, none⟩, p.length, by rw [HLL.out]; rfl, by rw [HLL.out]; exact Nat.le_refl _, by unfold maxLen; omega, by rw [HLL.out]; exact hown, hb⟩
end Go.Proofs.Ythipikllgpnlhaa

/- Plain maths of occurrences: the inverse and the complement. -/
namespace Go.Proofs.Ythipikllgpnlhaa
set_option maxRecDepth 100000

theorem invTo_get {p : List Int} (hp : permB p = true) : ∀ (k : Nat), k ≤ p.length → ∀ i : Int, 1 ≤ i → i ≤ k → at1 (invTo p k) (at1 p i) = i := by
  intro k
  induction k with
  | zero => intro _ i h1 h2; omega
  | succ k ih =>
    intro hk i h1 h2
    have hr := perm_rng hp h1 (by omega)
    have hk1 := perm_rng hp (x := (k : Int) + 1) (by omega) (by omega)
    have e1 : p[k]?.getD 0 = at1 p ((k : Int) + 1) := by rw [at1_get (by omega), List.getElem?_eq_getElem (by omega)]; rfl
    have hl := invTo_length p k
    rw [invTo, e1]
    unfold at1
    by_cases hik : i = (k : Int) + 1
    · subst hik
      rw [show (p[((k : Int) + 1 - 1).toNat]?.getD 0) = at1 p ((k : Int) + 1) from rfl]
      rw [List.getElem?_set_self (by omega)]; rfl
    · have hne : at1 p i ≠ at1 p ((k : Int) + 1) := fun e => hik (perm_inj hp ⟨h1, by omega⟩ ⟨by omega, by omega⟩ e)
      rw [show (p[(i - 1).toNat]?.getD 0) = at1 p i from rfl]
      rw [show (p[((k : Int) + 1 - 1).toNat]?.getD 0) = at1 p ((k : Int) + 1) from rfl]
      rw [List.getElem?_set_ne (by omega)]
      exact ih (by omega) i h1 (by omega)
theorem inv_at {p : List Int} (hp : permB p = true) {i : Int} (h1 : 1 ≤ i) (h2 : i ≤ p.length) : at1 (invL p) (at1 p i) = i := invTo_get hp p.length (Nat.le_refl _) i h1 h2
theorem invL_length (p : List Int) : (invL p).length = p.length := invTo_length p p.length
theorem at_inv {p : List Int} (hp : permB p = true) {v : Int} (h1 : 1 ≤ v) (h2 : v ≤ p.length) : at1 p (at1 (invL p) v) = v ∧ 1 ≤ at1 (invL p) v ∧ at1 (invL p) v ≤ p.length := by
  obtain ⟨x, hx1, hx2, rfl⟩ := perm_onto hp h1 h2
  rw [inv_at hp hx1 hx2]
  exact ⟨rfl, hx1, hx2⟩
theorem perm_inv {p : List Int} (hp : permB p = true) : permB (invL p) = true := by
  have h8 := (permB_true hp).1
  have hl := invL_length p
  refine perm_of (by omega) (fun x h1 h2 => ?_) (fun x y hx hy e => ?_)
  · have := (at_inv hp h1 (by omega)).2
    omega
  · have h1 := (at_inv hp hx.1 (by omega)).1
    have h2 := (at_inv hp hy.1 (by omega)).1
    rw [e, h2] at h1
    exact h1.symm
theorem inv_inv {p : List Int} (hp : permB p = true) : invL (invL p) = p := by
  have hl := invL_length p
  have hl2 := invL_length (invL p)
  refine at1_ext (by omega) fun x h1 h2 => ?_
  have hr := perm_rng hp h1 (by omega)
  have h3 := inv_at (perm_inv hp) (i := at1 p x) hr.1 (by omega)
  rw [inv_at hp h1 (by omega)] at h3
  exact h3
/-- The numbers at the places, in their order: the places of the inverse. -/
def invPl (p q l : List Int) : List Int := ofF q.length fun j => at1 p (at1 l (at1 (invL q) j))
theorem occ_inverse {p q l : List Int} (hp : permB p = true) (hq : permB q = true) (h : Occ p q l) : Occ (invL p) (invL q) (invPl p q l) := by
  have hl := h.len
  have hip := invL_length p
  have hiq := invL_length q
  have hb : ∀ j : Int, 1 ≤ j ∧ j ≤ q.length → 1 ≤ at1 (invL q) j ∧ at1 (invL q) j ≤ q.length := fun j hj => (at_inv hq hj.1 hj.2).2
  have hr : ∀ j : Int, 1 ≤ j ∧ j ≤ q.length → 1 ≤ at1 l (at1 (invL q) j) ∧ at1 l (at1 (invL q) j) ≤ p.length := fun j hj => h.rng _ (hb j hj).1 (by have := (hb j hj).2; omega)
  refine ⟨by rw [invPl, ofF_length, hiq], fun i j h1 h2 h3 => ?_, fun i h1 h2 => ?_, fun i j hi hj => ?_⟩
  · rw [invPl, ofF_length] at h3
    unfold invPl
    rw [at1_ofF h1 (by omega), at1_ofF (by omega) h3]
    rw [← h.ord _ _ (hb i ⟨h1, by omega⟩) (hb j ⟨by omega, h3⟩), (at_inv hq h1 (by omega)).1, (at_inv hq (by omega) h3).1]
    exact h2
  · rw [invPl, ofF_length] at h2
    unfold invPl
    rw [at1_ofF h1 h2, hip]
    have a := hr i ⟨h1, h2⟩
    exact perm_rng hp a.1 a.2
  · rw [hiq] at hi hj
    unfold invPl
    rw [at1_ofF hi.1 hi.2, at1_ofF hj.1 hj.2]
    have a := hr i hi
    have b := hr j hj
    rw [inv_at hp a.1 a.2, inv_at hp b.1 b.2, h.inc.lt (by have := hb i hi; omega) (by have := hb j hj; omega)]
theorem invPl_at {p q l : List Int} (hq : permB q = true) {i : Int} (h1 : 1 ≤ i) (h2 : i ≤ q.length) : at1 (invPl p q l) (at1 q i) = at1 p (at1 l i) := by
  have hr := perm_rng hq h1 h2
  unfold invPl
  rw [at1_ofF hr.1 hr.2, inv_at hq h1 h2]
theorem invPl_inj {p q l k : List Int} (hp : permB p = true) (hq : permB q = true) (hl : Occ p q l) (hk : Occ p q k) (e : invPl p q l = invPl p q k) : l = k := by
  have h1 := hl.len
  have h2 := hk.len
  refine at1_ext (by omega) fun x hx1 hx2 => ?_
  have : at1 (invPl p q l) (at1 q x) = at1 (invPl p q k) (at1 q x) := by rw [e]
  rw [invPl_at hq hx1 (by omega), invPl_at hq hx1 (by omega)] at this
  exact perm_inj hp (hl.rng x hx1 hx2) (hk.rng x hx1 (by omega)) this
theorem occ_count_inverse {p q : List Int} (hp : permB p = true) (hq : permB q = true) : (occI (invL p) (invL q)).length = (occI p q).length := by
  have hp' := perm_inv hp
  have hq' := perm_inv hq
  refine len_of_inj (occI_nodup _ _) (occI_nodup _ _) (invPl (invL p) (invL q)) (invPl p q) (fun l hl => ?_) (fun l hl k hk e => ?_) (fun l hl => ?_) (fun l hl k hk e => ?_)
  · have h := occ_inverse hp' hq' ((occ_iff hp' hq').1 hl)
    rw [inv_inv hp, inv_inv hq] at h
    exact (occ_iff hp hq).2 h
  · exact invPl_inj hp' hq' ((occ_iff hp' hq').1 hl) ((occ_iff hp' hq').1 hk) e
  · exact (occ_iff hp' hq').2 (occ_inverse hp hq ((occ_iff hp hq).1 hl))
  · exact invPl_inj hp hq ((occ_iff hp hq).1 hl) ((occ_iff hp hq).1 hk) e

/-! The complement. -/
theorem complL_length (p : List Int) : (complL p).length = p.length := by simp [complL]
theorem at1_compl {p : List Int} {x : Int} (h1 : 1 ≤ x) (h2 : x ≤ p.length) : at1 (complL p) x = (p.length : Int) + 1 - at1 p x := by
  obtain ⟨i, h, e1, e2⟩ := at1_nat (p := p) h1 h2
  have h' : i < (complL p).length := by rw [complL_length]; exact h
  rw [e2, e1, at1_get h']
  simp [complL]
theorem perm_compl {p : List Int} (hp : permB p = true) : permB (complL p) = true := by
  have h8 := (permB_true hp).1
  have hl := complL_length p
  refine perm_of (by omega) (fun x h1 h2 => ?_) (fun x y hx hy e => ?_)
  · rw [at1_compl h1 (by omega)]
    have := perm_rng hp h1 (by omega)
    omega
  · rw [at1_compl hx.1 (by omega), at1_compl hy.1 (by omega)] at e
    exact perm_inj hp ⟨hx.1, by omega⟩ ⟨hy.1, by omega⟩ (by omega)
theorem occ_compl {p q l : List Int} (h : Occ p q l) : Occ (complL p) (complL q) l := by
  have hl := h.len
  refine ⟨by rw [complL_length]; exact hl, h.inc, by rw [complL_length]; exact h.rng, fun i j hi hj => ?_⟩
  rw [complL_length] at hi hj
  have a := h.rng i hi.1 (by omega)
  have b := h.rng j hj.1 (by omega)
  rw [at1_compl hi.1 hi.2, at1_compl hj.1 hj.2, at1_compl a.1 a.2, at1_compl b.1 b.2]
  have := h.ord j i hj hi
  omega
theorem compl_compl {p : List Int} : complL (complL p) = p := by
  refine at1_ext (by rw [complL_length, complL_length]) fun x h1 h2 => ?_
  rw [complL_length, complL_length] at h2
  rw [at1_compl h1 (by rw [complL_length]; exact h2), at1_compl h1 h2, complL_length]
  omega

/-! All symmetries. -/
theorem perm_sym {p : List Int} (hp : permB p = true) (k : Nat) : permB (symL p k) = true := by
  unfold symL
  split
  all_goals first | exact hp | exact perm_inv hp | exact perm_reverse hp | exact perm_reverse (perm_inv hp) | exact perm_compl hp | exact perm_compl (perm_inv hp) | exact perm_compl (perm_reverse hp) | exact perm_compl (perm_reverse (perm_inv hp))
theorem has_reverse {p q : List Int} (hp : permB p = true) (hq : permB q = true) : hasB p.reverse q.reverse = hasB p q := by
  rw [Bool.eq_iff_iff, has_iff hp hq, has_iff (perm_reverse hp) (perm_reverse hq)]
  constructor
  · rintro ⟨l, h⟩
    have := occ_reverse h
    rw [List.reverse_reverse, List.reverse_reverse] at this
    exact ⟨_, this⟩
  · rintro ⟨l, h⟩; exact ⟨_, occ_reverse h⟩
theorem has_inverse {p q : List Int} (hp : permB p = true) (hq : permB q = true) : hasB (invL p) (invL q) = hasB p q := by
  rw [Bool.eq_iff_iff, has_iff hp hq, has_iff (perm_inv hp) (perm_inv hq)]
  constructor
  · rintro ⟨l, h⟩
    have := occ_inverse (perm_inv hp) (perm_inv hq) h
    rw [inv_inv hp, inv_inv hq] at this
    exact ⟨_, this⟩
  · rintro ⟨l, h⟩; exact ⟨_, occ_inverse hp hq h⟩
theorem has_compl {p q : List Int} (hp : permB p = true) (hq : permB q = true) : hasB (complL p) (complL q) = hasB p q := by
  rw [Bool.eq_iff_iff, has_iff hp hq, has_iff (perm_compl hp) (perm_compl hq)]
  constructor
  · rintro ⟨l, h⟩
    have := occ_compl h
    rw [compl_compl, compl_compl] at this
    exact ⟨_, this⟩
  · rintro ⟨l, h⟩; exact ⟨_, occ_compl h⟩
theorem has_sym {p q : List Int} (hp : permB p = true) (hq : permB q = true) (k : Nat) : hasB (symL p k) (symL q k) = hasB p q := by
  match k with
  | 0 => rfl
  | 1 => exact has_inverse hp hq
  | 2 => exact has_reverse hp hq
  | 3 => exact (has_reverse (perm_inv hp) (perm_inv hq)).trans (has_inverse hp hq)
  | 4 => exact has_compl hp hq
  | 5 => exact (has_compl (perm_inv hp) (perm_inv hq)).trans (has_inverse hp hq)
  | 6 => exact (has_compl (perm_reverse hp) (perm_reverse hq)).trans (has_reverse hp hq)
  | _ + 7 => exact (has_compl (perm_reverse (perm_inv hp)) (perm_reverse (perm_inv hq))).trans ((has_reverse (perm_inv hp) (perm_inv hq)).trans (has_inverse hp hq))
end Go.Proofs.Ythipikllgpnlhaa

/- InverseMesh, program and reference. -/
namespace Go.Proofs.Ythipikllgpnlhaa
set_option maxRecDepth 100000
open Go Go.RowKit

def swp (s : List Int) : List Int := [s[1]?.getD 0, s[0]?.getD 0]
theorem swp_len (s : List Int) : (swp s).length = 2 := rfl
def swL (X : List (List Int)) : List (List Int) := X.map swp
theorem swL_len (X : List (List Int)) : (swL X).length = X.length := by simp [swL]
theorem swL_two {X : List (List Int)} : ∀ s ∈ swL X, s.length = 2 := fun s hs => by
  obtain ⟨a, _, rfl⟩ := List.mem_map.1 hs
  rfl
/-- The first j boxes, swapped and put in order one after the other. -/
def imTo (X : List (List Int)) (j : Nat) : List (List Int) := ordL (swL (X.take j))
theorem imTo_succ (X : List (List Int)) (j : Nat) (h : j < X.length) : imTo X (j + 1) = putL (imTo X j) (swp X[j]) := by
  unfold imTo swL ordL
  rw [List.take_succ_eq_append_getElem h, List.map_append, List.foldl_append]; rfl
theorem imTo_len (X : List (List Int)) (j : Nat) (h : j ≤ X.length) : (imTo X j).length ≤ j := by
  have h1 := ordL_len (swL (X.take j))
  rw [swL_len, List.length_take] at h1
  unfold imTo
  omega
theorem imTo_two (X : List (List Int)) (j : Nat) : ∀ s ∈ imTo X j, s.length = 2 := fun s hs => by
  unfold imTo at hs
  exact swL_two s ((ordL_mem _ s).1 hs)
theorem swp_inj {x y : List Int} (hx : x.length = 2) (hy : y.length = 2) (h : swp x = swp y) : x = y := by
  match x, y, hx, hy with
  | [a, b], [c, d], _, _ =>
    simp only [swp, List.getElem?_cons_succ, List.getElem?_cons_zero, Option.getD_some, List.cons.injEq, and_true] at h
    rw [h.1, h.2]
theorem swL_nodup {xs : List Int} {X : List (List Int)} (h : meshB xs X = true) : (swL X).Pairwise (· ≠ ·) := by
  unfold swL
  rw [List.pairwise_map]
  refine List.Pairwise.imp_of_mem ?_ (mesh_srt h)
  intro a b ha hb hab he
  have e := swp_inj (mesh_two h a ha) (mesh_two h b hb) he
  subst e
  rw [before_irrefl] at hab
  cases hab
/-- Sorted, without repeats: put in order one after the other. -/
theorem sorted_ord {S X : List (List Int)} (hs : S.Pairwise fun x y => before y x = false) (hp : S.Perm X) (hn : X.Pairwise (· ≠ ·)) : S = ordL X := by
  refine srt_ext ?_ (ordL_srt X) fun q => by rw [ordL_mem]; exact hp.mem_iff
  have hn' : S.Pairwise (· ≠ ·) := (hp.symm.pairwise_iff (fun {a b} h => Ne.symm h)).1 hn
  unfold Srt
  refine (hs.and hn').imp fun {a b} h => ?_
  cases hb : before a b with
  | true => rfl
  | false => exact absurd (before_total hb h.1) h.2
theorem before_two {x y : List Int} (hx : x.length = 2) (hy : y.length = 2) : decide (cmpL x y < 0) = before x y := by
  unfold before
  rw [if_pos (hx.trans hy.symm)]
def imG1 (xs : List Int) (X : List (List Int)) : List Int := if meshB xs X = true then invL xs else []
def imG2 (xs : List Int) (X : List (List Int)) : List (List Int) := if meshB xs X = true then imTo X X.length else []
theorem imG_le (xs : List Int) (X : List (List Int)) : (imG1 xs X).length + ((imG2 xs X).length + sizeX (imG2 xs X)) ≤ 1048576 := by
  unfold imG1 imG2
  by_cases h : meshB xs X = true
  · rw [if_pos h, if_pos h]
    have h1 := mesh_len h
    have h2 := (mesh_perm h).2
    have h3 := imTo_len X X.length (Nat.le_refl _)
    rw [sizeX_two fun s hs => imTo_two X X.length s hs]
    have h4 : (invL xs).length = xs.length := by unfold invL; exact invTo_length _ _
    omega
  · rw [if_neg h, if_neg h]
    simp [sizeX]
theorem call_cmpS (args : Array Value) (w : World) : (callFunc 82 args).run Try.prog w = .ok (.enter 82 args) w := by kernel_rfl
theorem grow_nil (w : World) : w = Sort.grow (w.drewN 0) #[] := by
  show w = ({ w with heap := w.heap ++ #[] } : World)
  simp
set_option maxHeartbeats 2000000 in
theorem inverseMesh_impl (A B : Option Addr) (c k : Nat) (xs : List Int) (rs : List Row) (w : World) (h : InM w A c xs B k rs) :
    Calls Try.prog 13 #[.agg #[.slice A xs.length c, .slice B rs.length k]] w (RetMb w (imG1 xs (rs.map Row.xs)) (imG2 xs (rs.map Row.xs)) (meshB xs (rs.map Row.xs))) := by
  obtain ⟨j0, hj, hy0, hy1, hy2⟩ := info_parts infoL
  have hlx := h.1.len
  have hly := h.2.len
  go_enter Try.func13, Try.ntmps13
  have hb0 : Below w.heap.size w ((w.alloc (Obj.cells #[Value.slice A xs.length c, Value.slice B rs.length k] 27)).alloc (Obj.cells #[Value.slice none 0 0, Value.slice none 0 0] 27)) := ((Below.refl _ _).alloc (Nat.le_refl _) _).alloc (by simp) _
  go_wp2_with fail
  have oa := obj_alloc (obj_new w (Obj.cells #[Value.slice A xs.length c, Value.slice B rs.length k] 27)) (Obj.cells #[Value.slice none 0 0, Value.slice none 0 0] 27)
  have ob := obj_new (w.alloc (Obj.cells #[Value.slice A xs.length c, Value.slice B rs.length k] 27)) (Obj.cells #[Value.slice none 0 0, Value.slice none 0 0] 27)
  have hzw : ((w.alloc (Obj.cells #[Value.slice A xs.length c, Value.slice B rs.length k] 27)).alloc (Obj.cells #[Value.slice none 0 0, Value.slice none 0 0] 27)).heap.size = w.heap.size + 1 + 1 := by simp
  simp only [World.size_alloc] at ob
  generalize ((w.alloc (Obj.cells #[Value.slice A xs.length c, Value.slice B rs.length k] 27)).alloc (Obj.cells #[Value.slice none 0 0, Value.slice none 0 0] 27)) = w0 at hb0 oa ob hzw ⊢
  by_cases hn : meshB xs (rs.map Row.xs) = true
  · have HN := Lib.hid hn
    have H1 := Lib.hid (show imG1 xs (rs.map Row.xs) = invL xs by unfold imG1; rw [if_pos hn])
    have H2 := Lib.hid (show imG2 xs (rs.map Row.xs) = ordL (swL (rs.map Row.xs)) by unfold imG2 imTo; rw [if_pos hn, List.take_length])
    have hP := (mesh_perm hn).1
    have hrl : rs.length ≤ 25 := by simpa using mesh_len hn
    have HT := Lib.hid (rows_two hn)
    have HD := Lib.hid (swL_nodup hn)
    (with_reducible refine (mesh_ib A B c k xs rs w0 true (h.next hb0) HN.out).mono ?_)
    rintro e wn ⟨rfl, hb1⟩
    have oa := obj_below oa hb1 (obj_lt oa)
    have ob := obj_below ob hb1 (obj_lt ob)
    have hb := hb0.trans (hb1.mono hb0.size)
    have hsz1 := hb1.size
    have f0 : wn.cell? ⟨w.heap.size, 0, none⟩ = some (Value.slice A xs.length c) := (obj_cell oa).trans rfl
    have f1 : wn.cell? ⟨w.heap.size, 1, none⟩ = some (Value.slice B rs.length k) := (obj_cell oa).trans rfl
    have HI := Lib.hid (inverse_impl A c xs wn (h.1.next hb) hP)
    clear hn hb1 hP
    go_wp2_with fail
    (with_reducible refine HI.out.mono ?_)
    rintro e w2 ⟨A2, c2, rfl, _, _, own2, hb2⟩
    have oa := obj_below oa hb2 (obj_lt oa)
    have ob := obj_below ob hb2 (obj_lt ob)
    have hb' := hb.trans (hb2.mono hb.size)
    have hsz2 := hb2.size
    have hsb := hb'.size
    have oa3 := obj_alloc oa (Obj.cells #[Value.slice A2 (invL xs).length c2, Value.slice none 0 0] 27)
    have ob3 := obj_alloc ob (Obj.cells #[Value.slice A2 (invL xs).length c2, Value.slice none 0 0] 27)
    have oc3 := obj_new w2 (Obj.cells #[Value.slice A2 (invL xs).length c2, Value.slice none 0 0] 27)
    have hA3 := own2.alloc (Obj.cells #[Value.slice A2 (invL xs).length c2, Value.slice none 0 0] 27)
    have lA : ∀ q, (Value.slice A2 (invL xs).length c2).ownBlock = some q → wn.heap.size ≤ q ∧ q < w2.heap.size := fun q hq => own2.lt q hq
    have hb3 := hb'.alloc hsb (Obj.cells #[Value.slice A2 (invL xs).length c2, Value.slice none 0 0] 27)
    have hz3 : (w2.alloc (Obj.cells #[Value.slice A2 (invL xs).length c2, Value.slice none 0 0] 27)).heap.size = w2.heap.size + 1 := by simp
    have g1 : (w2.alloc (Obj.cells #[Value.slice A2 (invL xs).length c2, Value.slice none 0 0] 27)).cell? ⟨w.heap.size, 1, none⟩ = some (Value.slice B rs.length k) := (obj_cell oa3).trans rfl
    have hlt2 : w.heap.size + 1 < w2.heap.size := by omega
    clear own2 hb2 hb oa ob f0 f1 HI
    go_wp2_with fail
    generalize (w2.alloc (Obj.cells #[Value.slice A2 (invL xs).length c2, Value.slice none 0 0] 27)) = w3 at oa3 ob3 oc3 hA3 hb3 hz3 g1 ⊢
    obtain ⟨g, hg⟩ : ∃ g, g = w2.heap.size := ⟨_, rfl⟩
    rw [← hg] at oc3 hz3 hlt2 lA hsz2 ⊢
    have HZ3 := Lib.hid hz3
    clear hg hz3 g1
    go_loopw [18] (fun i wr => ∃ (j : Nat) (D : Option Addr) (d : Nat) (ds : List Row), j ≤ rs.length ∧ i = .int .i64 (j : Int) ∧ wr.heap[g]? = some (Obj.cells #[Value.slice A2 (invL xs).length c2, Value.slice D ds.length d] 27) ∧
      wr.heap[w.heap.size]? = some (Obj.cells #[Value.slice A xs.length c, Value.slice B rs.length k] 27) ∧
      wr.heap[w.heap.size + 1]? = some (Obj.cells #[Value.slice none 0 0, Value.slice none 0 0] 27) ∧ wr.ownsRow wn.heap.size 3 1 (.slice A2 (invL xs).length c2) (invL xs).length ((invL xs).map (Value.int .i64)) ∧
      Own wr w3.heap.size wr.heap.size ds [⟨D, d, ds.map Row.v⟩] ∧ Hid (ds.map Row.xs = swL ((rs.map Row.xs).take j)) ∧ Below w.heap.size w wr ∧ w3.heap.size ≤ wr.heap.size) (fun i _ => rs.length - (intOf i).toNat)
    case atStart => exact ⟨0, none, 0, [], Nat.zero_le _, rfl, oc3, oa3, ob3, hA3, Own.nil_list _ _ _, Lib.hid rfl, hb3, Nat.le_refl _⟩
    case round =>
      clear oc3 oa3 ob3 hA3 hb3
      obtain ⟨j, D, d, ds, hjl, rfl, og, oa, ob, hA, hO, HX, hbw, hsw⟩ := hrel
      have hdl : ds.length = j := by have := congrArg List.length HX.out; simp [swL] at this; omega
      have f1 : wr.cell? ⟨g, 1, none⟩ = some (Value.slice D ds.length d) := (obj_cell og).trans rfl
      have f0 : wr.cell? ⟨g, 0, none⟩ = some (Value.slice A2 (invL xs).length c2) := (obj_cell og).trans rfl
      have a0 : wr.cell? ⟨w.heap.size, 0, none⟩ = some (Value.slice A xs.length c) := (obj_cell oa).trans rfl
      have a1 : wr.cell? ⟨w.heap.size, 1, none⟩ = some (Value.slice B rs.length k) := (obj_cell oa).trans rfl
      have hcount : ds.length ≤ 25 := by omega
      have HDL := Lib.hid hdl
      clear hdl
      by_cases hlt : j < rs.length
      · have hL := h.2.next hbw
        obtain ⟨b, off, rfl, _, hc⟩ := hL.read.at (by omega)
        have cc := hc j hlt
        obtain ⟨r, hr⟩ : ∃ r, r = rs[j] := ⟨_, rfl⟩
        have hmem : r ∈ rs := by rw [hr]; exact List.getElem_mem hlt
        have h2 := HT.out r hmem
        have hrow := (hL.row hmem).rd
        rw [← hr] at cc
        obtain ⟨bx, by_, hab⟩ : ∃ a b, r.xs = [a, b] := by
          match hq : r.xs, h2 with
          | [a, b], _ => exact ⟨a, b, rfl⟩
        have HS := Lib.hid (show swL ((rs.map Row.xs).take (j + 1)) = swL ((rs.map Row.xs).take j) ++ [[by_, bx]] by
          unfold swL
          rw [List.take_succ_eq_append_getElem (by simpa using hlt), List.map_append]
          simp only [List.getElem_map, ← hr, hab]
          rfl)
        obtain ⟨rA, rc, rx⟩ := r
        simp only at hab
        subst hab
        obtain ⟨rb, ro, hA', _, hcc⟩ := hrow (by simp)
        simp only at hA'
        subst hA'
        have e0 : wr.cell? ⟨rb, ro, none⟩ = some (.int .i64 bx) := hcc 0 (by simp)
        have e1 : wr.cell? ⟨rb, ro + 1, none⟩ = some (.int .i64 by_) := hcc 1 (by simp)
        have cc : wr.cell? ⟨b, off + j, none⟩ = some (Value.slice (some ⟨rb, ro, none⟩) 2 rc) := cc
        have s3 : g < w3.heap.size := by have := HZ3.out; omega
        have hrow2 : (wr.alloc (.cells #[.int .i64 by_, .int .i64 bx] 3)).ownsRow wr.heap.size 3 1 (Row.v ⟨some ⟨wr.heap.size, 0, none⟩, 2, [by_, bx]⟩) 2 ([by_, bx].map (Value.int .i64)) := World.ownsRow_lit wr #[.int .i64 by_, .int .i64 bx] 2 (Nat.le_refl _) (by unfold maxLen; omega) rfl
        have hbr := (Below.refl wr.heap.size wr).alloc (Nat.le_refl _) (.cells #[.int .i64 by_, .int .i64 bx] 3)
        have hO2 := (hO.below hbr).add (r := ⟨some ⟨wr.heap.size, 0, none⟩, 2, [by_, bx]⟩) hrow2 (by simp) hsw
        have ho2 := hO2.outN (n := ds.length) (by simp)
        have oar := obj_alloc oa (.cells #[.int .i64 by_, .int .i64 bx] 3)
        have obr := obj_alloc ob (.cells #[.int .i64 by_, .int .i64 bx] 3)
        have ogr := obj_alloc og (.cells #[.int .i64 by_, .int .i64 bx] 3)
        have hAr := hA.alloc (.cells #[.int .i64 by_, .int .i64 bx] 3)
        have hbr2 := hbw.alloc (by omega) (.cells #[.int .i64 by_, .int .i64 bx] 3)
        have hlim := hO2.olim (n := ds.length) (by simp)
        clear hbr hrow2 hc hr hmem h2 hrow hcc hL
        have f1d : wr.drew.cell? ⟨g, 1, none⟩ = some (Value.slice D ds.length d) := f1
        have e0d : wr.drew.cell? ⟨rb, ro, none⟩ = some (.int .i64 bx) := e0
        have e1d : wr.drew.cell? ⟨rb, ro + 1, none⟩ = some (.int .i64 by_) := e1
        have f1r : (wr.alloc (Obj.cells #[.int .i64 by_, .int .i64 bx] 3)).cell? ⟨g, 1, none⟩ = some (Value.slice D ds.length d) := (obj_cell ogr).trans rfl
        have f1r2 : ((wr.alloc (Obj.cells #[.int .i64 by_, .int .i64 bx] 3)).alloc (Obj.cells #[Value.slice (some ⟨wr.heap.size, 0, none⟩) 2 2] 24)).cell? ⟨g, 1, none⟩ = some (Value.slice D ds.length d) := (obj_cell (obj_alloc ogr _)).trans rfl
        go_wp2_with fail
        go_region_law
          ((refine step_append_lies _ (by rfl) _ _ _ (by rfl) w3.heap.size 24 j0 (.slice none 0 0) 1 24 Try.underlying25 hj hy0 hy1 hy2 rfl (by decide) (Value.slice D ds.length d) ds.length (ds.map Row.v) (by rfl) ((World.ownsRow.alloc ho2 _).drew) ⟨wr.heap.size + 1, 0, none⟩ 1 1 [Value.slice (some ⟨wr.heap.size, 0, none⟩) 2 2] (by rfl) (by rfl) (cell_one_at (w := wr.alloc (.cells #[.int .i64 by_, .int .i64 bx] 3)) (H := wr.heap.size + 1) _ _ (by simp)) (by intro u hu; simp at hu; subst hu; rfl) (by omega) (by unfold maxLen; omega) (by omega) (by simp; omega) (wr.heap.size + 2) (by simp) ?_; intro gg cap w9 hown9 hgrow9 hat hlt9
            obtain ⟨A5, c5, hv5, hO6, hg3⟩ := hO2.grow (Nat.le_refl _) (by simp) hown9 (grown_drew hgrow9)
            injection hv5 with e51 _ e52
            subst e51 e52
            have oa1 := (hg3.block _ (obj_lt oar) (by intro he; have := hlim _ he.symm; omega)).trans oar
            have ob1 := (hg3.block _ (obj_lt obr) (by intro he; have := hlim _ he.symm; omega)).trans obr
            have og1 := (hg3.block _ (obj_lt ogr) (by intro he; have := hlim _ he.symm; omega)).trans ogr
            have f3 : w9.cell? ⟨g, 1, none⟩ = some (Value.slice D ds.length d) := (obj_cell og1).trans rfl
            have f4 : w9.frozen? ⟨g, 1, none⟩ = false := obj_frozen og1))
        all_goals
          have hA1 := hAr.kept hg3 (own_off (lim := g) (fun q hq => (lA q hq).2) (fun q hq => by have := hlim q hq; omega))
          have hbw3 := hbr2.grown hg3 (by simp; omega) (fun q hq => by have := hlim q hq; omega)
          have hsp : Span g (g + 1) w9 (w9.setCell ⟨g, 1, none⟩ (Value.slice (some ⟨gg, 0, none⟩) (ds.length + 1) cap)) := Span.set (p := ⟨g, 1, none⟩) (Nat.le_refl _) (Nat.lt_succ_self _) _
          have hA2 := own_span hA1 hsp (fun q hq => .inl (lA q hq).2)
          have hO7 := (hO6.span hsp (.inr (by omega))).wider (Nat.le_refl _) hsp.size
          have oa2 := obj_other (g' := g) (i := 1) oa1 (by omega) (Value.slice (some ⟨gg, 0, none⟩) (ds.length + 1) cap)
          have ob2 := obj_other (g' := g) (i := 1) ob1 (by omega) (Value.slice (some ⟨gg, 0, none⟩) (ds.length + 1) cap)
          have og2 := obj_set (i := 1) og1 (Value.slice (some ⟨gg, 0, none⟩) (ds.length + 1) cap)
          have hb5 := hbw3.setCell (p := ⟨g, 1, none⟩) (by simp; omega) (Value.slice (some ⟨gg, 0, none⟩) (ds.length + 1) cap)
          have hs5 : w3.heap.size ≤ (w9.setCell ⟨g, 1, none⟩ (Value.slice (some ⟨gg, 0, none⟩) (ds.length + 1) cap)).heap.size := by have h1 := hg3.size; have h2 := hsp.size; simp at h1; omega
          have K := Lib.hid (And.intro oa2 (And.intro ob2 (And.intro og2 (And.intro hA2 (And.intro hO7 (And.intro hb5 hs5))))))
          clear oa2 ob2 og2 hA2 hO7 hb5 hs5 hsp hA1 hbw3 hown9 hgrow9 hg3 hO6 oa1 ob1 og1 f3 f4 f1 f0 a0 a1 f1r f1d f1r2 e0d e1d e0 e1 cc hO2 ho2 oar obr ogr hAr hbr2 hlim oa ob og hA hO hbw
          go_wp2_with fail
          go_roundw
          case rel => exact ⟨j + 1, some ⟨gg, 0, none⟩, cap, ds ++ [⟨some ⟨wr.heap.size, 0, none⟩, 2, [by_, bx]⟩], by omega, by go_num, by rw [List.length_append]; exact K.out.2.2.1, K.out.1, K.out.2.1, K.out.2.2.2.1, by simpa [Row.v] using K.out.2.2.2.2.1, Lib.hid (by rw [HS.out, List.map_append, HX.out]; rfl), K.out.2.2.2.2.2.1, K.out.2.2.2.2.2.2⟩
          case measure => (simp [intOf]) <;> omega
      · obtain rfl : j = rs.length := by omega
        have HX2 := Lib.hid (show ds.map Row.xs = swL (rs.map Row.xs) by rw [HX.out]; rw [List.take_of_length_le (by simp)])
        have h2d : ∀ r ∈ ds, r.xs.length = 2 := fun r hr => swL_two r.xs (by rw [← HX2.out]; exact List.mem_map.2 ⟨r, hr, rfl⟩)
        have s3 := HZ3.out
        have hlim : ∀ q, (Value.slice D 0 0).ownBlock = some q → w3.heap.size ≤ q := fun q hq => (hO.olim (n := ds.length) (by simp) q (by rw [← hq]; exact ownBlock_len _ _ _ _ _)).1
        have hS := Lib.hid (sort_any D d w3.heap.size ds wr 82 cmpL hO (by omega) (fun args w => call_cmpS args w) (fun x hx y hy => before_two (h2d x hx) (h2d y hy)) (fun W x y hx hy h1 h2 => (compareS_any x.A y.A x.c y.c x.xs.length y.xs.length x.xs y.xs W rfl rfl (by have := h2d x hx; omega) (by have := h2d y hy; omega) h1 h2).mono fun e w' he => ⟨he.1, 0, #[], by rw [← he.2]; exact grow_nil W⟩))
        clear h2d
        go_wp2_with fail
        (with_reducible refine hS.out.mono ?_)
        rintro e wq ⟨rfl, ss, hperm, hsorted, hO1, hgq⟩
        have hsl : ss.length = ds.length := hperm.length_eq
        have HE := Lib.hid (show ss.map Row.xs = ordL (swL (rs.map Row.xs)) from sorted_ord hsorted (by rw [← HX2.out]; exact hperm.map _) HD.out)
        have og := (hgq.block g (obj_lt og) (by intro he; have := hlim _ he.symm; omega)).trans og
        have ob := (hgq.block (w.heap.size + 1) (obj_lt ob) (by intro he; have := hlim _ he.symm; omega)).trans ob
        have hA2 := hA.kept hgq (own_off (lim := g) (fun q hq => (lA q hq).2) (fun q hq => by have := hlim q hq; omega))
        have hbq := hbw.grown hgq hbw.size (fun q hq => by have := hlim q hq; omega)
        have hsq := hgq.size
        have f1 : wq.cell? ⟨g, 1, none⟩ = some (Value.slice D ds.length d) := (obj_cell og).trans rfl
        have f0 : wq.cell? ⟨g, 0, none⟩ = some (Value.slice A2 (invL xs).length c2) := (obj_cell og).trans rfl
        have g0 : wq.cell? ⟨w.heap.size + 1, 0, none⟩ = some (Value.slice none 0 0) := (obj_cell ob).trans rfl
        have g1 : wq.cell? ⟨w.heap.size + 1, 1, none⟩ = some (Value.slice none 0 0) := (obj_cell ob).trans rfl
        have g2 : wq.frozen? ⟨w.heap.size + 1, 0, none⟩ = false := obj_frozen ob
        have g3 : wq.frozen? ⟨w.heap.size + 1, 1, none⟩ = false := obj_frozen ob
        have o2 := obj_set (i := 1) (obj_set (i := 0) ob (Value.slice A2 (invL xs).length c2)) (Value.slice D ds.length d)
        have hsp : Span (w.heap.size + 1) (w.heap.size + 1 + 1) wq ((wq.setCell ⟨w.heap.size + 1, 0, none⟩ (Value.slice A2 (invL xs).length c2)).setCell ⟨w.heap.size + 1, 1, none⟩ (Value.slice D ds.length d)) :=
          (Span.set (p := ⟨w.heap.size + 1, 0, none⟩) (Nat.le_refl _) (Nat.lt_succ_self _) _).trans (Span.set (p := ⟨w.heap.size + 1, 1, none⟩) (Nat.le_refl _) (Nat.lt_succ_self _) _)
        have hr0 : Own wq wn.heap.size g [⟨A2, c2, invL xs⟩] [] := (Own.one hA2 (Nat.le_refl _)).lim g (fun r hr q hq => by obtain rfl := List.mem_singleton.1 hr; exact (lA q hq).2)
        have own : Own wq wn.heap.size wq.heap.size (⟨A2, c2, invL xs⟩ :: ss) [⟨D, d, ss.map Row.v⟩] := by
          have := hr0.app (hO1.wider (show g ≤ w3.heap.size by omega) (Nat.le_refl _)) (by omega) (by omega)
          simpa using this
        have own := own.span hsp (.inr (by omega))
        have hb4 := (hbq.setCell (p := ⟨w.heap.size + 1, 0, none⟩) (by simp) (Value.slice A2 (invL xs).length c2)).setCell (p := ⟨w.heap.size + 1, 1, none⟩) (by simp) (Value.slice D ds.length d)
        have l0 := (obj_cell (i := 0) o2).trans rfl
        have l1 := (obj_cell (i := 1) o2).trans rfl
        have hq2 := hsp.size
        have HSL := Lib.hid hsl
        clear hsp hsl hperm hsorted
        go_wp2_with fail
        refine bodyPost_ret (v := .tuple #[.agg #[.slice A2 (invL xs).length c2, .slice D ds.length d], .bool true]) (by simp [results, Try.results13, go_sem, l0, l1]) rfl ?_
        rw [H1.out, H2.out, HN.out]
        exact ⟨A2, D, c2, d, ss, by rw [HSL.out], HE.out, own.wider (by omega) (by omega), hb4⟩
  · have hnf : meshB xs (rs.map Row.xs) = false := by simpa using hn
    have H1 := Lib.hid (show imG1 xs (rs.map Row.xs) = [] by unfold imG1; rw [hnf]; rfl)
    have H2 := Lib.hid (show imG2 xs (rs.map Row.xs) = [] by unfold imG2; rw [hnf]; rfl)
    have HN := Lib.hid hnf
    (with_reducible refine (mesh_ib A B c k xs rs w0 false (h.next hb0) hnf).mono ?_)
    rintro e w1 ⟨rfl, hb1⟩
    have oa := obj_below oa hb1 (obj_lt oa)
    have ob := obj_below ob hb1 (obj_lt ob)
    have hb := hb0.trans (hb1.mono hb0.size)
    have f0 : w1.cell? ⟨w.heap.size, 0, none⟩ = some (Value.slice A xs.length c) := (obj_cell oa).trans rfl
    have g0 : w1.cell? ⟨w.heap.size + 1, 0, none⟩ = some (Value.slice none 0 0) := (obj_cell ob).trans rfl
    have g1 : w1.cell? ⟨w.heap.size + 1, 1, none⟩ = some (Value.slice none 0 0) := (obj_cell ob).trans rfl
    have g2 : w1.frozen? ⟨w.heap.size + 1, 0, none⟩ = false := obj_frozen ob
    have g3 : w1.frozen? ⟨w.heap.size + 1, 1, none⟩ = false := obj_frozen ob
    have o2 := obj_set (i := 1) (obj_set (i := 0) ob (Value.slice none 0 0)) (Value.slice none 0 0)
    have hb4 := (hb.setCell (p := ⟨w.heap.size + 1, 0, none⟩) (by simp) (Value.slice none 0 0)).setCell (p := ⟨w.heap.size + 1, 1, none⟩) (by simp) (Value.slice none 0 0)
    have l0 := (obj_cell (i := 0) o2).trans rfl
    have l1 := (obj_cell (i := 1) o2).trans rfl
    clear hn hnf
    go_wp2_with fail
    refine bodyPost_ret (v := .tuple #[.agg #[.slice none 0 0, .slice none 0 0], .bool false]) (by simp [results, Try.results13, go_sem, l0, l1]) rfl ?_
    rw [H1.out, H2.out, HN.out]
    exact ⟨_, _, _, _, [], rfl, rfl, own_nilmesh _ _ _, hb4⟩
end Go.Proofs.Ythipikllgpnlhaa

/- Plain maths of meshes: columns for joined places, the inverse; a count is at most that of the pattern. -/
namespace Go.Proofs.Ythipikllgpnlhaa
set_option maxRecDepth 100000

theorem nth_at1 (p : List Int) (x : Int) : nth p (x - 1) = at1 p x := rfl
theorem len_mem {α : Type} [DecidableEq α] {X Y : List α} (hX : X.Nodup) (hY : Y.Nodup) (h : ∀ x, x ∈ X ↔ x ∈ Y) : X.length = Y.length := by
  have h1 := nodup_sub_len X Y hX fun x hx => (h x).1 hx
  have h2 := nodup_sub_len Y X hY fun x hx => (h x).2 hx
  omega
theorem Inc.nodup {l : List Int} (h : Inc l) : l.Nodup := by
  rw [List.nodup_iff_pairwise_ne]
  exact (inc_pair.1 h).imp fun h => by omega
theorem free_iff {p l : List Int} {X : List (List Int)} : freeB p l X = true ↔ ∀ a : Int, 1 ≤ a → a ≤ p.length → a ∈ l ∨ shB X (colN l a) (rowN p l (at1 p a)) = false := by
  unfold freeB freeTo
  rw [List.all_eq_true]
  have key : ∀ i : Nat, freeAt p l X i = true ↔ (((i : Int) + 1) ∈ l ∨ shB X (colN l ((i : Int) + 1)) (rowN p l (at1 p ((i : Int) + 1))) = false) := by
    intro i
    unfold freeAt
    rw [Bool.or_eq_true, decide_eq_true_eq, Bool.not_eq_true']
    rw [show nth p (i : Int) = at1 p ((i : Int) + 1) by unfold nth at1; rw [show (i : Int) + 1 - 1 = (i : Int) by omega]]
  constructor
  · intro h a h1 h2
    have := (key (a - 1).toNat).1 (h (a - 1).toNat (List.mem_range.2 (by omega)))
    rwa [show (((a - 1).toNat : Int) + 1) = a by omega] at this
  · intro h i hi
    have hi := List.mem_range.1 hi
    exact (key i).2 (h ((i : Int) + 1) (by omega) (by omega))
theorem mem_ofF {m : Nat} {f : Int → Int} {v : Int} : v ∈ ofF m f ↔ ∃ i : Int, 1 ≤ i ∧ i ≤ m ∧ f i = v := by
  constructor
  · intro h
    obtain ⟨x, h1, h2, rfl⟩ := mem_at1 h
    rw [ofF_length] at h2
    exact ⟨x, h1, h2, (at1_ofF h1 h2).symm⟩
  · rintro ⟨i, h1, h2, rfl⟩
    rw [← at1_ofF (f := f) h1 h2]
    exact at1_mem h1 (by rw [ofF_length]; exact h2)
theorem invPl_mem {p q l : List Int} (hq : permB q = true) (h : Occ p q l) {v : Int} : v ∈ invPl p q l ↔ ∃ x ∈ l, at1 p x = v := by
  have hl := h.len
  constructor
  · intro hv
    obtain ⟨i, h1, h2, rfl⟩ := mem_ofF.1 hv
    have := (at_inv hq h1 h2).2
    exact ⟨_, at1_mem this.1 (by omega), rfl⟩
  · rintro ⟨x, hx, rfl⟩
    obtain ⟨i, h1, h2, rfl⟩ := mem_at1 hx
    rw [← invPl_at hq h1 (by omega)]
    have hr := perm_rng hq h1 (by omega)
    have := at1_mem (p := invPl p q l) hr.1 (by rw [invPl, ofF_length]; exact hr.2)
    exact this
theorem invPl_filter {p q l : List Int} (hp : permB p = true) (hq : permB q = true) (h : Occ p q l) (H H' : Int → Bool) (hH : ∀ x ∈ l, H' (at1 p x) = H x) : ((invPl p q l).filter H').length = (l.filter H).length := by
  have h1 := (occ_inverse hp hq h).inc.nodup
  have hr := rng_mem.1 h.rng
  rw [show (l.filter H).length = ((l.filter H).map (at1 p)).length by rw [List.length_map]]
  refine len_mem (h1.filter _) (nodup_map_inj _ _ (h.inc.nodup.filter _) fun a ha b hb e => ?_) fun v => ?_
  · exact perm_inj hp (hr a (List.mem_filter.1 ha).1) (hr b (List.mem_filter.1 hb).1) e
  · rw [List.mem_filter, invPl_mem hq h, List.mem_map]
    constructor
    · rintro ⟨⟨x, hx, rfl⟩, hv⟩
      exact ⟨x, List.mem_filter.2 ⟨hx, by rw [← hH x hx]; exact hv⟩, rfl⟩
    · rintro ⟨x, hx, rfl⟩
      obtain ⟨hx, hv⟩ := List.mem_filter.1 hx
      exact ⟨⟨x, hx, rfl⟩, by rw [hH x hx]; exact hv⟩
theorem shB_swap {X : List (List Int)} (h2 : ∀ s ∈ X, s.length = 2) (x y : Int) : shB (imTo X X.length) y x = shB X x y := by
  rw [shB_mem, shB_mem, decide_eq_decide]
  unfold imTo
  rw [ordL_mem, List.take_length]
  unfold swL
  rw [List.mem_map]
  constructor
  · rintro ⟨s, hs, e⟩
    match s, h2 s hs with
    | [a, b], _ =>
      simp [swp] at e
      obtain ⟨rfl, rfl⟩ := e
      exact hs
  · intro hs
    exact ⟨_, hs, by simp [swp]⟩
theorem free_inverse {p q l : List Int} {X : List (List Int)} (hp : permB p = true) (hq : permB q = true) (h2 : ∀ s ∈ X, s.length = 2) (h : Occ p q l) : freeB (invL p) (invPl p q l) (imTo X X.length) = freeB p l X := by
  have hr := rng_mem.1 h.rng
  have hlen := invL_length p
  have key : ∀ a : Int, 1 ≤ a → a ≤ p.length → ((at1 p a ∈ invPl p q l ∨ shB (imTo X X.length) (colN (invPl p q l) (at1 p a)) (rowN (invL p) (invPl p q l) (at1 (invL p) (at1 p a))) = false) ↔ (a ∈ l ∨ shB X (colN l a) (rowN p l (at1 p a)) = false)) := by
    intro a h1 ha
    have e1 : colN (invPl p q l) (at1 p a) = rowN p l (at1 p a) := by
      unfold colN rowN
      exact invPl_filter hp hq h _ _ fun x _ => rfl
    have e2 : rowN (invL p) (invPl p q l) (at1 (invL p) (at1 p a)) = colN l a := by
      unfold colN rowN
      refine invPl_filter hp hq h _ _ fun x hx => ?_
      have hx := hr x hx
      rw [nth_at1, inv_at hp h1 ha, inv_at hp hx.1 hx.2]
    rw [e1, e2, shB_swap h2, invPl_mem hq h]
    constructor
    · rintro (⟨x, hx, e⟩ | h3)
      · have hxr := hr x hx
        have := perm_inj hp hxr ⟨h1, ha⟩ e
        subst this
        exact .inl hx
      · exact .inr h3
    · rintro (h3 | h3)
      · exact .inl ⟨a, h3, rfl⟩
      · exact .inr h3
  rw [Bool.eq_iff_iff, free_iff, free_iff]
  constructor
  · intro hf a h1 ha
    have hr := perm_rng hp h1 ha
    exact (key a h1 ha).1 (hf _ hr.1 (by omega))
  · intro hf v h1 hv
    obtain ⟨a, ha1, ha2, rfl⟩ := perm_onto hp h1 (by omega)
    exact (key a ha1 ha2).2 (hf a ha1 ha2)
theorem swL_mesh {xs : List Int} {X : List (List Int)} (hM : meshB xs X = true) : imTo (imTo X X.length) (imTo X X.length).length = X := by
  have h2 := mesh_two hM
  refine srt_ext (ordL_srt _) (mesh_srt hM) fun s => ?_
  unfold imTo
  rw [ordL_mem, List.take_length]
  constructor
  · intro hs
    obtain ⟨t, ht, rfl⟩ := List.mem_map.1 hs
    rw [ordL_mem, List.take_length] at ht
    obtain ⟨u, hu, rfl⟩ := List.mem_map.1 ht
    match u, h2 u hu with
    | [a, b], _ => simpa [swp] using hu
  · intro hs
    match s, h2 s hs with
    | [a, b], _ =>
      refine List.mem_map.2 ⟨[b, a], ?_, by simp [swp]⟩
      rw [ordL_mem, List.take_length]
      exact List.mem_map.2 ⟨[a, b], hs, by simp [swp]⟩
theorem cntM_inverse {p q : List Int} {X : List (List Int)} (hp : permB p = true) (hM : meshB q X = true) : cntM (invL p) (invL q) (imTo X X.length) = cntM p q X := by
  have hq := (mesh_perm hM).1
  have h2 := mesh_two hM
  have hp' := perm_inv hp
  have hq' := perm_inv hq
  have h2' : ∀ s ∈ imTo X X.length, s.length = 2 := imTo_two X X.length
  unfold cntM
  refine len_of_inj ((occI_nodup _ _).filter _) ((occI_nodup _ _).filter _) (invPl (invL p) (invL q)) (invPl p q) (fun l hl => ?_) (fun l hl k hk e => ?_) (fun l hl => ?_) (fun l hl k hk e => ?_)
  · obtain ⟨hl, hf⟩ := List.mem_filter.1 hl
    have ho := (occ_iff hp' hq').1 hl
    have h := occ_inverse hp' hq' ho
    rw [inv_inv hp, inv_inv hq] at h
    refine List.mem_filter.2 ⟨(occ_iff hp hq).2 h, ?_⟩
    have := free_inverse hp' hq' h2' ho
    rw [inv_inv hp, swL_mesh hM] at this
    rw [this]; exact hf
  · exact invPl_inj hp' hq' ((occ_iff hp' hq').1 (List.mem_filter.1 hl).1) ((occ_iff hp' hq').1 (List.mem_filter.1 hk).1) e
  · obtain ⟨hl, hf⟩ := List.mem_filter.1 hl
    have ho := (occ_iff hp hq).1 hl
    refine List.mem_filter.2 ⟨(occ_iff hp' hq').2 (occ_inverse hp hq ho), ?_⟩
    rw [free_inverse hp hq h2 ho]; exact hf
  · exact invPl_inj hp hq ((occ_iff hp hq).1 (List.mem_filter.1 hl).1) ((occ_iff hp hq).1 (List.mem_filter.1 hk).1) e
/-- The inverse of a mesh is a mesh. -/
theorem mesh_of_srt {q : List Int} {X : List (List Int)} (hq : permB q = true) (h4 : q.length ≤ 4) (hs : Srt X) (hb : ∀ s ∈ X, boxOk q.length s = true) : meshB q X = true := by
  unfold meshB meshTo
  rw [Bool.and_eq_true, Bool.and_eq_true, List.all_eq_true]
  refine ⟨⟨hq, decide_eq_true h4⟩, fun i hi => ?_⟩
  have hi := List.mem_range.1 hi
  unfold meshAt
  rw [List.getElem?_eq_getElem hi, Bool.and_eq_true, Bool.or_eq_true, decide_eq_true_eq, decide_eq_true_eq]
  refine ⟨hb _ (List.getElem_mem hi), ?_⟩
  rcases Nat.eq_zero_or_pos i with h0 | h0
  · exact .inl h0
  · right
    rw [List.getElem?_eq_getElem (by omega)]
    have := List.pairwise_iff_getElem.1 hs (i - 1) i (by omega) hi (by omega)
    have e1 := boxOk_two (hb _ (List.getElem_mem (show i - 1 < X.length by omega)))
    have e2 := boxOk_two (hb _ (List.getElem_mem hi))
    unfold before at this
    rw [if_pos (by rw [e1, e2])] at this
    exact of_decide_eq_true this
theorem mesh_inverse {q : List Int} {X : List (List Int)} (hM : meshB q X = true) : meshB (invL q) (imTo X X.length) = true := by
  have hq := mesh_perm hM
  refine mesh_of_srt (perm_inv hq.1) (by rw [invL_length]; exact hq.2) (ordL_srt _) fun s hs => ?_
  unfold imTo at hs
  rw [ordL_mem, List.take_length] at hs
  obtain ⟨t, ht, rfl⟩ := List.mem_map.1 hs
  obtain ⟨i, hi, rfl⟩ := List.mem_iff_getElem.1 ht
  have h1 := (mesh_at hM i hi).1
  have h2 := mesh_two hM _ ht
  rw [invL_length]
  match hx : X[i], h2 with
  | [a, b], _ =>
    rw [hx] at h1
    simp only [boxOk, decide_eq_true_eq] at h1
    simp only [swp, boxOk, List.getElem?_cons_zero, List.getElem?_cons_succ, Option.getD_some, decide_eq_true_eq]
    omega
theorem colN_at {l : List Int} (h : Inc l) {a i : Int} (h1 : 1 ≤ i) (h2 : i ≤ l.length) : i ≤ colN l a ↔ at1 l i < a := by
  have hn := h.nodup
  constructor
  · intro hi
    apply Classical.byContradiction
    intro hlt
    have hsub : ∀ x ∈ l.filter (fun k => decide (k < a)), x ∈ l.take (i - 1).toNat := fun x hx => by
      obtain ⟨hx, hxa⟩ := List.mem_filter.1 hx
      have hxa := of_decide_eq_true hxa
      obtain ⟨j, hj1, hj2, rfl⟩ := mem_at1 hx
      have hji : j < i := by
        rcases Int.lt_or_le j i with h3 | h3
        · exact h3
        · have : at1 l i ≤ at1 l j := by
            rcases Int.lt_or_eq_of_le h3 with h4 | h4
            · have := h i j h1 h4 hj2; omega
            · subst h4; exact Int.le_refl _
          omega
      obtain ⟨c, hc, e1, e2⟩ := at1_nat hj1 hj2
      rw [e2, List.mem_take_iff_getElem]
      exact ⟨c, by omega, rfl⟩
    have := nodup_sub_len _ _ (hn.filter _) hsub
    rw [List.length_take] at this
    unfold colN at hi
    omega
  · intro hlt
    have hsub : ∀ x ∈ l.take i.toNat, x ∈ l.filter (fun k => decide (k < a)) := fun x hx => by
      rw [List.mem_take_iff_getElem] at hx
      obtain ⟨c, hc, rfl⟩ := hx
      refine List.mem_filter.2 ⟨List.getElem_mem _, decide_eq_true ?_⟩
      have hcl : c < l.length := by omega
      have e : at1 l ((c : Int) + 1) = l[c] := at1_get hcl
      rw [← e]
      rcases Int.lt_or_eq_of_le (show (c : Int) + 1 ≤ i by omega) with h4 | h4
      · have := h _ _ (by omega) h4 h2; omega
      · rw [h4]; exact hlt
    have := nodup_sub_len (l.take i.toNat) _ (by rw [List.nodup_iff_pairwise_ne] at hn ⊢; exact hn.sublist (List.take_sublist _ _)) hsub
    rw [List.length_take] at this
    unfold colN
    omega
theorem boxes_sh {m : Nat} {ys : List Int} {x : Int} {y : Nat} (hy : y ≤ m) : shB (boxesL m ys) x y = decide (x ∈ ys) := by
  rw [shB_mem, decide_eq_decide]
  unfold boxesL boxesTo
  rw [List.mem_flatMap]
  constructor
  · rintro ⟨i, hi, h⟩
    obtain ⟨z, _, e⟩ := List.mem_map.1 h
    simp at e
    rw [← e.1]; exact hi
  · intro h
    exact ⟨x, h, List.mem_map.2 ⟨y, List.mem_range.2 (by omega), rfl⟩⟩
theorem free_near {p q l ys : List Int} (hj : ∀ i ∈ ys, 1 ≤ i ∧ i < q.length) (h : Occ p q l) : freeB p l (boxesL q.length ys) = nearFit ys l := by
  have hl := h.len
  have hrow : ∀ v, rowN p l v ≤ q.length := fun v => by unfold rowN; rw [← hl]; exact List.length_filter_le _ _
  rw [Bool.eq_iff_iff, free_iff]
  unfold nearFit
  rw [Bool.not_eq_true', List.any_eq_false]
  have hbad : ∀ i : Int, badJ l i = true ↔ at1 l (i + 1) ≠ at1 l i + 1 := by
    intro i
    unfold badJ
    rw [show nth l i = at1 l (i + 1) by unfold nth at1; rw [show i + 1 - 1 = i by omega], nth_at1]
    simp
  constructor
  · intro hf i hi hb
    rw [hbad] at hb
    have hr := hj i hi
    have h1 := h.inc i (i + 1) hr.1 (by omega) (by omega)
    have hrl := h.rng i hr.1 (by omega)
    have hru := h.rng (i + 1) (by omega) (by omega)
    have hc : colN l (at1 l i + 1) = i.toNat := by
      have a := (colN_at h.inc (a := at1 l i + 1) hr.1 (by omega)).2 (by omega)
      have b := (not_congr (colN_at h.inc (a := at1 l i + 1) (i := i + 1) (by omega) (by omega))).2 (by omega)
      omega
    rcases hf (at1 l i + 1) (by omega) (by omega) with h3 | h3
    · obtain ⟨j, hj1, hj2, e⟩ := mem_at1 h3
      have a := (h.inc.lt (i := i) (j := j) ⟨hr.1, by omega⟩ ⟨hj1, hj2⟩).1 (by omega)
      have b := (h.inc.lt (i := j) (j := i + 1) ⟨hj1, hj2⟩ ⟨by omega, by omega⟩).1 (by omega)
      omega
    · rw [boxes_sh (hrow _), hc, decide_eq_false_iff_not] at h3
      exact h3 (by rw [show ((i.toNat : Nat) : Int) = i by omega]; exact hi)
  · intro hn a h1 ha
    by_cases hal : a ∈ l
    · exact .inl hal
    · right
      rw [boxes_sh (hrow _), decide_eq_false_iff_not]
      intro hc
      have hr := hj _ hc
      have hg := fun hb => hn _ hc ((hbad _).2 hb)
      have e : at1 l ((colN l a : Int) + 1) = at1 l (colN l a : Int) + 1 := Classical.byContradiction hg
      have a1 := (colN_at h.inc (a := a) hr.1 (by omega)).1 (Int.le_refl _)
      have a2 := (not_congr (colN_at h.inc (a := a) (i := (colN l a : Int) + 1) (by omega) (by omega))).1 (by omega)
      have : a = at1 l ((colN l a : Int) + 1) := by omega
      exact hal (by rw [this]; exact at1_mem (by omega) (by omega))
theorem cntM_near {p q ys : List Int} (hp : permB p = true) (hN : nearB q ys = true) : cntM p q (boxesL q.length ys) = nearCnt p q ys := by
  have hq := nearB_permB hN
  unfold cntM nearCnt
  rw [List.filter_congr fun l hl => free_near (nearB_range hN) ((occ_iff hp hq).1 hl)]
theorem joined_pair {q ys : List Int} (hN : nearB q ys = true) : ys.Pairwise (· < ·) := by
  unfold nearB joinTo at hN
  rw [Bool.and_eq_true, List.all_eq_true] at hN
  have hst : ∀ j (hj : j + 1 < ys.length), ys[j] < ys[j + 1] := fun j hj => by
    have := hN.2 (j + 1) (List.mem_range.2 hj)
    unfold joinAt at this
    rw [List.getElem?_eq_getElem hj, Nat.add_sub_cancel, List.getElem?_eq_getElem (show j < ys.length by omega)] at this
    simp only [Option.getD_some, decide_eq_true_eq] at this
    omega
  rw [List.pairwise_iff_getElem]
  intro i j hi hj hij
  induction j with
  | zero => omega
  | succ j ih =>
    by_cases e : i = j
    · subst e; exact hst i hj
    · have := ih (by omega) (by omega)
      have := hst j hj
      omega
theorem mesh_boxes {q ys : List Int} (hN : nearB q ys = true) (h4 : q.length ≤ 4) : meshB q (boxesL q.length ys) = true := by
  have hq := nearB_permB hN
  have hj := nearB_range hN
  refine mesh_of_srt hq h4 ?_ fun s hs => ?_
  · unfold Srt boxesL
    rw [List.pairwise_flatMap]
    refine ⟨fun i hi => ?_, (joined_pair hN).imp fun {a b} hab x hx y hy => ?_⟩
    · unfold boxesTo
      rw [List.pairwise_map]
      have := List.pairwise_lt_range (n := q.length + 1)
      exact this.imp fun {a b} hab => by
        have h1 : cmpL [i, (a : Int)] [i, (b : Int)] < 0 := by
          simp only [cmpL]
          repeat' split
          all_goals omega
        unfold before
        rw [if_pos (show [i, (a : Int)].length = [i, (b : Int)].length from rfl)]
        exact decide_eq_true h1
    · obtain ⟨u, _, rfl⟩ := List.mem_map.1 hx
      obtain ⟨v, _, rfl⟩ := List.mem_map.1 hy
      have h1 : cmpL [a, (u : Int)] [b, (v : Int)] < 0 := by
        simp only [cmpL]
        repeat' split
        all_goals omega
      unfold before
      rw [if_pos (show [a, (u : Int)].length = [b, (v : Int)].length from rfl)]
      exact decide_eq_true h1
  · obtain ⟨i, hi, h⟩ := List.mem_flatMap.1 hs
    obtain ⟨z, hz, rfl⟩ := List.mem_map.1 h
    have hz := List.mem_range.1 hz
    have := hj i hi
    simp only [boxOk, decide_eq_true_eq]
    omega
theorem cntM_le_occ {p q : List Int} (X : List (List Int)) (hp : permB p = true) (hq : permB q = true) : cntM p q X ≤ (occL p q).length := by
  rw [occ_eq hp hq]
  exact List.length_filter_le _ _
end Go.Proofs.Ythipikllgpnlhaa

/- InversePerm of the reference. -/
namespace Go.Proofs.Ythipikllgpnlhaa
set_option maxRecDepth 100000
open Go Go.RowKit

def invG1 (p : List Int) : List Int := if permB p = true then invL p else []
set_option maxHeartbeats 1000000 in
theorem inversePerm_spec (A : Option Addr) (c : Nat) (p : List Int) (w : World) (h : In w A c p) :
    Calls Try.prog 21 #[.slice A p.length c] w (Ret2 (Value.int .i64) 3 w (invG1 p) (permB p)) := by
  by_cases hp : permB p = true
  · have HR := Lib.hid (show invG1 p = invL p by rw [invG1, if_pos hp])
    have HP := Lib.hid hp
    clear hp
    go_enter Try.func21, Try.ntmps21
    go_wp2_with fail
    (with_reducible refine (isPerm_sb A c p w true h HP.out).mono ?_)
    rintro e w1 ⟨rfl, hd⟩
    have hbd := below_dr (Below.refl w.heap.size w) hd
    have HC := Lib.hid (l2Inverse_any A c p w1 (h.dr hd) HP.out)
    go_wp2_with fail
    (with_reducible refine HC.out.mono ?_)
    rintro e w2 ⟨A', c', rfl, h1, h2, ho, hb⟩
    go_wp2_with fail
    go_ret2
    rw [HR.out, HP.out]
    exact ⟨A', c', rfl, h1, h2, own_mono ho hbd.size, hbd.trans (hb.mono hbd.size)⟩
  · have hp : permB p = false := by simpa using hp
    have HR := Lib.hid (show invG1 p = [] by rw [invG1, if_neg (by simp [hp])])
    have HP := Lib.hid hp
    clear hp
    go_enter Try.func21, Try.ntmps21
    go_wp2_with fail
    (with_reducible refine (isPerm_sb A c p w false h HP.out).mono ?_)
    rintro e w1 ⟨rfl, hd⟩
    have hbd := below_dr (Below.refl w.heap.size w) hd
    go_wp2_with fail
    go_ret2
    rw [HR.out, HP.out]
    exact ⟨_, 0, rfl, Nat.le_refl _, Nat.zero_le _, World.ownsRow_lit _ #[] 0 hbd.size (by unfold maxLen; omega) rfl, hbd.alloc hbd.size _⟩
end Go.Proofs.Ythipikllgpnlhaa
