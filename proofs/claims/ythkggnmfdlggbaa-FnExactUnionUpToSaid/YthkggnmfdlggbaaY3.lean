/- OrderPerms of the reference; MakeBasis, program and reference. -/
import Derived.Test.YthkggnmfdlggbaaY2
import Derived.Test.YthkggnmfdlggbaaG3
import Derived.Test.YthkggnmfdlggbaaS1
namespace Go.Proofs.Ythkggnmfdlggbaa
set_option maxRecDepth 100000
open Go Go.RowKit

/-- A call's result of two: a list of rows of its own, and a truth value. -/
def RetLb (w : World) (X : List (List Int)) (b : Bool) (e : Ending) (w' : World) : Prop :=
  ∃ A c rs, e = .returned (.tuple #[.slice A rs.length c, .bool b]) ∧ rs.map Row.xs = X ∧ Own w' w.heap.size w'.heap.size rs [⟨A, c, rs.map Row.v⟩] ∧ Below w.heap.size w w'
/-- The lists in which none that was kept before occurs. -/
def sieve (L : List (List Int)) : List (List Int) := L.foldl (fun acc p => if avoidB acc p = true then acc ++ [p] else acc) []
theorem sieve_take (L : List (List Int)) (k : Nat) (h : k < L.length) : sieve (L.take (k + 1)) = if avoidB (sieve (L.take k)) L[k] = true then sieve (L.take k) ++ [L[k]] else sieve (L.take k) := by
  unfold sieve
  rw [List.take_succ_eq_append_getElem h, List.foldl_append]
  rfl
theorem sieve_fold (L acc : List (List Int)) : ∃ u, L.foldl (fun acc p => if avoidB acc p = true then acc ++ [p] else acc) acc = acc ++ u := by
  induction L generalizing acc with
  | nil => exact ⟨[], by simp⟩
  | cons a t ih =>
    rw [List.foldl_cons]
    by_cases h : avoidB acc a = true
    · rw [if_pos h]
      obtain ⟨u, hu⟩ := ih (acc ++ [a])
      exact ⟨a :: u, by rw [hu]; simp⟩
    · rw [if_neg h]
      exact ih acc
theorem sieve_sub (L : List (List Int)) : ∀ q ∈ sieve L, q ∈ L := by
  have : ∀ (L acc : List (List Int)), ∀ q ∈ L.foldl (fun acc p => if avoidB acc p = true then acc ++ [p] else acc) acc, q ∈ acc ∨ q ∈ L := by
    intro L
    induction L with
    | nil => intro acc q hq; exact .inl hq
    | cons a t ih =>
      intro acc q hq
      rw [List.foldl_cons] at hq
      rcases ih _ q hq with h | h
      · split at h
        · rcases List.mem_append.1 h with h | h
          · exact .inl h
          · rw [List.mem_singleton.1 h]; exact .inr (by simp)
        · exact .inl h
      · exact .inr (by simp [h])
  intro q hq
  rcases this L [] q hq with h | h
  · simp at h
  · exact h
def mkB (X : List (List Int)) : Bool := allPermB X && basisB (sieve (ordL X))
def mkG (X : List (List Int)) : List (List Int) := if mkB X = true then sieve (ordL X) else []
theorem mk_empty {X : List (List Int)} (h : [] ∈ X) : basisB (sieve (ordL X)) = false := by
  have h1 := (ordL_mem X []).2 h
  have hs := ordL_srt X
  match hO : ordL X with
  | [] => rw [hO] at h1; simp at h1
  | a :: t =>
    rw [hO] at h1 hs
    have ha : a = [] := by
      rcases List.mem_cons.1 h1 with e | h1
      · exact e.symm
      · have := (List.pairwise_cons.1 hs).1 _ h1
        unfold before at this
        split at this
        · rename_i hl
          exact List.eq_nil_of_length_eq_zero hl
        · simp at this
    subst ha
    obtain ⟨u, hu⟩ := sieve_fold t [[]]
    have e : sieve ([] :: t) = [[]] ++ u := hu
    rw [e]
    unfold basisB
    rw [Bool.and_eq_false_iff]
    right
    exact basTo_false (k := 0) (by simp) rfl
theorem mkB_basis {X : List (List Int)} (h : mkB X = true) : basisB (mkG X) = true := by
  unfold mkG; rw [if_pos h]
  unfold mkB at h; rw [Bool.and_eq_true] at h; exact h.2
theorem basis_size {X : List (List Int)} (h : basisB X = true) : X.length + sizeX X ≤ 1048576 := by
  have h1 := basis_len h
  have h2 : sizeX X ≤ X.length * 8 := by
    have hp := basis_perm h
    clear h h1
    induction X with
    | nil => simp [sizeX]
    | cons a t ih =>
      have h1 := (permB_true (hp a (by simp))).1
      have h2 := ih (fun q hq => hp q (by simp [hq]))
      simp only [sizeX, List.map_cons, List.sum_cons, List.length_cons, Nat.add_mul, Nat.one_mul] at h2 ⊢
      omega
  omega
theorem mkG_le (X : List (List Int)) : (mkG X).length + sizeX (mkG X) ≤ 1048576 := by
  by_cases h : mkB X = true
  · exact basis_size (mkB_basis h)
  · unfold mkG; rw [if_neg h]; simp [sizeX]
theorem sizeR_sub {rs rs' : List Row} (h : rs'.Sublist rs) : rs'.length + sizeR rs' ≤ rs.length + sizeR rs := by
  induction h with
  | slnil => exact Nat.le_refl _
  | cons a _ ih => simp only [sizeR, List.map_cons, List.sum_cons, List.length_cons] at ih ⊢; omega
  | cons_cons a _ ih => simp only [sizeR, List.map_cons, List.sum_cons, List.length_cons] at ih ⊢; omega
theorem sizeX_append (X Y : List (List Int)) : sizeX (X ++ Y) = sizeX X + sizeX Y := by simp [sizeX]
theorem putL_size (X : List (List Int)) (p : List Int) : (putL X p).length + sizeX (putL X p) ≤ X.length + sizeX X + 1 + p.length := by
  unfold putL
  split
  · omega
  · have h1 : sizeX X = sizeX (X.take (putAt X p X.length)) + sizeX (X.drop (putAt X p X.length)) := by rw [← sizeX_append, List.take_append_drop]
    have h2 : X.length = (X.take (putAt X p X.length)).length + (X.drop (putAt X p X.length)).length := by rw [← List.length_append, List.take_append_drop]
    rw [sizeX_append, List.length_append]
    have h3 : sizeX (p :: X.drop (putAt X p X.length)) = p.length + sizeX (X.drop (putAt X p X.length)) := by simp [sizeX]
    rw [h3, List.length_cons]
    omega
theorem ordL_size (X : List (List Int)) : (ordL X).length + sizeX (ordL X) ≤ X.length + sizeX X := by
  have : ∀ (X Y : List (List Int)), (X.foldl putL Y).length + sizeX (X.foldl putL Y) ≤ Y.length + sizeX Y + (X.length + sizeX X) := by
    intro X
    induction X with
    | nil => intro Y; simp [sizeX]
    | cons a t ih =>
      intro Y
      have h1 := ih (putL Y a)
      have h2 := putL_size Y a
      have h3 : sizeX (a :: t) = a.length + sizeX t := by simp [sizeX]
      rw [List.foldl_cons, List.length_cons, h3]
      omega
  have := this X []
  simpa [ordL, sizeX] using this
/-- The rows that are kept. -/
def sieveR (rs : List Row) : Nat → List Row
  | 0 => []
  | k + 1 => match rs[k]? with
    | some r => if avoidB ((sieveR rs k).map Row.xs) r.xs = true then sieveR rs k ++ [r] else sieveR rs k
    | none => sieveR rs k
theorem sieveR_succ (rs : List Row) (k : Nat) (h : k < rs.length) : sieveR rs (k + 1) = if avoidB ((sieveR rs k).map Row.xs) rs[k].xs = true then sieveR rs k ++ [rs[k]] else sieveR rs k := by
  rw [sieveR, List.getElem?_eq_getElem h]
theorem sieveR_sub (rs : List Row) (k : Nat) (h : k ≤ rs.length) : (sieveR rs k).Sublist (rs.take k) := by
  induction k with
  | zero => exact List.Sublist.refl _
  | succ k ih =>
    rw [sieveR_succ rs k (by omega), List.take_succ_eq_append_getElem (by omega)]
    split
    · exact (ih (by omega)).append (List.Sublist.refl _)
    · exact (ih (by omega)).trans (List.sublist_append_left _ _)
theorem sieveR_map (rs : List Row) (k : Nat) (h : k ≤ rs.length) : (sieveR rs k).map Row.xs = sieve ((rs.map Row.xs).take k) := by
  induction k with
  | zero => rfl
  | succ k ih =>
    have ih := ih (by omega)
    have hk : (rs.map Row.xs)[k]'(by rw [List.length_map]; omega) = rs[k].xs := by simp
    rw [sieveR_succ rs k (by omega), sieve_take _ k (by rw [List.length_map]; omega), ih, hk]
    split
    · rw [List.map_append, ih]; rfl
    · exact ih
theorem sieveR_all (rs : List Row) : (sieveR rs rs.length).map Row.xs = sieve (rs.map Row.xs) := by
  rw [sieveR_map rs rs.length (Nat.le_refl _), List.take_of_length_le (by simp)]
theorem call_mb (args : Array Value) (w : World) : (callFunc 63 args).run Try.prog w = .ok (.enter 63 args) w := by kernel_rfl
set_option maxHeartbeats 800000 in
theorem mb_cl (A B : Option Addr) (c d g : Nat) (p q : List Int) (w : World) (hp : In w B d p) (hq : In w A c q) (hg : w.cell? ⟨g, 0, none⟩ = some (.slice B p.length d)) (h8 : p.length ≤ 8) (hq8 : q.length ≤ 8) :
    Calls Try.prog 63 #[.slice A q.length c, .pointer (some ⟨g, 0, none⟩)] w (Rb w (.bool (hasB p q))) := by
  go_enter Try.func63, Try.ntmps63
  go_wp2_with fail
  (with_reducible refine (has_b B A d c p q w _ hp hq (by omega) (by omega) rfl).mono ?_)
  rintro e w1 ⟨rfl, hb1⟩
  go_wp2_with fail
  go_ret
  exact ⟨rfl, hb1⟩
set_option maxHeartbeats 8000000 in
theorem makeBasis_impl (A : Option Addr) (c : Nat) (qs : List Row) (w : World) (h : InL w A c qs) :
    Calls Try.prog 27 #[.slice A qs.length c] w (RetLb w (mkG (qs.map Row.xs)) (mkB (qs.map Row.xs))) := by
  obtain ⟨j0, hj, hy0, hy1, hy2⟩ := info_parts infoL
  have hmf : ∀ (fn : Fn) (first cap : Array Value) (w : World), (Instr.makeFunc fn first cap).run Try.prog w = .ok (.func fn first cap) w := fun _ _ _ _ => rfl
  have hlen := h.len
  go_enter Try.func27, Try.ntmps27
  go_wp2_with fail
  go_loopw [11] (fun i wr => ∃ k : Nat, k ≤ qs.length ∧ i = .int .i64 k ∧ Hid (∀ r ∈ qs.take k, permB r.xs = true) ∧ Below w.heap.size w wr) (fun i _ => qs.length - (intOf i).toNat)
  case atStart => exact ⟨0, Nat.zero_le _, rfl, Lib.hid (by simp), Below.refl _ _⟩
  case round =>
    obtain ⟨k, hk, rfl, HP, hb⟩ := hrel
    rcases Nat.lt_or_ge k qs.length with hlt | hge
    · obtain ⟨b', off, rfl, _, hc⟩ := (h.next hb).read.at (by omega)
      have c1 := hc k hlt
      have hin := (h.next hb).row (List.getElem_mem hlt)
      have hmem : qs[k].xs ∈ qs.map Row.xs := List.mem_map.2 ⟨qs[k], List.getElem_mem hlt, rfl⟩
      have HM := Lib.hid hmem
      clear hc hmem
      go_wp2_with fail
      by_cases hp : permB qs[k].xs = true
      · have HT := Lib.hid (show ∀ r ∈ qs.take (k + 1), permB r.xs = true from fun r hr => by
          rw [List.take_succ_eq_append_getElem hlt] at hr
          rcases List.mem_append.1 hr with hr | hr
          · exact HP.out r hr
          · rw [List.mem_singleton.1 hr]; exact hp)
        (with_reducible refine (isPerm_ib qs[k].A qs[k].c qs[k].xs wr true hin hp).mono ?_)
        rintro e w1 ⟨rfl, hb1⟩
        have hb1 := hb.trans (hb1.mono hb.size)
        clear hp
        by_cases h0 : qs[k].xs.length = 0
        · have HF := Lib.hid (show mkB (qs.map Row.xs) = false by
            unfold mkB
            rw [mk_empty (by rw [← List.eq_nil_of_length_eq_zero h0]; exact HM.out), Bool.and_false])
          have HG := Lib.hid (show mkG (qs.map Row.xs) = [] by unfold mkG; rw [HF.out]; rfl)
          have d0 : ((qs[k].xs.length : Int) == 0) = true := by simp; exact List.eq_nil_of_length_eq_zero h0
          clear h0
          go_wp2_with fail
          go_ret2
          rw [HG.out, HF.out]
          exact ⟨none, 0, [], rfl, rfl, Own.nil_list _ _ _, hb1⟩
        · have d0 : ((qs[k].xs.length : Int) == 0) = false := by simp; intro e; rw [e] at h0; simp at h0
          clear h0
          go_wp2_with fail
          go_roundw
          case rel => exact ⟨k + 1, by omega, by go_num, HT, hb1⟩
          case measure => simp [intOf]; omega
      · have hpf : permB qs[k].xs = false := by simpa using hp
        have HF := Lib.hid (show mkB (qs.map Row.xs) = false by
          unfold mkB allPermB
          rw [show ((qs.map Row.xs).any fun p => !permB p) = true from List.any_eq_true.2 ⟨_, HM.out, by rw [hpf]; rfl⟩]; rfl)
        have HG := Lib.hid (show mkG (qs.map Row.xs) = [] by unfold mkG; rw [HF.out]; rfl)
        (with_reducible refine (isPerm_ib qs[k].A qs[k].c qs[k].xs wr false hin hpf).mono ?_)
        rintro e w1 ⟨rfl, hb1⟩
        have hb1 := hb.trans (hb1.mono hb.size)
        clear hp hpf
        go_wp2_with fail
        go_ret2
        rw [HG.out, HF.out]
        exact ⟨none, 0, [], rfl, rfl, Own.nil_list _ _ _, hb1⟩
    · obtain rfl : k = qs.length := by omega
      have HPA := Lib.hid (show ∀ r ∈ qs, permB r.xs = true from fun r hr => HP.out r (by rw [List.take_length]; exact hr))
      have HAP := Lib.hid (show allPermB (qs.map Row.xs) = true by
        unfold allPermB
        rw [show ((qs.map Row.xs).any fun p => !permB p) = false from by
          rw [List.any_eq_false]
          intro p hp
          obtain ⟨r, hr, rfl⟩ := List.mem_map.1 hp
          rw [HPA.out r hr]; simp]; rfl)
      have hszr := hb.size
      have hown0 : (wr.alloc (.cells #[] 22)).ownsRow w.heap.size 22 1 (.slice (some ⟨wr.heap.size, 0, none⟩) 0 0) 0 [] := World.ownsRow_lit wr #[] 0 hszr (by unfold maxLen; omega) rfl
      have hb0 := hb.alloc hszr (.cells #[] 22)
      have hin0 := h.next hb0
      clear HP
      go_wp2_with fail
      (with_reducible refine (ordered_impl A c qs (wr.alloc (.cells #[] 22)) hin0).mono ?_)
      rintro e w1 ⟨A1, c1, rs, rfl, hX, hO, hb1⟩
      have hst : Sift w1 w.heap.size (wr.alloc (.cells #[] 22)).heap.size w1.heap.size rs ⟨A1, c1, rs.map Row.v⟩ (some ⟨wr.heap.size, 0, none⟩) 0 [] := Sift.start hO hown0 hb1 (Nat.le_refl _)
      have hbw1 := hb0.trans (hb1.mono hb0.size)
      have hrl : rs.length ≤ 1048576 := by
        have h1 := ordL_len (qs.map Row.xs)
        have h2 := congrArg List.length hX
        rw [List.length_map] at h1 h2
        omega
      have HX := Lib.hid hX
      have HP8 := Lib.hid (show ∀ r ∈ rs, r.xs.length ≤ 8 from fun r hr => by
        have h1 := map_memX hX hr
        rw [ordL_mem] at h1
        obtain ⟨q, hq, he⟩ := List.mem_map.1 h1
        rw [← he]; exact (permB_true (HPA.out q hq)).1)
      have hsz0 : (wr.alloc (Obj.cells #[] 22)).heap.size = wr.heap.size + 1 := by simp
      rw [hsz0] at hst
      have hloa : w.heap.size ≤ wr.heap.size + 1 := by omega
      clear hX hO hb1 hown0 hb0 hsz0 hin0
      obtain ⟨wa, rfl⟩ : ∃ wa : World, wa = wr := ⟨_, rfl⟩
      go_wp2_with fail
      go_loopw [6, 28] (fun v i wr => ∃ (k : Nat) (A2 : Option Addr) (c2 : Nat) (kept : List Row), k ≤ rs.length ∧ i = .int .i64 k ∧ v = .slice A2 kept.length c2 ∧ Hid (kept = sieveR rs k) ∧
        Sift wr w.heap.size (wa.heap.size + 1) w1.heap.size rs ⟨A1, c1, rs.map Row.v⟩ A2 c2 (kept.map Row.v) ∧ Below w.heap.size w wr ∧ w1.heap.size ≤ wr.heap.size) (fun _ i _ => rs.length - (intOf i).toNat)
      case atStart => exact ⟨0, _, _, [], Nat.zero_le _, rfl, rfl, Lib.hid rfl, hst, hbw1, Nat.le_refl _⟩
      case round =>
        clear hst hbw1
        obtain ⟨k, A2, c2, kept, hk, rfl, rfl, HV, hS, hb, hsz⟩ := hrel
        have hkl : kept.length ≤ k := by
          have h1 := (sieveR_sub rs k hk).length_le
          rw [HV.out]
          rw [List.length_take] at h1
          omega
        have HSUB := Lib.hid (show kept.Sublist rs by rw [HV.out]; exact (sieveR_sub rs k hk).trans (List.take_sublist _ _))
        have hszw := hb.size
        rcases Nat.lt_or_ge k rs.length with hlt | hge
        · obtain ⟨p, hp⟩ : ∃ p : Row, p = rs[k] := ⟨_, rfl⟩
          have hpm : p ∈ rs := by rw [hp]; exact List.getElem_mem hlt
          have hRd := hS.rows.read
          obtain ⟨b, off, rfl, _, hc⟩ := hRd.at (by omega)
          have cc : wr.cell? ⟨b, off + k, none⟩ = some (Value.slice p.A p.xs.length p.c) := by rw [hp]; exact hc k hlt
          have hl8 := HP8.out p hpm
          have HK := Lib.hid (show sieveR rs (k + 1) = if avoidB (kept.map Row.xs) p.xs = true then kept ++ [p] else kept by rw [sieveR_succ rs k hlt, ← hp, HV.out])
          have hba := (Below.refl wr.heap.size wr).alloc (Nat.le_refl _) (Obj.cells #[Value.slice p.A p.xs.length p.c] 22)
          have hSa := hS.below hba
          have hina := row_in hSa.rows.read hpm (by omega) (Nat.le_trans hsz hba.size)
          have hka := (hSa.done (rs' := kept) rfl HSUB.out hloa (Nat.le_trans hsz hba.size)).read
          have hc0 := alloc_cell wr (Value.slice p.A p.xs.length p.c) 22
          have hz0 : (wr.alloc (Obj.cells #[Value.slice p.A p.xs.length p.c] 22)).heap.size = wr.heap.size + 1 := by simp
          have hbwa := hb.trans (hba.mono hszw)
          have HK8 := Lib.hid (show ∀ r ∈ kept, r.xs.length ≤ 8 from fun r hr => HP8.out r (HSUB.out.subset hr))
          clear hc hp hRd hS
          go_wp2_with fail
          generalize (wr.alloc (Obj.cells #[Value.slice p.A p.xs.length p.c] 22)) = wb at hba hSa hina hka hc0 hz0 hbwa ⊢
          by_cases hV : avoidB (kept.map Row.xs) p.xs = true
          case' pos =>
            have HT := Lib.hid (show sieveR rs (k + 1) = kept ++ [p] by rw [HK.out, if_pos hV])
            have HBV := Lib.hid (show (kept.any fun r : Row => hasB p.xs r.xs) = false by
              have h1 := hV
              unfold avoidB at h1
              rw [← any_rows kept (hasB p.xs)] at h1; simpa using h1)
            refine (containsFuncL1 A2 c2 kept 63 wr.heap.size (hasB p.xs) wb (by omega) hka (fun args w' => call_mb args w') (fun w' j hj hbb => ?_) false HBV.out).mono ?_
            · exact mb_cl kept[j].A p.A kept[j].c p.c _ p.xs kept[j].xs w' (hina.next hbb) (row_in (hka.below hbb) (List.getElem_mem hj) (by have := HK8.out _ (List.getElem_mem hj); omega) hbb.size) ((hbb.cell (p := ⟨wr.heap.size, 0, none⟩) (by show wr.heap.size < wb.heap.size; omega)).trans hc0) hl8 (HK8.out _ (List.getElem_mem hj))
            rintro e w2 ⟨rfl, hb2⟩
            have hS2 := hSa.below hb2
            have hbw := hbwa.trans (hb2.mono hbwa.size)
            have hs2 := hb2.size
            have hsz2 : w1.heap.size ≤ w2.heap.size := by omega
            have hc2 : w2.cell? ⟨wr.heap.size, 0, none⟩ = some (Value.slice p.A p.xs.length p.c) := (hb2.cell (p := ⟨wr.heap.size, 0, none⟩) (by show wr.heap.size < wb.heap.size; omega)).trans hc0
            have ho2 := hS2.outN (n := kept.length) (by simp)
            have hol := hS2.olim (n := kept.length) (by simp)
            have hwz : w.heap.size ≤ w2.heap.size := hbw.size
            clear hV hSa hina hka hba hbwa hc0 hb2
            go_wp2_with (at_builtin; refine wpList_append_own_at _ rfl _ _ 33 rfl (w.heap.size) 22 j0 (.slice none 0 0) 1 24 Try.underlying33 hj hy0 hy1 hy2 rfl (by decide) _ _ _ rfl (World.ownsRow.alloc ho2 _) ⟨w2.heap.size, 0, none⟩ 1 1 [Value.slice p.A p.xs.length p.c] rfl rfl (cell_one_at _ _ (by simp)) (by intro u hu; simp at hu; subst hu; rfl) (by unfold maxLen; omega) (by omega) (by simp; omega) ?_; intro v9 w9 hown9 hgrow9 _ hat9)
            obtain ⟨A5, c5, rfl, hS3, hg3⟩ := hS2.grow hsz2 (show (kept.map Row.v).length = kept.length by simp) hown9 hgrow9 hat9
            have hb3 := hbw.grown hg3 hbw.size hol
            have K := Lib.hid (And.intro hS3 hb3)
            have hsz3 : w1.heap.size ≤ w9.heap.size := by have := hg3.size; omega
            clear hS3 hb3 hown9 hgrow9 hat9 hg3 hS2 ho2 hol hbw hc2
            go_wp2
            go_roundw
            case rel => exact ⟨k + 1, A5, c5, kept ++ [p], by omega, by go_num, by rw [List.length_append]; rfl, Lib.hid HT.out.symm, by simpa [Row.v] using K.out.1, K.out.2, hsz3⟩
            case measure => simp [intOf]; omega
          case' neg =>
            have HT := Lib.hid (show sieveR rs (k + 1) = kept by rw [HK.out, if_neg hV])
            have HBV := Lib.hid (show (kept.any fun r : Row => hasB p.xs r.xs) = true by
              have h1 := hV
              unfold avoidB at h1
              rw [← any_rows kept (hasB p.xs)] at h1; simpa using h1)
            refine (containsFuncL1 A2 c2 kept 63 wr.heap.size (hasB p.xs) wb (by omega) hka (fun args w' => call_mb args w') (fun w' j hj hbb => ?_) true HBV.out).mono ?_
            · exact mb_cl kept[j].A p.A kept[j].c p.c _ p.xs kept[j].xs w' (hina.next hbb) (row_in (hka.below hbb) (List.getElem_mem hj) (by have := HK8.out _ (List.getElem_mem hj); omega) hbb.size) ((hbb.cell (p := ⟨wr.heap.size, 0, none⟩) (by show wr.heap.size < wb.heap.size; omega)).trans hc0) hl8 (HK8.out _ (List.getElem_mem hj))
            rintro e w2 ⟨rfl, hb2⟩
            have hS2 := hSa.below hb2
            have hbw := hbwa.trans (hb2.mono hbwa.size)
            have hs2 := hb2.size
            have hsz2 : w1.heap.size ≤ w2.heap.size := by omega
            clear hV hSa hina hka hba hbwa hc0 hb2
            go_wp2
            go_roundw
            case rel => exact ⟨k + 1, A2, c2, kept, by omega, by go_num, rfl, Lib.hid HT.out.symm, hS2, hbw, hsz2⟩
            case measure => simp [intOf]; omega
        · obtain rfl : k = rs.length := by omega
          have hfin := hS.done (rs' := kept) rfl HSUB.out hloa hsz
          have HKX := Lib.hid (show kept.map Row.xs = sieve (ordL (qs.map Row.xs)) by rw [HV.out, sieveR_all, HX.out])
          have hL : InL wr A2 c2 kept := ⟨by
            have h1 := sizeR_sub HSUB.out
            have h2 := ordL_size (qs.map Row.xs)
            rw [← HX.out, ← sizeR_eq, ← sizeR_eq, List.length_map, List.length_map] at h2
            omega, hfin.read⟩
          have HFIN := Lib.hid hfin
          clear hfin hS
          go_wp2_with fail
          by_cases hB : basisB (sieve (ordL (qs.map Row.xs))) = true
          · have HF := Lib.hid (show mkB (qs.map Row.xs) = true by unfold mkB; rw [HAP.out, hB]; rfl)
            have HG := Lib.hid (show mkG (qs.map Row.xs) = sieve (ordL (qs.map Row.xs)) by unfold mkG; rw [if_pos HF.out])
            (with_reducible refine (basis_ib A2 c2 kept wr true hL (by rw [HKX.out]; exact hB)).mono ?_)
            rintro e w2 ⟨rfl, hb2⟩
            clear hB
            go_wp2_with fail
            go_ret2
            rw [HG.out, HF.out]
            exact ⟨A2, c2, kept, rfl, HKX.out, (HFIN.out.below hb2).wider (Nat.le_refl _) hb2.size, hb.trans (hb2.mono hszw)⟩
          · have hBf : basisB (sieve (ordL (qs.map Row.xs))) = false := by simpa using hB
            have HF := Lib.hid (show mkB (qs.map Row.xs) = false by unfold mkB; rw [hBf, Bool.and_false])
            have HG := Lib.hid (show mkG (qs.map Row.xs) = [] by unfold mkG; rw [HF.out]; rfl)
            (with_reducible refine (basis_ib A2 c2 kept wr false hL (by rw [HKX.out]; exact hBf)).mono ?_)
            rintro e w2 ⟨rfl, hb2⟩
            clear hB hBf
            go_wp2_with fail
            go_ret2
            rw [HG.out, HF.out]
            exact ⟨none, 0, [], rfl, rfl, Own.nil_list _ _ _, hb.trans (hb2.mono hszw)⟩
def opG (X : List (List Int)) : List (List Int) := if allPermB X = true then ordL X else []
set_option maxHeartbeats 2000000 in
theorem orderPerms_spec (A : Option Addr) (c : Nat) (qs : List Row) (w : World) (h : InL w A c qs) (hP : allPermB (qs.map Row.xs) = true) :
    Calls Try.prog 57 #[.slice A qs.length c] w (RetL w (ordL (qs.map Row.xs))) := by
  have hlen := h.len
  have HP := Lib.hid hP
  have hlit := Own.lit (lo := w.heap.size) w (Nat.le_refl _)
  have hb0 := (Below.refl w.heap.size w).alloc (Nat.le_refl _) (.cells #[] 22)
  clear hP
  go_enter Try.func57, Try.ntmps57
  go_wp2_with fail
  go_loopw [3, 4] (fun v i wr => ∃ (k : Nat) (A1 : Option Addr) (c1 : Nat) (ds : List Row), k ≤ qs.length ∧ i = .int .i64 k ∧ v = .slice A1 ds.length c1 ∧ Hid (ds.map Row.xs = ordL ((qs.map Row.xs).take k)) ∧ Own wr w.heap.size wr.heap.size ds [⟨A1, c1, ds.map Row.v⟩] ∧ Below w.heap.size w wr) (fun _ i _ => qs.length - (intOf i).toNat)
  case atStart => exact ⟨0, _, _, [], Nat.zero_le _, rfl, rfl, Lib.hid rfl, hlit, hb0⟩
  case round =>
    clear hlit hb0
    obtain ⟨k, A1, c1, ds, hk, rfl, rfl, HX, hO, hb⟩ := hrel
    have hsz := hb.size
    have hds := ordL_size ((qs.map Row.xs).take k)
    have htk : ((qs.map Row.xs).take k).length + sizeX ((qs.map Row.xs).take k) ≤ qs.length + sizeR qs := by
      rw [sizeR_eq, ← List.map_take, List.length_map]
      have h1 := sizeR_sub (List.take_sublist k qs)
      rw [sizeR_eq, sizeR_eq] at h1
      exact h1
    rw [← HX.out, ← sizeR_eq, List.length_map] at hds
    have hdl : ds.length ≤ 1048576 := by omega
    have HD8 := Lib.hid (show ∀ r ∈ ds, r.xs.length ≤ 1048576 from fun r hr => by have := sizeR_mem hr; omega)
    clear hds htk
    rcases Nat.lt_or_ge k qs.length with hlt | hge
    · have HT := Lib.hid (show ordL ((qs.map Row.xs).take (k + 1)) = putL (ds.map Row.xs) qs[k].xs by rw [ordL_take _ k (by simpa using hlt), HX.out]; simp)
      have HO := Lib.hid hO
      clear hO
      go_wp2_with fail
      (with_reducible refine (l3All_b A c qs wr true (h.next hb) HP.out).mono ?_)
      rintro e w1 ⟨rfl, hb1⟩
      have hb2 := hb.trans (hb1.mono hsz)
      have hO1 := (HO.out.below hb1).wider (Nat.le_refl _) hb1.size
      obtain ⟨b, off, rfl, _, hc⟩ := (h.next hb2).read.at (by omega)
      have cc := hc k hlt
      have hin := (h.next hb2).row (List.getElem_mem hlt)
      have hs2 := hb2.size
      have ct := Lib.hid (l3Put_any A1 qs[k].A c1 qs[k].c w.heap.size ds qs[k].xs w1 hO1 hs2 hin hdl HD8.out)
      have hol := hO1.olim (n := ds.length) (by simp)
      clear hc hO1 hb1
      go_wp2_with fail
      (with_reducible refine ct.out.mono ?_)
      rintro e w2 ⟨A4, c4, ps, rfl, hX4, hO4, hg4⟩
      have hb4 := hb2.grown hg4 hs2 (fun g hg => (hol g (by rw [← hg]; exact ownBlock_len _ _ _ _ _)).1)
      have K := Lib.hid (And.intro hX4 (And.intro hO4 hb4))
      clear hX4 hO4 hb4 hg4 hol
      go_wp2_with fail
      go_roundw
      case rel => exact ⟨k + 1, A4, c4, ps, by omega, by go_num, rfl, Lib.hid (by rw [HT.out, K.out.1]), K.out.2.1, K.out.2.2⟩
      case measure => simp [intOf]; omega
    · obtain rfl : k = qs.length := by omega
      have HT := Lib.hid (show ds.map Row.xs = ordL (qs.map Row.xs) by rw [HX.out, List.take_of_length_le (by simp)])
      go_wp2_with fail
      go_ret
      exact ⟨A1, c1, ds, rfl, HT.out, hO, hb⟩
set_option maxHeartbeats 4000000 in
theorem makeBasis_spec (A : Option Addr) (c : Nat) (qs : List Row) (w : World) (h : InL w A c qs) :
    Calls Try.prog 25 #[.slice A qs.length c] w (RetLb w (mkG (qs.map Row.xs)) (mkB (qs.map Row.xs))) := by
  obtain ⟨j0, hj, hy0, hy1, hy2⟩ := info_parts infoL
  have hlen := h.len
  go_enter Try.func25, Try.ntmps25
  go_wp2_with fail
  by_cases hA : allPermB (qs.map Row.xs) = true
  · have HAP := Lib.hid hA
    have HPA := Lib.hid (show ∀ r ∈ qs, permB r.xs = true from fun r hr => by
      unfold allPermB at hA
      have h1 : ((qs.map Row.xs).any fun p => !permB p) = false := by simpa using hA
      have h2 := List.any_eq_false.1 h1 r.xs (List.mem_map.2 ⟨r, hr, rfl⟩)
      simpa using h2)
    (with_reducible refine (l3All_b A c qs w true h hA).mono ?_)
    rintro e w1 ⟨rfl, hb1⟩
    have ct := Lib.hid (orderPerms_spec A c qs w1 (h.next hb1) hA)
    clear hA
    go_wp2_with fail
    (with_reducible refine ct.out.mono ?_)
    rintro e w2 ⟨A1, c1, rs, rfl, hX, hO, hb2⟩
    have hbw := hb1.trans (hb2.mono hb1.size)
    have hrl : rs.length ≤ 1048576 := by
      have h1 := ordL_len (qs.map Row.xs)
      have h2 := congrArg List.length hX
      rw [List.length_map] at h1 h2
      omega
    have HX := Lib.hid hX
    have HP8 := Lib.hid (show ∀ r ∈ rs, r.xs.length ≤ 8 from fun r hr => by
      have h1 := map_memX hX hr
      rw [ordL_mem] at h1
      obtain ⟨q, hq, he⟩ := List.mem_map.1 h1
      rw [← he]; exact (permB_true (HPA.out q hq)).1)
    have hst : Sift (w2.alloc (.cells #[] 22)) w.heap.size w1.heap.size w2.heap.size rs ⟨A1, c1, rs.map Row.v⟩ (some ⟨w2.heap.size, 0, none⟩) 0 [] :=
      ⟨hO.below ((Below.refl _ _).alloc (Nat.le_refl _) _), World.ownsRow_lit w2 #[] 0 hbw.size (by unfold maxLen; omega) rfl, fun g hg => .inr (by injection hg with hg; exact Nat.le_of_eq hg)⟩
    have hbl := hbw.alloc hbw.size (.cells #[] 22)
    have hlo1 := hb1.size
    have hsl : w2.heap.size ≤ (w2.alloc (.cells #[] 22)).heap.size := by simp
    clear hX hb2 hO
    go_wp2_with fail
    go_loopw [5, 6] (fun v i wr => ∃ (k : Nat) (A2 : Option Addr) (c2 : Nat) (kept : List Row), k ≤ rs.length ∧ i = .int .i64 k ∧ v = .slice A2 kept.length c2 ∧ Hid (kept = sieveR rs k) ∧
      Sift wr w.heap.size w1.heap.size w2.heap.size rs ⟨A1, c1, rs.map Row.v⟩ A2 c2 (kept.map Row.v) ∧ Below w.heap.size w wr ∧ w2.heap.size ≤ wr.heap.size) (fun _ i _ => rs.length - (intOf i).toNat)
    case atStart => exact ⟨0, _, _, [], Nat.zero_le _, rfl, rfl, Lib.hid rfl, hst, hbl, hsl⟩
    case round =>
      clear hst hbl hsl
      obtain ⟨k, A2, c2, kept, hk, rfl, rfl, HV, hS, hb, hsz⟩ := hrel
      have hkl : kept.length ≤ k := by
        have h1 := (sieveR_sub rs k hk).length_le
        rw [HV.out]
        rw [List.length_take] at h1
        omega
      have HSUB := Lib.hid (show kept.Sublist rs by rw [HV.out]; exact (sieveR_sub rs k hk).trans (List.take_sublist _ _))
      have hszw := hb.size
      have hka := hS.done (rs' := kept) rfl HSUB.out hlo1 hsz
      have hL : InL wr A2 c2 kept := ⟨by
        have h1 := sizeR_sub HSUB.out
        have h2 := ordL_size (qs.map Row.xs)
        rw [← HX.out, ← sizeR_eq, ← sizeR_eq, List.length_map, List.length_map] at h2
        omega, hka.read⟩
      rcases Nat.lt_or_ge k rs.length with hlt | hge
      · obtain ⟨p, hp⟩ : ∃ p : Row, p = rs[k] := ⟨_, rfl⟩
        have hpm : p ∈ rs := by rw [hp]; exact List.getElem_mem hlt
        have hRd := hS.rows.read
        obtain ⟨b, off, rfl, hbb, hc⟩ := hRd.at (by omega)
        have cc : wr.cell? ⟨b, off + k, none⟩ = some (Value.slice p.A p.xs.length p.c) := by rw [hp]; exact hc k hlt
        have hl8 := HP8.out p hpm
        have HK := Lib.hid (show sieveR rs (k + 1) = if avoidB (kept.map Row.xs) p.xs = true then kept ++ [p] else kept by rw [sieveR_succ rs k hlt, ← hp, HV.out])
        have hinp := row_in hRd hpm (by omega) hsz
        have HK8 := Lib.hid (show ∀ r ∈ kept, r.xs.length ≤ 8 from fun r hr => HP8.out r (HSUB.out.subset hr))
        clear hc hp hRd hka
        go_wp2_with fail
        by_cases hV : avoidB (kept.map Row.xs) p.xs = true
        · have HT := Lib.hid (show sieveR rs (k + 1) = kept ++ [p] by rw [HK.out, if_pos hV])
          (with_reducible refine (l12Avoids_b A2 p.A c2 p.c kept p.xs wr true hL hinp hl8 HK8.out hV).mono ?_)
          rintro e w3 ⟨rfl, hb3⟩
          have hS2 := hS.below hb3
          have hbw3 := hb.trans (hb3.mono hszw)
          have hs3 := hb3.size
          have hsz3 : w2.heap.size ≤ w3.heap.size := by omega
          have cc2 : w3.cell? ⟨b, off + k, none⟩ = some (Value.slice p.A p.xs.length p.c) := (hb3.cell (p := ⟨b, off + k, none⟩) (by show b < wr.heap.size; omega)).trans cc
          have ho2 := hS2.outN (n := kept.length) (by simp)
          have hol := hS2.olim (n := kept.length) (by simp)
          have hwz : w.heap.size ≤ w3.heap.size := hbw3.size
          clear hV hS hL hinp hb3 cc
          go_wp2_with (at_builtin; refine wpList_append_own_at _ rfl _ _ 33 rfl (w.heap.size) 22 j0 (.slice none 0 0) 1 24 Try.underlying33 hj hy0 hy1 hy2 rfl (by decide) _ _ _ rfl (World.ownsRow.alloc ho2 _) ⟨w3.heap.size, 0, none⟩ 1 1 [Value.slice p.A p.xs.length p.c] rfl rfl (cell_one_at _ _ (by simp)) (by intro u hu; simp at hu; subst hu; rfl) (by unfold maxLen; omega) (by omega) (by simp; omega) ?_; intro v9 w9 hown9 hgrow9 _ hat9)
          obtain ⟨A5, c5, rfl, hS3, hg3⟩ := hS2.grow hsz3 (show (kept.map Row.v).length = kept.length by simp) hown9 hgrow9 hat9
          have hb4 := hbw3.grown hg3 hbw3.size hol
          have K := Lib.hid (And.intro hS3 hb4)
          have hsz4 : w2.heap.size ≤ w9.heap.size := by have := hg3.size; omega
          clear hS3 hb4 hown9 hgrow9 hat9 hg3 hS2 ho2 hol hbw3 cc2
          go_wp2
          go_roundw
          case rel => exact ⟨k + 1, A5, c5, kept ++ [p], by omega, by go_num, by rw [List.length_append]; rfl, Lib.hid HT.out.symm, by simpa [Row.v] using K.out.1, K.out.2, hsz4⟩
          case measure => simp [intOf]; omega
        · have HT := Lib.hid (show sieveR rs (k + 1) = kept by rw [HK.out, if_neg hV])
          have hVf : avoidB (kept.map Row.xs) p.xs = false := by simpa using hV
          (with_reducible refine (l12Avoids_b A2 p.A c2 p.c kept p.xs wr false hL hinp hl8 HK8.out hVf).mono ?_)
          rintro e w3 ⟨rfl, hb3⟩
          have hS2 := hS.below hb3
          have hbw3 := hb.trans (hb3.mono hszw)
          have hs3 := hb3.size
          have hsz3 : w2.heap.size ≤ w3.heap.size := by omega
          clear hV hVf hS hL hinp hb3 cc
          go_wp2
          go_roundw
          case rel => exact ⟨k + 1, A2, c2, kept, by omega, by go_num, rfl, Lib.hid HT.out.symm, hS2, hbw3, hsz3⟩
          case measure => simp [intOf]; omega
      · obtain rfl : k = rs.length := by omega
        have HKX := Lib.hid (show kept.map Row.xs = sieve (ordL (qs.map Row.xs)) by rw [HV.out, sieveR_all, HX.out])
        have HFIN := Lib.hid hka
        clear hka hS
        go_wp2_with fail
        by_cases hB : basisB (sieve (ordL (qs.map Row.xs))) = true
        · have HF := Lib.hid (show mkB (qs.map Row.xs) = true by unfold mkB; rw [HAP.out, hB]; rfl)
          have HG := Lib.hid (show mkG (qs.map Row.xs) = sieve (ordL (qs.map Row.xs)) by unfold mkG; rw [if_pos HF.out])
          (with_reducible refine (basis_sb A2 c2 kept wr true hL (by rw [HKX.out]; exact hB)).mono ?_)
          rintro e w3 ⟨rfl, hb3⟩
          clear hB
          go_wp2_with fail
          go_ret2
          rw [HG.out, HF.out]
          exact ⟨A2, c2, kept, rfl, HKX.out, (HFIN.out.below hb3).wider (Nat.le_refl _) hb3.size, hb.trans (hb3.mono hszw)⟩
        · have hBf : basisB (sieve (ordL (qs.map Row.xs))) = false := by simpa using hB
          have HF := Lib.hid (show mkB (qs.map Row.xs) = false by unfold mkB; rw [hBf, Bool.and_false])
          have HG := Lib.hid (show mkG (qs.map Row.xs) = [] by unfold mkG; rw [HF.out]; rfl)
          (with_reducible refine (basis_sb A2 c2 kept wr false hL (by rw [HKX.out]; exact hBf)).mono ?_)
          rintro e w3 ⟨rfl, hb3⟩
          have hb4 := hb.trans (hb3.mono hszw)
          have hlit := Own.lit (lo := w.heap.size) w3 hb4.size
          have hb5 := hb4.alloc hb4.size (.cells #[] 22)
          clear hB hBf
          go_wp2_with fail
          go_ret2
          rw [HG.out, HF.out]
          exact ⟨_, _, [], rfl, rfl, hlit, hb5⟩
  · have hAf : allPermB (qs.map Row.xs) = false := by simpa using hA
    have HF := Lib.hid (show mkB (qs.map Row.xs) = false by unfold mkB; rw [hAf, Bool.false_and])
    have HG := Lib.hid (show mkG (qs.map Row.xs) = [] by unfold mkG; rw [HF.out]; rfl)
    (with_reducible refine (l3All_b A c qs w false h hAf).mono ?_)
    rintro e w1 ⟨rfl, hb1⟩
    have hlit := Own.lit (lo := w.heap.size) w1 hb1.size
    have hb5 := hb1.alloc hb1.size (.cells #[] 22)
    clear hA hAf
    go_wp2_with fail
    go_ret2
    rw [HG.out, HF.out]
    exact ⟨_, _, [], rfl, rfl, hlit, hb5⟩
end Go.Proofs.Ythkggnmfdlggbaa
