/- Occurrences and bases: the roots of the searches, IsBasis in program and reference. -/
import Derived.Test.YthkggnmfdlggbaaDoorH1
import Derived.Test.YthkggnmfdlggbaaDoorH2
import Derived.Test.YthkggnmfdlggbaaDoorR5
import Derived.Test.YthkggnmfdlggbaaDoorL2
import Derived.Deep.RegionHeld3
import Derived.StillTailTactics
namespace Go.Proofs.YthkggnmfdlggbaaDoor
set_option maxRecDepth 100000
open Go Go.RowKit

/-- The two empty literals that the search begins with. -/
theorem find_root (A B : Option Addr) (c d : Nat) (p q : List Int) (w : World) (hp : In w A c p) (hq : In w B d q) (hp8 : p.length ≤ 8) (hq8 : q.length ≤ 8) :
    Calls Tryd.prog 27 #[.slice A p.length c, .slice B q.length d, .slice (some ⟨w.heap.size, 0, none⟩) 0 0, .slice (some ⟨w.heap.size + 1, 0, none⟩) 0 0] ((w.alloc (.cells #[] 3)).alloc (.cells #[] 30)) (RetL w (occL p q)) := by
  have own0 : (w.alloc (.cells #[] 3)).ownsRow w.heap.size 3 1 (Row.v ⟨some ⟨w.heap.size, 0, none⟩, 0, []⟩) 0 (([] : List Int).map (Value.int .i64)) := World.ownsRow_lit w #[] 0 (Nat.le_refl _) (by unfold maxLen; omega) rfl
  have hA : Own (w.alloc (.cells #[] 3)) w.heap.size (w.heap.size + 1) [⟨some ⟨w.heap.size, 0, none⟩, 0, []⟩] [] := by
    have := Own.add (os := []) (r := ⟨some ⟨w.heap.size, 0, none⟩, 0, []⟩) (Own.nil_ (w := w.alloc (.cells #[] 3)) (lo := w.heap.size) (hi := w.heap.size)) own0 (by simp) (Nat.le_refl _)
    simpa using this
  have hB : Own ((w.alloc (.cells #[] 3)).alloc (.cells #[] 30)) w.heap.size (w.heap.size + 1 + 1) [⟨some ⟨w.heap.size, 0, none⟩, 0, []⟩] [⟨some ⟨w.heap.size + 1, 0, none⟩, 0, []⟩] := by
    have h1 := hA.below ((Below.refl _ _).alloc (Nat.le_refl _) (.cells #[] 30))
    exact (h1.wider (Nat.le_refl _) (Nat.le_succ _)).with_ (A := some ⟨w.heap.size + 1, 0, none⟩) (c := 0) (vs := []) (by
      have := World.ownsRow_lit (base := w.heap.size) (e := 30) (size := 1) (w.alloc (.cells #[] 3)) #[] 0 (by simp) (by unfold maxLen; omega) rfl
      simpa using this) (by simp)
  have hb0 : Below w.heap.size w ((w.alloc (.cells #[] 3)).alloc (.cells #[] 30)) := ((Below.refl _ _).alloc (Nat.le_refl _) _).alloc (by simp) _
  have hpow : p.length ^ q.length ≤ 16777216 := by
    have h1 : p.length ^ q.length ≤ 8 ^ q.length := Nat.pow_le_pow_left hp8 _
    have h2 : 8 ^ q.length ≤ 8 ^ 8 := Nat.pow_le_pow_right (by omega) hq8
    omega
  have FSc := find_rec p q hp8 hq8 q.length [] [] ⟨some ⟨w.heap.size, 0, none⟩, 0, []⟩ A B (some ⟨w.heap.size + 1, 0, none⟩) c d 0 w.heap.size ((w.alloc (.cells #[] 3)).alloc (.cells #[] 30)) (by simp) (Asc.nil _) (by simp; omega) (by simp; omega) (hp.rd.below hb0) (hq.rd.below hb0) (by simpa using hB)
  exact FSc.mono fun e w' ⟨A', c', rs', he, hx, hO, hb⟩ => ⟨A', c', rs', by simpa using he, hx, by simpa using hO, hb0.trans hb⟩
set_option maxHeartbeats 800000 in
theorem l7Has_b (A B : Option Addr) (c d : Nat) (p q : List Int) (w : World) (b : Bool) (hp : In w A c p) (hq : In w B d q) (hp8 : p.length ≤ 8) (hq8 : q.length ≤ 8) (hb : hasB p q = b) :
    Calls Tryd.prog 20 #[.slice A p.length c, .slice B q.length d] w (Rb w (.bool b)) := by
  subst hb
  have FR := Lib.hid (find_root A B c d p q w hp hq hp8 hq8)
  go_enter Tryd.func20, Tryd.ntmps20
  go_wp2_with fail
  (with_reducible refine FR.out.mono ?_)
  rintro e w1 ⟨A1, c1, rs, rfl, hX, hO, hb1⟩
  have HE := Lib.hid (show decide (0 < rs.length) = hasB p q by
    unfold hasB
    rw [← hX]
    cases rs <;> simp)
  clear hX hO FR
  go_wp2_with fail
  go_ret
  exact ⟨ret_bool (by first | exact HE.out | (rw [← HE.out]; simp; done) | (rw [← HE.out, Bool.eq_iff_iff]; simp; omega)), hb1⟩

/-- What a basis asks at the place k. -/
def basAt (L : List (List Int)) (k : Nat) : Bool :=
  permB (L[k]?.getD []) && decide ((L[k]?.getD []).length ≠ 0) && (decide (k = 0) || decide (cmpP (L[k - 1]?.getD []) (L[k]?.getD []) < 0)) && (List.range k).all fun i => !hasB (L[k]?.getD []) (L[i]?.getD [])
def basTo (L : List (List Int)) (k : Nat) : Bool := (List.range k).all (basAt L)
theorem basTo_succ (L : List (List Int)) (k : Nat) : basTo L (k + 1) = (basTo L k && basAt L k) := by simp [basTo, List.range_succ]
theorem basTo_false {L : List (List Int)} {k m : Nat} (h : k < m) (ht : basAt L k = false) : basTo L m = false := by
  unfold basTo
  rw [List.all_eq_false]
  exact ⟨k, List.mem_range.2 h, by simp [ht]⟩
theorem basTo_perm {L : List (List Int)} {k j : Nat} (h : basTo L k = true) (hj : j < k) (hl : j < L.length) : permB L[j] = true := by
  unfold basTo at h
  have := List.all_eq_true.1 h j (List.mem_range.2 hj)
  unfold basAt at this
  rw [List.getElem?_eq_getElem hl] at this
  simp only [Option.getD_some, Bool.and_eq_true] at this
  exact this.1.1.1
def basisB (L : List (List Int)) : Bool := decide (L.length ≤ 8) && basTo L L.length
def nohasTo (L : List (List Int)) (p : List Int) (i : Nat) : Bool := (List.range i).all fun i => !hasB p (L[i]?.getD [])
theorem nohasTo_succ (L : List (List Int)) (p : List Int) (i : Nat) : nohasTo L p (i + 1) = (nohasTo L p i && !hasB p (L[i]?.getD [])) := by simp [nohasTo, List.range_succ]
theorem nohasTo_false {L : List (List Int)} {p : List Int} {k m : Nat} (h : k < m) (ht : hasB p (L[k]?.getD []) = true) : nohasTo L p m = false := by
  unfold nohasTo
  rw [List.all_eq_false]
  exact ⟨k, List.mem_range.2 h, by simp [ht]⟩
theorem before_cmp (p q : List Int) : before p q = decide (cmpP p q < 0) := by
  unfold before cmpP
  by_cases h : p.length = q.length
  · rw [if_pos h, if_pos h]
  · rw [if_neg h, if_neg h]
    unfold cmpI
    rw [decide_eq_decide]
    constructor
    · intro hlt; rw [if_pos (by omega)]; omega
    · intro hlt
      split at hlt
      · omega
      · split at hlt <;> omega
theorem basAt_row {rs : List Row} {k : Nat} (hk : k < rs.length) : basAt (rs.map Row.xs) k = (permB rs[k].xs && decide (rs[k].xs.length ≠ 0) && (decide (k = 0) || decide (cmpP ((rs.map Row.xs)[k - 1]?.getD []) rs[k].xs < 0)) && nohasTo (rs.map Row.xs) rs[k].xs k) := by
  have hX : (rs.map Row.xs)[k]?.getD [] = rs[k].xs := by simp [hk]
  unfold basAt nohasTo
  rw [hX]
theorem getX {rs : List Row} {k : Nat} (hk : k < rs.length) : (rs.map Row.xs)[k]?.getD [] = rs[k].xs := by simp [hk]

set_option maxHeartbeats 4000000 in
theorem basis_impl (A : Option Addr) (c : Nat) (rs : List Row) (w : World) (h : InL w A c rs) :
    Calls Tryd.prog 14 #[.slice A rs.length c] w (Rb w (.bool (basisB (rs.map Row.xs)))) := by
  have hlen := h.len
  have hcap := h.read.ocap _ (List.mem_singleton.2 rfl)
  simp only [List.length_map] at hcap
  by_cases h8 : rs.length ≤ 8
  · have HB := Lib.hid (show basisB (rs.map Row.xs) = basTo (rs.map Row.xs) rs.length by unfold basisB; rw [List.length_map, decide_eq_true h8, Bool.true_and])
    go_enter Tryd.func14, Tryd.ntmps14
    go_wp2_with fail
    go_loopw [12] (fun i wr => ∃ k : Nat, k ≤ rs.length ∧ i = .int .i64 k ∧ Hid (basTo (rs.map Row.xs) k = true) ∧ Below w.heap.size w wr) (fun i _ => rs.length - (intOf i).toNat)
    case atStart => exact ⟨0, Nat.zero_le _, rfl, Lib.hid rfl, Below.refl _ _⟩
    case round =>
      obtain ⟨k, hk, rfl, HA, hb⟩ := hrel
      by_cases hlt : k < rs.length
      · have hL := h.next hb
        obtain ⟨b, off, rfl, _, hc⟩ := hL.read.at (by omega)
        have c1 := hc k hlt
        have HK := Lib.hid (basAt_row hlt)
        have HS := Lib.hid (basTo_succ (rs.map Row.xs) k)
        have hin := hL.row (List.getElem_mem hlt)
        clear hc
        go_wp2_with fail
        by_cases hp : permB rs[k].xs = true
        · have HP := Lib.hid hp
          clear hp
          (with_reducible refine (isPerm_ib rs[k].A rs[k].c rs[k].xs wr true hin HP.out).mono ?_)
          rintro e w1 ⟨rfl, hb1⟩
          have hb2 := hb.trans (hb1.mono hb.size)
          have hL2 := h.next hb2
          obtain ⟨b', off', he, _, hc⟩ := hL2.read.at (by omega)
          injection he with he
          injection he with he1 he2 _
          subst he1 he2
          have hin2 := hL2.row (List.getElem_mem hlt)
          have hp8 := (permB_true HP.out).1
          clear hb1
          by_cases h0 : rs[k].xs.length = 0
          · have HF := Lib.hid (show basTo (rs.map Row.xs) rs.length = false from basTo_false hlt (by rw [HK.out, h0]; simp))
            have d0 : ((rs[k].xs.length : Int) == 0) = true := by simp; exact List.eq_nil_of_length_eq_zero h0
            clear h0 hc
            go_wp2_with fail
            go_ret
            exact ⟨ret_bool (by rw [HB.out, HF.out]), hb2⟩
          · have d0 : ((rs[k].xs.length : Int) == 0) = false := by simp; intro e; rw [e] at h0; simp at h0
            have HL0 := Lib.hid (show decide (rs[k].xs.length ≠ 0) = true from decide_eq_true h0)
            clear h0
            by_cases hg : k = 0 ∨ cmpP ((rs.map Row.xs)[k - 1]?.getD []) rs[k].xs < 0
            · have HG := Lib.hid (show (decide (k = 0) || decide (cmpP ((rs.map Row.xs)[k - 1]?.getD []) rs[k].xs < 0)) = true by
                rcases hg with hg | hg
                · rw [decide_eq_true hg]; rfl
                · rw [decide_eq_true hg, Bool.or_true])
              rcases Nat.eq_zero_or_pos k with hk0 | hk0
              case' inl =>
                have d1 : decide ((k : Int) > 0) = false := decide_eq_false (by omega)
                have d2 : k ≤ 0 := by omega
                obtain ⟨w3, hw3⟩ : ∃ w3, w3 = w1 := ⟨_, rfl⟩
                subst hw3
                have hb3 := hb2
                clear hg hc hk0
                go_wp2_with fail
              case' inr =>
                have d1 : decide ((k : Int) > 0) = true := decide_eq_true (by omega)
                have d2 : decide (0 < k) = true := decide_eq_true (by omega)
                have hpl : k - 1 < rs.length := by omega
                have c2 := hc (k - 1) hpl
                have hinp := hL2.row (List.getElem_mem hpl)
                have e0 : 1 ≤ (k : Int) := by omega
                have e2 : 0 ≤ (k : Int) - 1 := by omega
                have e3 : (k : Int) - 1 < rs.length := by omega
                have e1 : ((k : Int) - 1).toNat = k - 1 := by omega
                have HCM := Lib.hid (show decide (cmpP rs[k - 1].xs rs[k].xs ≥ 0) = false by
                  rw [getX hpl] at hg
                  rw [decide_eq_false_iff_not]
                  rcases hg with hg | hg
                  · omega
                  · omega)
                clear hg hc
                go_wp2_with fail
                (with_reducible refine (comparePerms_any rs[k - 1].A rs[k].A rs[k - 1].c rs[k].c rs[k - 1].xs.length rs[k].xs.length rs[k - 1].xs rs[k].xs w1 rfl rfl hinp.len hin2.len hinp.rd hin2.rd).mono ?_)
                rintro e w3 ⟨rfl, hb3⟩
                have hb3 := hb2.trans (hb3.mono hb2.size)
                have HCM2 := HCM.out
                clear hk0 e0 e2 e3 e1 c2 hinp
                go_wp2_with fail
              all_goals
                clear d1 d2
                obtain ⟨wo, rfl⟩ : ∃ wo : World, wo = wr := ⟨_, rfl⟩
                go_loopw [43] (fun i wr => ∃ j : Nat, j ≤ k ∧ i = .int .i64 j ∧ Hid (nohasTo (rs.map Row.xs) rs[k].xs j = true) ∧ Below w3.heap.size w3 wr) (fun i _ => k - (intOf i).toNat)
                case atStart => exact ⟨0, Nat.zero_le _, rfl, Lib.hid rfl, Below.refl _ _⟩
                case round =>
                  obtain ⟨j, hj, rfl, HN, hb4⟩ := hrel
                  have hbz := hb3.trans (hb4.mono hb3.size)
                  by_cases hjk : j < k
                  · have hL4 := h.next hbz
                    have hjl : j < rs.length := by omega
                    obtain ⟨b', off', he, _, hc⟩ := hL4.read.at (by omega)
                    injection he with he
                    injection he with he1 he2 _
                    subst he1 he2
                    have c3 := hc j hjl
                    have hinj := hL4.row (List.getElem_mem hjl)
                    have hink := hL4.row (List.getElem_mem hlt)
                    have hpj : permB rs[j].xs = true := by
                      have := basTo_perm HA.out hjk (by rw [List.length_map]; omega)
                      simpa using this
                    have hpj8 := (permB_true hpj).1
                    have HNS := Lib.hid (nohasTo_succ (rs.map Row.xs) rs[k].xs j)
                    clear hpj hc
                    by_cases hh : hasB rs[k].xs rs[j].xs = true
                    · have HH := Lib.hid hh
                      have HF := Lib.hid (show basTo (rs.map Row.xs) rs.length = false from basTo_false hlt (by
                        have hnf : nohasTo (rs.map Row.xs) rs[k].xs k = false := nohasTo_false hjk (by rw [getX hjl]; exact hh)
                        rw [HK.out, hnf, Bool.and_false]))
                      clear hh
                      go_wp2_with fail
                      all_goals
                        (with_reducible refine (has_b rs[k].A rs[j].A rs[k].c rs[j].c rs[k].xs rs[j].xs _ true hink hinj (by omega) (by omega) HH.out).mono ?_)
                        rintro e w4 ⟨rfl, hb5⟩
                        go_wp2_with fail
                        go_ret
                        exact ⟨ret_bool (by rw [HB.out, HF.out]), hbz.trans (hb5.mono hbz.size)⟩
                    · have hhf : hasB rs[k].xs rs[j].xs = false := by simpa using hh
                      have HH := Lib.hid hhf
                      have HE := Lib.hid (show nohasTo (rs.map Row.xs) rs[k].xs (j + 1) = true by rw [HNS.out, HN.out, getX hjl, hhf]; rfl)
                      clear hh hhf
                      go_wp2_with fail
                      all_goals
                        (with_reducible refine (has_b rs[k].A rs[j].A rs[k].c rs[j].c rs[k].xs rs[j].xs _ false hink hinj (by omega) (by omega) HH.out).mono ?_)
                        rintro e w4 ⟨rfl, hb5⟩
                        go_wp2_with fail
                        go_roundw
                        case rel => exact ⟨j + 1, by omega, by go_num, HE, hb4.trans (hb5.mono hb4.size)⟩
                        case measure => (simp [intOf]) <;> omega
                  · obtain rfl : j = k := by omega
                    have HE := Lib.hid (show basTo (rs.map Row.xs) (j + 1) = true by rw [HS.out, HA.out, HK.out, HP.out, HL0.out, HG.out, HN.out]; rfl)
                    go_wp2_with fail
                    go_roundw
                    case rel => exact ⟨j + 1, by omega, by go_num, HE, hbz⟩
                    case measure => (simp [intOf]) <;> omega
            · have hk0 : 0 < k := by
                rcases Nat.eq_zero_or_pos k with h1 | h1
                · exact absurd (Or.inl h1) hg
                · exact h1
              have d1 : decide ((k : Int) > 0) = true := decide_eq_true (by omega)
              have d2 : decide (0 < k) = true := decide_eq_true (by omega)
              have hpl : k - 1 < rs.length := by omega
              have c2 := hc (k - 1) hpl
              have hinp := hL2.row (List.getElem_mem hpl)
              have e0 : 1 ≤ (k : Int) := by omega
              have e2 : 0 ≤ (k : Int) - 1 := by omega
              have e3 : (k : Int) - 1 < rs.length := by omega
              have e1 : ((k : Int) - 1).toNat = k - 1 := by omega
              have HCM := Lib.hid (show decide (cmpP rs[k - 1].xs rs[k].xs ≥ 0) = true by
                rw [getX hpl] at hg
                rw [decide_eq_true_eq]
                have := fun h => hg (Or.inr h)
                omega)
              have HF := Lib.hid (show basTo (rs.map Row.xs) rs.length = false from basTo_false hlt (by
                have hgf : (decide (k = 0) || decide (cmpP ((rs.map Row.xs)[k - 1]?.getD []) rs[k].xs < 0)) = false := by
                  rw [Bool.or_eq_false_iff, decide_eq_false_iff_not, decide_eq_false_iff_not]
                  exact ⟨fun h => hg (Or.inl h), fun h => hg (Or.inr h)⟩
                rw [HK.out, hgf, Bool.and_false, Bool.false_and]))
              clear hg hc
              go_wp2_with fail
              (with_reducible refine (comparePerms_any rs[k - 1].A rs[k].A rs[k - 1].c rs[k].c rs[k - 1].xs.length rs[k].xs.length rs[k - 1].xs rs[k].xs w1 rfl rfl hinp.len hin2.len hinp.rd hin2.rd).mono ?_)
              rintro e w3 ⟨rfl, hb3⟩
              have HCM2 := HCM.out
              go_wp2_with fail
              go_ret
              exact ⟨ret_bool (by rw [HB.out, HF.out]), hb2.trans (hb3.mono hb2.size)⟩
        · have hpf : permB rs[k].xs = false := by simpa using hp
          have HF := Lib.hid (show basTo (rs.map Row.xs) rs.length = false from basTo_false hlt (by rw [HK.out, hpf]; simp))
          clear hp
          (with_reducible refine (isPerm_ib rs[k].A rs[k].c rs[k].xs wr false hin hpf).mono ?_)
          rintro e w1 ⟨rfl, hb1⟩
          clear hpf
          go_wp2_with fail
          go_ret
          exact ⟨ret_bool (by rw [HB.out, HF.out]), hb.trans (hb1.mono hb.size)⟩
      · obtain rfl : k = rs.length := by omega
        go_wp2_with fail
        go_ret
        exact ⟨ret_bool (by rw [HB.out, HA.out]), hb⟩
  · have HB := Lib.hid (show basisB (rs.map Row.xs) = false by unfold basisB; rw [List.length_map, decide_eq_false h8, Bool.false_and])
    go_enter Tryd.func14, Tryd.ntmps14
    go_wp2_with fail
    go_ret
    exact ⟨ret_bool (by rw [HB.out]), Below.refl _ _⟩
theorem l2Before_b (A A' : Option Addr) (c c' n m : Nat) (xs ys : List Int) (w : World) (b : Bool) (hn : xs.length = n) (hm : ys.length = m) (hl : n ≤ 4611686018427387904) (hl' : m ≤ 4611686018427387904)
    (hx : Rd (Value.int .i64) w w.heap.size A xs) (hy : Rd (Value.int .i64) w w.heap.size A' ys) (hb : before xs ys = b) :
    Calls Tryd.prog 19 #[.slice A n c, .slice A' m c'] w (Rq w (.bool b)) := by
  subst hb; exact l2Before_any A A' c c' n m xs ys w hn hm hl hl' hx hy
set_option maxHeartbeats 4000000 in
theorem basis_spec (A : Option Addr) (c : Nat) (rs : List Row) (w : World) (h : InL w A c rs) :
    Calls Tryd.prog 11 #[.slice A rs.length c] w (Rb w (.bool (basisB (rs.map Row.xs)))) := by
  have hlen := h.len
  have hcap := h.read.ocap _ (List.mem_singleton.2 rfl)
  simp only [List.length_map] at hcap
  have HB := Lib.hid (show basisB (rs.map Row.xs) = (decide (rs.length ≤ 8) && basTo (rs.map Row.xs) rs.length) by unfold basisB; rw [List.length_map])
  go_enter Tryd.func11, Tryd.ntmps11
  go_wp2_with fail
  go_loopw [3] (fun i wr => ∃ k : Nat, k ≤ rs.length ∧ i = .int .i64 k ∧ Hid (basTo (rs.map Row.xs) k = true) ∧ Below w.heap.size w wr) (fun i _ => rs.length - (intOf i).toNat)
  case atStart => exact ⟨0, Nat.zero_le _, rfl, Lib.hid rfl, Below.refl _ _⟩
  case round =>
    obtain ⟨k, hk, rfl, HA, hb⟩ := hrel
    by_cases hlt : k < rs.length
    · have hL := h.next hb
      obtain ⟨b, off, rfl, _, hc⟩ := hL.read.at (by omega)
      have c1 := hc k hlt
      have HK := Lib.hid (basAt_row hlt)
      have HS := Lib.hid (basTo_succ (rs.map Row.xs) k)
      have hin := hL.row (List.getElem_mem hlt)
      have i0 : (0 : Int) ≤ (k : Int) := Int.natCast_nonneg _
      have i1 : (k : Int) < (rs.length : Int) := by omega
      by_cases hp : permB rs[k].xs = true
      · have HP := Lib.hid hp
        have hp8 := (permB_true hp).1
        clear hp
        by_cases h0 : rs[k].xs.length = 0
        · have HF := Lib.hid (show basTo (rs.map Row.xs) rs.length = false from basTo_false hlt (by rw [HK.out, h0]; simp))
          have d0 : ((rs[k].xs.length : Int) == 0) = true := by simp; exact List.eq_nil_of_length_eq_zero h0
          clear h0 hc
          go_wp2_with fail
          go_quiet ((go_at_call 18; exact quiet_rq (isPerm_sb rs[k].A rs[k].c rs[k].xs _ true (hin.dr (Dr.of _ _)) HP.out)))
          go_wp2_with fail
          go_ret
          exact ⟨ret_bool (by rw [HB.out, HF.out, Bool.and_false]), below_dr hb (by first | with_reducible exact Dr.of _ _ | with_reducible exact Dr.of2 _ _ _ | with_reducible exact Dr.refl _ | with_reducible exact Dr.of3 _ _ _)⟩
        · have d0 : ((rs[k].xs.length : Int) == 0) = false := by simp; intro e; rw [e] at h0; simp at h0
          have HL0 := Lib.hid (show decide (rs[k].xs.length ≠ 0) = true from decide_eq_true h0)
          clear h0
          by_cases hg : k = 0 ∨ cmpP ((rs.map Row.xs)[k - 1]?.getD []) rs[k].xs < 0
          · have HG := Lib.hid (show (decide (k = 0) || decide (cmpP ((rs.map Row.xs)[k - 1]?.getD []) rs[k].xs < 0)) = true by
              rcases hg with hg | hg
              · rw [decide_eq_true hg]; rfl
              · rw [decide_eq_true hg, Bool.or_true])
            obtain ⟨wo, rfl⟩ : ∃ wo : World, wo = wr := ⟨_, rfl⟩
            rcases Nat.eq_zero_or_pos k with hk0 | hk0
            case' inl =>
              have d1 : decide ((k : Int) > 0) = false := decide_eq_false (by omega)
              have d3 : decide (0 < k) = false := decide_eq_false (by omega)
              have d2 : k ≤ 0 := by omega
              clear hg hc hk0
              go_wp2_with fail
              go_quiet ((go_at_call 18; exact quiet_rq (isPerm_sb rs[k].A rs[k].c rs[k].xs _ true (hin.dr (Dr.of _ _)) HP.out)))
              go_wp2_with fail
              clear d1 d2 d3
            case' inr =>
              have d1 : decide ((k : Int) > 0) = true := decide_eq_true (by omega)
              have d2 : decide (0 < k) = true := decide_eq_true (by omega)
              have hpl : k - 1 < rs.length := by omega
              have c2 := hc (k - 1) hpl
              have hinp := hL.row (List.getElem_mem hpl)
              have e0 : 1 ≤ (k : Int) := by omega
              have e2 : 0 ≤ (k : Int) - 1 := by omega
              have e3 : (k : Int) - 1 < rs.length := by omega
              have e1 : ((k : Int) - 1).toNat = k - 1 := by omega
              have e4 : IntKind.i64.wrap ((k : Int) - 1) = (k : Int) - 1 := IntWalk.i64_in _ (by omega)
              have hq1 : rs[k - 1].xs.length ≤ 4611686018427387904 := by have := hinp.len; omega
              have hq2 : rs[k].xs.length ≤ 4611686018427387904 := by omega
              have hr1 := hinp.rd
              have hr2 := hin.rd
              have HCM := Lib.hid (show before rs[k - 1].xs rs[k].xs = true by
                rw [getX hpl] at hg
                rw [before_cmp, decide_eq_true_eq]
                rcases hg with hg | hg
                · omega
                · exact hg)
              clear hg hc hk0 hinp
              go_wp2_with fail
              go_quiet ((first | (go_at_call 18; exact quiet_rq (isPerm_sb rs[k].A rs[k].c rs[k].xs _ true (hin.dr (Dr.of _ _)) HP.out)) | (go_at_call 19; exact quiet_rq (l2Before_b _ _ _ _ _ _ rs[k - 1].xs rs[k].xs _ true rfl rfl hq1 hq2 (hr1.drewN _) (hr2.drewN _) HCM.out))))
              go_wp2_with fail
              clear d1 d2 e0 e1 e2 e3 e4 hq1 hq2 hr1 hr2 c2
            all_goals
              go_loopw [4] (fun i wr => ∃ j : Nat, j ≤ k ∧ i = .int .i64 j ∧ Hid (nohasTo (rs.map Row.xs) rs[k].xs j = true) ∧ Below w.heap.size w wr) (fun i _ => k - (intOf i).toNat)
              case atStart => exact ⟨0, Nat.zero_le _, rfl, Lib.hid rfl, below_dr hb (by first | with_reducible exact Dr.of _ _ | with_reducible exact Dr.of2 _ _ _ | with_reducible exact Dr.refl _ | with_reducible exact Dr.of3 _ _ _)⟩
              case round =>
                obtain ⟨j, hj, rfl, HN, hbz⟩ := hrel
                by_cases hjk : j < k
                · have hL4 := h.next hbz
                  have hjl : j < rs.length := by omega
                  obtain ⟨b', off', he, _, hc⟩ := hL4.read.at (by omega)
                  injection he with he
                  injection he with he1 he2 _
                  subst he1 he2
                  have c3 : wr.drew.cell? ⟨b, off + j, none⟩ = some (Value.slice rs[j].A rs[j].xs.length rs[j].c) := hc j hjl
                  have c4 : wr.drew.cell? ⟨b, off + k, none⟩ = some (Value.slice rs[k].A rs[k].xs.length rs[k].c) := hc k hlt
                  have c5 := hc j hjl
                  have c6 := hc k hlt
                  have hinj := (hL4.dr (Dr.refl _).drew).row (List.getElem_mem hjl)
                  have hink := (hL4.dr (Dr.refl _).drew).row (List.getElem_mem hlt)
                  have i2 : (0 : Int) ≤ (j : Int) := Int.natCast_nonneg _
                  have i3 : (j : Int) < (rs.length : Int) := by omega
                  have hpj : permB rs[j].xs = true := by
                    have := basTo_perm HA.out hjk (by rw [List.length_map]; omega)
                    simpa using this
                  have hpj8 := (permB_true hpj).1
                  have HNS := Lib.hid (nohasTo_succ (rs.map Row.xs) rs[k].xs j)
                  have hbd : Below w.heap.size w wr.drew := below_dr hbz (Dr.refl _).drew
                  clear hpj hc
                  by_cases hh : hasB rs[k].xs rs[j].xs = true
                  · have HH := Lib.hid hh
                    have HF := Lib.hid (show basTo (rs.map Row.xs) rs.length = false from basTo_false hlt (by
                      have hnf : nohasTo (rs.map Row.xs) rs[k].xs k = false := nohasTo_false hjk (by rw [getX hjl]; exact hh)
                      rw [HK.out, hnf, Bool.and_false]))
                    clear hh
                    go_wp2_with fail
                    all_goals
                      go_still_tail 8, (by kernel_rfl)
                      go_wp2_with fail
                      (with_reducible refine (l7Has_b rs[k].A rs[j].A rs[k].c rs[j].c rs[k].xs rs[j].xs _ true hink hinj (by omega) (by omega) HH.out).mono ?_)
                      rintro e w4 ⟨rfl, hb5⟩
                      go_wp2_with fail
                      go_ret
                      exact ⟨ret_bool (by rw [HB.out, HF.out, Bool.and_false]), hbd.trans (hb5.mono hbd.size)⟩
                  · have hhf : hasB rs[k].xs rs[j].xs = false := by simpa using hh
                    have HH := Lib.hid hhf
                    have HE := Lib.hid (show nohasTo (rs.map Row.xs) rs[k].xs (j + 1) = true by rw [HNS.out, HN.out, getX hjl, hhf]; rfl)
                    clear hh hhf
                    go_wp2_with fail
                    all_goals
                      go_still_tail 8, (by kernel_rfl)
                      go_wp2_with fail
                      (with_reducible refine (l7Has_b rs[k].A rs[j].A rs[k].c rs[j].c rs[k].xs rs[j].xs _ false hink hinj (by omega) (by omega) HH.out).mono ?_)
                      rintro e w4 ⟨rfl, hb5⟩
                      go_wp2_with fail
                      go_roundw
                      case rel => exact ⟨j + 1, by omega, by go_num, HE, hbd.trans (hb5.mono hbd.size)⟩
                      case measure => (simp [intOf]) <;> omega
                · obtain rfl : j = k := by omega
                  have HE := Lib.hid (show basTo (rs.map Row.xs) (j + 1) = true by rw [HS.out, HA.out, HK.out, HP.out, HL0.out, HG.out, HN.out]; rfl)
                  go_wp2_with fail
                  go_roundw
                  case rel => exact ⟨j + 1, by omega, by go_num, HE, hbz⟩
                  case measure => (simp [intOf]) <;> omega
          · have hk0 : 0 < k := by
              rcases Nat.eq_zero_or_pos k with h1 | h1
              · exact absurd (Or.inl h1) hg
              · exact h1
            have d1 : decide ((k : Int) > 0) = true := decide_eq_true (by omega)
            have d2 : decide (0 < k) = true := decide_eq_true (by omega)
            have hpl : k - 1 < rs.length := by omega
            have c2 := hc (k - 1) hpl
            have hinp := hL.row (List.getElem_mem hpl)
            have e0 : 1 ≤ (k : Int) := by omega
            have e2 : 0 ≤ (k : Int) - 1 := by omega
            have e3 : (k : Int) - 1 < rs.length := by omega
            have e1 : ((k : Int) - 1).toNat = k - 1 := by omega
            have e4 : IntKind.i64.wrap ((k : Int) - 1) = (k : Int) - 1 := IntWalk.i64_in _ (by omega)
            have hq1 : rs[k - 1].xs.length ≤ 4611686018427387904 := by have := hinp.len; omega
            have hq2 : rs[k].xs.length ≤ 4611686018427387904 := by omega
            have hr1 := hinp.rd
            have hr2 := hin.rd
            have HCM := Lib.hid (show before rs[k - 1].xs rs[k].xs = false by
              rw [getX hpl] at hg
              rw [before_cmp, decide_eq_false_iff_not]
              exact fun h => hg (Or.inr h))
            have HF := Lib.hid (show basTo (rs.map Row.xs) rs.length = false from basTo_false hlt (by
              have hgf : (decide (k = 0) || decide (cmpP ((rs.map Row.xs)[k - 1]?.getD []) rs[k].xs < 0)) = false := by
                rw [Bool.or_eq_false_iff, decide_eq_false_iff_not, decide_eq_false_iff_not]
                exact ⟨fun h => hg (Or.inl h), fun h => hg (Or.inr h)⟩
              rw [HK.out, hgf, Bool.and_false, Bool.false_and]))
            clear hg hc hk0 hinp
            go_wp2_with fail
            go_quiet ((first | (go_at_call 18; exact quiet_rq (isPerm_sb rs[k].A rs[k].c rs[k].xs _ true (hin.dr (Dr.of _ _)) HP.out)) | (go_at_call 19; exact quiet_rq (l2Before_b _ _ _ _ _ _ rs[k - 1].xs rs[k].xs _ false rfl rfl hq1 hq2 (hr1.drewN _) (hr2.drewN _) HCM.out))))
            go_wp2_with fail
            go_ret
            exact ⟨ret_bool (by rw [HB.out, HF.out, Bool.and_false]), below_dr hb (by first | with_reducible exact Dr.of _ _ | with_reducible exact Dr.of2 _ _ _ | with_reducible exact Dr.refl _ | with_reducible exact Dr.of3 _ _ _)⟩
      · have hpf : permB rs[k].xs = false := by simpa using hp
        have HF := Lib.hid (show basTo (rs.map Row.xs) rs.length = false from basTo_false hlt (by rw [HK.out, hpf]; simp))
        have HP := Lib.hid hpf
        clear hp hpf hc
        go_wp2_with fail
        go_quiet ((go_at_call 18; exact quiet_rq (isPerm_sb rs[k].A rs[k].c rs[k].xs _ false (hin.dr (Dr.of _ _)) HP.out)))
        go_wp2_with fail
        go_ret
        exact ⟨ret_bool (by rw [HB.out, HF.out, Bool.and_false]), below_dr hb (by first | with_reducible exact Dr.of _ _ | with_reducible exact Dr.of2 _ _ _ | with_reducible exact Dr.refl _ | with_reducible exact Dr.of3 _ _ _)⟩
    · obtain rfl : k = rs.length := by omega
      go_wp2_with fail
      go_ret
      exact ⟨ret_bool (by rw [HB.out, HA.out, Bool.and_true, decide_eq_decide]; omega), hb⟩
end Go.Proofs.YthkggnmfdlggbaaDoor
