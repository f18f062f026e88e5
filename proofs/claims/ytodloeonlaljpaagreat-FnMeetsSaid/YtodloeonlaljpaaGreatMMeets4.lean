/- Several texts in one, each with its own head: H3, G1, G2, G3, G4, G5, G7, M4. No program of ours. -/
import Derived.Deep.RegionHeld3
import Derived.StillTailTactics
import Derived.Test.YtodloeonlaljpaaGreatMMeets3
/- Occurrences and bases: the roots of the searches, IsBasis in program and reference. -/
namespace Go.Proofs.YtodloeonlaljpaaGreat
set_option maxRecDepth 100000
open Go Go.RowKit

/-- The two empty literals that the search begins with. -/
theorem find_root (A B : Option Addr) (c d : Nat) (p q : List Int) (w : World) (hp : In w A c p) (hq : In w B d q) (hp8 : p.length ≤ 8) (hq8 : q.length ≤ 8) :
    Calls Tryz.prog 112 #[.slice A p.length c, .slice B q.length d, .slice (some ⟨w.heap.size, 0, none⟩) 0 0, .slice (some ⟨w.heap.size + 1, 0, none⟩) 0 0] ((w.alloc (.cells #[] 3)).alloc (.cells #[] 36)) (RetL w (occL p q)) := by
  have own0 : (w.alloc (.cells #[] 3)).ownsRow w.heap.size 3 1 (Row.v ⟨some ⟨w.heap.size, 0, none⟩, 0, []⟩) 0 (([] : List Int).map (Value.int .i64)) := World.ownsRow_lit w #[] 0 (Nat.le_refl _) (by unfold maxLen; omega) rfl
  have hA : Own (w.alloc (.cells #[] 3)) w.heap.size (w.heap.size + 1) [⟨some ⟨w.heap.size, 0, none⟩, 0, []⟩] [] := by
    have := Own.add (os := []) (r := ⟨some ⟨w.heap.size, 0, none⟩, 0, []⟩) (Own.nil_ (w := w.alloc (.cells #[] 3)) (lo := w.heap.size) (hi := w.heap.size)) own0 (by simp) (Nat.le_refl _)
    simpa using this
  have hB : Own ((w.alloc (.cells #[] 3)).alloc (.cells #[] 36)) w.heap.size (w.heap.size + 1 + 1) [⟨some ⟨w.heap.size, 0, none⟩, 0, []⟩] [⟨some ⟨w.heap.size + 1, 0, none⟩, 0, []⟩] := by
    have h1 := hA.below ((Below.refl _ _).alloc (Nat.le_refl _) (.cells #[] 36))
    exact (h1.wider (Nat.le_refl _) (Nat.le_succ _)).with_ (A := some ⟨w.heap.size + 1, 0, none⟩) (c := 0) (vs := []) (by
      have := World.ownsRow_lit (base := w.heap.size) (e := 36) (size := 1) (w.alloc (.cells #[] 3)) #[] 0 (by simp) (by unfold maxLen; omega) rfl
      simpa using this) (by simp)
  have hb0 : Below w.heap.size w ((w.alloc (.cells #[] 3)).alloc (.cells #[] 36)) := ((Below.refl _ _).alloc (Nat.le_refl _) _).alloc (by simp) _
  have hpow : p.length ^ q.length ≤ 16777216 := by
    have h1 : p.length ^ q.length ≤ 8 ^ q.length := Nat.pow_le_pow_left hp8 _
    have h2 : 8 ^ q.length ≤ 8 ^ 8 := Nat.pow_le_pow_right (by omega) hq8
    omega
  have FSc := find_rec p q hp8 hq8 q.length [] [] ⟨some ⟨w.heap.size, 0, none⟩, 0, []⟩ A B (some ⟨w.heap.size + 1, 0, none⟩) c d 0 w.heap.size ((w.alloc (.cells #[] 3)).alloc (.cells #[] 36)) (by simp) (Asc.nil _) (by simp; omega) (by simp; omega) (hp.rd.below hb0) (hq.rd.below hb0) (by simpa using hB)
  exact FSc.mono fun e w' ⟨A', c', rs', he, hx, hO, hb⟩ => ⟨A', c', rs', by simpa using he, hx, by simpa using hO, hb0.trans hb⟩
set_option maxHeartbeats 800000 in
theorem l7Has_b (A B : Option Addr) (c d : Nat) (p q : List Int) (w : World) (b : Bool) (hp : In w A c p) (hq : In w B d q) (hp8 : p.length ≤ 8) (hq8 : q.length ≤ 8) (hb : hasB p q = b) :
    Calls Tryz.prog 77 #[.slice A p.length c, .slice B q.length d] w (Rb w (.bool b)) := by
  subst hb
  have FR := Lib.hid (find_root A B c d p q w hp hq hp8 hq8)
  go_enter Tryz.func77, Tryz.ntmps77
  go_wp2_with fail
  (with_reducible refine FR.out.mono ?_)
  rintro e w1 ⟨A1, c1, rs, rfl, hX, hO, hb1⟩
  have HE := Lib.hid (show decide (0 < rs.length) = hasB p q by
    unfold hasB
    rw [← hX]
    cases rs <;> simp)
  clear hX hO FR
  go_wp2_with fail
  go_ret
  exact ⟨ret_bool (by first | exact HE.out | (rw [← HE.out]; simp; done) | (rw [← HE.out, Bool.eq_iff_iff]; simp; omega)), hb1⟩

/-- What a basis asks at the place k. -/
def basAt (L : List (List Int)) (k : Nat) : Bool :=
  permB (L[k]?.getD []) && decide ((L[k]?.getD []).length ≠ 0) && (decide (k = 0) || decide (cmpP (L[k - 1]?.getD []) (L[k]?.getD []) < 0)) && (List.range k).all fun i => !hasB (L[k]?.getD []) (L[i]?.getD [])
def basTo (L : List (List Int)) (k : Nat) : Bool := (List.range k).all (basAt L)
theorem basTo_succ (L : List (List Int)) (k : Nat) : basTo L (k + 1) = (basTo L k && basAt L k) := by simp [basTo, List.range_succ]
theorem basTo_false {L : List (List Int)} {k m : Nat} (h : k < m) (ht : basAt L k = false) : basTo L m = false := by
  unfold basTo
  rw [List.all_eq_false]
  exact ⟨k, List.mem_range.2 h, by simp [ht]⟩
theorem basTo_perm {L : List (List Int)} {k j : Nat} (h : basTo L k = true) (hj : j < k) (hl : j < L.length) : permB L[j] = true := by
  unfold basTo at h
  have := List.all_eq_true.1 h j (List.mem_range.2 hj)
  unfold basAt at this
  rw [List.getElem?_eq_getElem hl] at this
  simp only [Option.getD_some, Bool.and_eq_true] at this
  exact this.1.1.1
def basisB (L : List (List Int)) : Bool := decide (L.length ≤ 8) && basTo L L.length
def nohasTo (L : List (List Int)) (p : List Int) (i : Nat) : Bool := (List.range i).all fun i => !hasB p (L[i]?.getD [])
theorem nohasTo_succ (L : List (List Int)) (p : List Int) (i : Nat) : nohasTo L p (i + 1) = (nohasTo L p i && !hasB p (L[i]?.getD [])) := by simp [nohasTo, List.range_succ]
theorem nohasTo_false {L : List (List Int)} {p : List Int} {k m : Nat} (h : k < m) (ht : hasB p (L[k]?.getD []) = true) : nohasTo L p m = false := by
  unfold nohasTo
  rw [List.all_eq_false]
  exact ⟨k, List.mem_range.2 h, by simp [ht]⟩
theorem before_cmp (p q : List Int) : before p q = decide (cmpP p q < 0) := by
  unfold before cmpP
  by_cases h : p.length = q.length
  · rw [if_pos h, if_pos h]
  · rw [if_neg h, if_neg h]
    unfold cmpI
    rw [decide_eq_decide]
    constructor
    · intro hlt; rw [if_pos (by omega)]; omega
    · intro hlt
      split at hlt
      · omega
      · split at hlt <;> omega
theorem basAt_row {rs : List Row} {k : Nat} (hk : k < rs.length) : basAt (rs.map Row.xs) k = (permB rs[k].xs && decide (rs[k].xs.length ≠ 0) && (decide (k = 0) || decide (cmpP ((rs.map Row.xs)[k - 1]?.getD []) rs[k].xs < 0)) && nohasTo (rs.map Row.xs) rs[k].xs k) := by
  have hX : (rs.map Row.xs)[k]?.getD [] = rs[k].xs := by simp [hk]
  unfold basAt nohasTo
  rw [hX]
theorem getX {rs : List Row} {k : Nat} (hk : k < rs.length) : (rs.map Row.xs)[k]?.getD [] = rs[k].xs := by simp [hk]

set_option maxHeartbeats 4000000 in
theorem basis_impl (A : Option Addr) (c : Nat) (rs : List Row) (w : World) (h : InL w A c rs) :
    Calls Tryz.prog 34 #[.slice A rs.length c] w (Rb w (.bool (basisB (rs.map Row.xs)))) := by
  have hlen := h.len
  have hcap := h.read.ocap _ (List.mem_singleton.2 rfl)
  simp only [List.length_map] at hcap
  by_cases h8 : rs.length ≤ 8
  · have HB := Lib.hid (show basisB (rs.map Row.xs) = basTo (rs.map Row.xs) rs.length by unfold basisB; rw [List.length_map, decide_eq_true h8, Bool.true_and])
    go_enter Tryz.func34, Tryz.ntmps34
    go_wp2_with fail
    go_loopw [12] (fun i wr => ∃ k : Nat, k ≤ rs.length ∧ i = .int .i64 k ∧ Hid (basTo (rs.map Row.xs) k = true) ∧ Below w.heap.size w wr) (fun i _ => rs.length - (intOf i).toNat)
    case atStart => exact ⟨0, Nat.zero_le _, rfl, Lib.hid rfl, Below.refl _ _⟩
    case round =>
      obtain ⟨k, hk, rfl, HA, hb⟩ := hrel
      by_cases hlt : k < rs.length
      · have hL := h.next hb
        obtain ⟨b, off, rfl, _, hc⟩ := hL.read.at (by omega)
        have c1 := hc k hlt
        have HK := Lib.hid (basAt_row hlt)
        have HS := Lib.hid (basTo_succ (rs.map Row.xs) k)
        have hin := hL.row (List.getElem_mem hlt)
        clear hc
        go_wp2_with fail
        by_cases hp : permB rs[k].xs = true
        · have HP := Lib.hid hp
          clear hp
          (with_reducible refine (isPerm_ib rs[k].A rs[k].c rs[k].xs wr true hin HP.out).mono ?_)
          rintro e w1 ⟨rfl, hb1⟩
          have hb2 := hb.trans (hb1.mono hb.size)
          have hL2 := h.next hb2
          obtain ⟨b', off', he, _, hc⟩ := hL2.read.at (by omega)
          injection he with he
          injection he with he1 he2 _
          subst he1 he2
          have hin2 := hL2.row (List.getElem_mem hlt)
          have hp8 := (permB_true HP.out).1
          clear hb1
          by_cases h0 : rs[k].xs.length = 0
          · have HF := Lib.hid (show basTo (rs.map Row.xs) rs.length = false from basTo_false hlt (by rw [HK.out, h0]; simp))
            have d0 : ((rs[k].xs.length : Int) == 0) = true := by simp; exact List.eq_nil_of_length_eq_zero h0
            clear h0 hc
            go_wp2_with fail
            go_ret
            exact ⟨ret_bool (by rw [HB.out, HF.out]), hb2⟩
          · have d0 : ((rs[k].xs.length : Int) == 0) = false := by simp; intro e; rw [e] at h0; simp at h0
            have HL0 := Lib.hid (show decide (rs[k].xs.length ≠ 0) = true from decide_eq_true h0)
            clear h0
            by_cases hg : k = 0 ∨ cmpP ((rs.map Row.xs)[k - 1]?.getD []) rs[k].xs < 0
            · have HG := Lib.hid (show (decide (k = 0) || decide (cmpP ((rs.map Row.xs)[k - 1]?.getD []) rs[k].xs < 0)) = true by
                rcases hg with hg | hg
                · rw [decide_eq_true hg]; rfl
                · rw [decide_eq_true hg, Bool.or_true])
              rcases Nat.eq_zero_or_pos k with hk0 | hk0
              case' inl =>
                have d1 : decide ((k : Int) > 0) = false := decide_eq_false (by omega)
                have d2 : k ≤ 0 := by omega
                obtain ⟨w3, hw3⟩ : ∃ w3, w3 = w1 := ⟨_, rfl⟩
                subst hw3
                have hb3 := hb2
                clear hg hc hk0
                go_wp2_with fail
              case' inr =>
                have d1 : decide ((k : Int) > 0) = true := decide_eq_true (by omega)
                have d2 : decide (0 < k) = true := decide_eq_true (by omega)
                have hpl : k - 1 < rs.length := by omega
                have c2 := hc (k - 1) hpl
                have hinp := hL2.row (List.getElem_mem hpl)
                have e0 : 1 ≤ (k : Int) := by omega
                have e2 : 0 ≤ (k : Int) - 1 := by omega
                have e3 : (k : Int) - 1 < rs.length := by omega
                have e1 : ((k : Int) - 1).toNat = k - 1 := by omega
                have HCM := Lib.hid (show decide (cmpP rs[k - 1].xs rs[k].xs ≥ 0) = false by
                  rw [getX hpl] at hg
                  rw [decide_eq_false_iff_not]
                  rcases hg with hg | hg
                  · omega
                  · omega)
                clear hg hc
                go_wp2_with fail
                (with_reducible refine (comparePerms_any rs[k - 1].A rs[k].A rs[k - 1].c rs[k].c rs[k - 1].xs.length rs[k].xs.length rs[k - 1].xs rs[k].xs w1 rfl rfl hinp.len hin2.len hinp.rd hin2.rd).mono ?_)
                rintro e w3 ⟨rfl, hb3⟩
                have hb3 := hb2.trans (hb3.mono hb2.size)
                have HCM2 := HCM.out
                clear hk0 e0 e2 e3 e1 c2 hinp
                go_wp2_with fail
              all_goals
                clear d1 d2
                obtain ⟨wo, rfl⟩ : ∃ wo : World, wo = wr := ⟨_, rfl⟩
                go_loopw [43] (fun i wr => ∃ j : Nat, j ≤ k ∧ i = .int .i64 j ∧ Hid (nohasTo (rs.map Row.xs) rs[k].xs j = true) ∧ Below w3.heap.size w3 wr) (fun i _ => k - (intOf i).toNat)
                case atStart => exact ⟨0, Nat.zero_le _, rfl, Lib.hid rfl, Below.refl _ _⟩
                case round =>
                  obtain ⟨j, hj, rfl, HN, hb4⟩ := hrel
                  have hbz := hb3.trans (hb4.mono hb3.size)
                  by_cases hjk : j < k
                  · have hL4 := h.next hbz
                    have hjl : j < rs.length := by omega
                    obtain ⟨b', off', he, _, hc⟩ := hL4.read.at (by omega)
                    injection he with he
                    injection he with he1 he2 _
                    subst he1 he2
                    have c3 := hc j hjl
                    have hinj := hL4.row (List.getElem_mem hjl)
                    have hink := hL4.row (List.getElem_mem hlt)
                    have hpj : permB rs[j].xs = true := by
                      have := basTo_perm HA.out hjk (by rw [List.length_map]; omega)
                      simpa using this
                    have hpj8 := (permB_true hpj).1
                    have HNS := Lib.hid (nohasTo_succ (rs.map Row.xs) rs[k].xs j)
                    clear hpj hc
                    by_cases hh : hasB rs[k].xs rs[j].xs = true
                    · have HH := Lib.hid hh
                      have HF := Lib.hid (show basTo (rs.map Row.xs) rs.length = false from basTo_false hlt (by
                        have hnf : nohasTo (rs.map Row.xs) rs[k].xs k = false := nohasTo_false hjk (by rw [getX hjl]; exact hh)
                        rw [HK.out, hnf, Bool.and_false]))
                      clear hh
                      go_wp2_with fail
                      all_goals
                        (with_reducible refine (has_b rs[k].A rs[j].A rs[k].c rs[j].c rs[k].xs rs[j].xs _ true hink hinj (by omega) (by omega) HH.out).mono ?_)
                        rintro e w4 ⟨rfl, hb5⟩
                        go_wp2_with fail
                        go_ret
                        exact ⟨ret_bool (by rw [HB.out, HF.out]), hbz.trans (hb5.mono hbz.size)⟩
                    · have hhf : hasB rs[k].xs rs[j].xs = false := by simpa using hh
                      have HH := Lib.hid hhf
                      have HE := Lib.hid (show nohasTo (rs.map Row.xs) rs[k].xs (j + 1) = true by rw [HNS.out, HN.out, getX hjl, hhf]; rfl)
                      clear hh hhf
                      go_wp2_with fail
                      all_goals
                        (with_reducible refine (has_b rs[k].A rs[j].A rs[k].c rs[j].c rs[k].xs rs[j].xs _ false hink hinj (by omega) (by omega) HH.out).mono ?_)
                        rintro e w4 ⟨rfl, hb5⟩
                        go_wp2_with fail
                        go_roundw
                        case rel => exact ⟨j + 1, by omega, by go_num, HE, hb4.trans (hb5.mono hb4.size)⟩
                        case measure => (simp [intOf]) <;> omega
                  · obtain rfl : j = k := by omega
                    have HE := Lib.hid (show basTo (rs.map Row.xs) (j + 1) = true by rw [HS.out, HA.out, HK.out, HP.out, HL0.out, HG.out, HN.out]; rfl)
                    go_wp2_with fail
                    go_roundw
                    case rel => exact ⟨j + 1, by omega, by go_num, HE, hbz⟩
                    case measure => (simp [intOf]) <;> omega
            · have hk0 : 0 < k := by
                rcases Nat.eq_zero_or_pos k with h1 | h1
                · exact absurd (Or.inl h1) hg
                · exact h1
              have d1 : decide ((k : Int) > 0) = true := decide_eq_true (by omega)
              have d2 : decide (0 < k) = true := decide_eq_true (by omega)
              have hpl : k - 1 < rs.length := by omega
              have c2 := hc (k - 1) hpl
              have hinp := hL2.row (List.getElem_mem hpl)
              have e0 : 1 ≤ (k : Int) := by omega
              have e2 : 0 ≤ (k : Int) - 1 := by omega
              have e3 : (k : Int) - 1 < rs.length := by omega
              have e1 : ((k : Int) - 1).toNat = k - 1 := by omega
              have HCM := Lib.hid (show decide (cmpP rs[k - 1].xs rs[k].xs ≥ 0) = true by
                rw [getX hpl] at hg
                rw [decide_eq_true_eq]
                have := fun h => hg (Or.inr h)
                omega)
              have HF := Lib.hid (show basTo (rs.map Row.xs) rs.length = false from basTo_false hlt (by
                have hgf : (decide (k = 0) || decide (cmpP ((rs.map Row.xs)[k - 1]?.getD []) rs[k].xs < 0)) = false := by
                  rw [Bool.or_eq_false_iff, decide_eq_false_iff_not, decide_eq_false_iff_not]
                  exact ⟨fun h => hg (Or.inl h), fun h => hg (Or.inr h)⟩
                rw [HK.out, hgf, Bool.and_false, Bool.false_and]))
              clear hg hc
              go_wp2_with fail
              (with_reducible refine (comparePerms_any rs[k - 1].A rs[k].A rs[k - 1].c rs[k].c rs[k - 1].xs.length rs[k].xs.length rs[k - 1].xs rs[k].xs w1 rfl rfl hinp.len hin2.len hinp.rd hin2.rd).mono ?_)
              rintro e w3 ⟨rfl, hb3⟩
              have HCM2 := HCM.out
              go_wp2_with fail
              go_ret
              exact ⟨ret_bool (by rw [HB.out, HF.out]), hb2.trans (hb3.mono hb2.size)⟩
        · have hpf : permB rs[k].xs = false := by simpa using hp
          have HF := Lib.hid (show basTo (rs.map Row.xs) rs.length = false from basTo_false hlt (by rw [HK.out, hpf]; simp))
          clear hp
          (with_reducible refine (isPerm_ib rs[k].A rs[k].c rs[k].xs wr false hin hpf).mono ?_)
          rintro e w1 ⟨rfl, hb1⟩
          clear hpf
          go_wp2_with fail
          go_ret
          exact ⟨ret_bool (by rw [HB.out, HF.out]), hb.trans (hb1.mono hb.size)⟩
      · obtain rfl : k = rs.length := by omega
        go_wp2_with fail
        go_ret
        exact ⟨ret_bool (by rw [HB.out, HA.out]), hb⟩
  · have HB := Lib.hid (show basisB (rs.map Row.xs) = false by unfold basisB; rw [List.length_map, decide_eq_false h8, Bool.false_and])
    go_enter Tryz.func34, Tryz.ntmps34
    go_wp2_with fail
    go_ret
    exact ⟨ret_bool (by rw [HB.out]), Below.refl _ _⟩
theorem l2Before_b (A A' : Option Addr) (c c' n m : Nat) (xs ys : List Int) (w : World) (b : Bool) (hn : xs.length = n) (hm : ys.length = m) (hl : n ≤ 4611686018427387904) (hl' : m ≤ 4611686018427387904)
    (hx : Rd (Value.int .i64) w w.heap.size A xs) (hy : Rd (Value.int .i64) w w.heap.size A' ys) (hb : before xs ys = b) :
    Calls Tryz.prog 76 #[.slice A n c, .slice A' m c'] w (Rq w (.bool b)) := by
  subst hb; exact l2Before_any A A' c c' n m xs ys w hn hm hl hl' hx hy
set_option maxHeartbeats 4000000 in
theorem basis_spec (A : Option Addr) (c : Nat) (rs : List Row) (w : World) (h : InL w A c rs) :
    Calls Tryz.prog 37 #[.slice A rs.length c] w (Rb w (.bool (basisB (rs.map Row.xs)))) := by
  have hlen := h.len
  have hcap := h.read.ocap _ (List.mem_singleton.2 rfl)
  simp only [List.length_map] at hcap
  have HB := Lib.hid (show basisB (rs.map Row.xs) = (decide (rs.length ≤ 8) && basTo (rs.map Row.xs) rs.length) by unfold basisB; rw [List.length_map])
  go_enter Tryz.func37, Tryz.ntmps37
  go_wp2_with fail
  go_loopw [3] (fun i wr => ∃ k : Nat, k ≤ rs.length ∧ i = .int .i64 k ∧ Hid (basTo (rs.map Row.xs) k = true) ∧ Below w.heap.size w wr) (fun i _ => rs.length - (intOf i).toNat)
  case atStart => exact ⟨0, Nat.zero_le _, rfl, Lib.hid rfl, Below.refl _ _⟩
  case round =>
    obtain ⟨k, hk, rfl, HA, hb⟩ := hrel
    by_cases hlt : k < rs.length
    · have hL := h.next hb
      obtain ⟨b, off, rfl, _, hc⟩ := hL.read.at (by omega)
      have c1 := hc k hlt
      have HK := Lib.hid (basAt_row hlt)
      have HS := Lib.hid (basTo_succ (rs.map Row.xs) k)
      have hin := hL.row (List.getElem_mem hlt)
      have i0 : (0 : Int) ≤ (k : Int) := Int.natCast_nonneg _
      have i1 : (k : Int) < (rs.length : Int) := by omega
      by_cases hp : permB rs[k].xs = true
      · have HP := Lib.hid hp
        have hp8 := (permB_true hp).1
        clear hp
        by_cases h0 : rs[k].xs.length = 0
        · have HF := Lib.hid (show basTo (rs.map Row.xs) rs.length = false from basTo_false hlt (by rw [HK.out, h0]; simp))
          have d0 : ((rs[k].xs.length : Int) == 0) = true := by simp; exact List.eq_nil_of_length_eq_zero h0
          clear h0 hc
          go_wp2_with fail
          go_quiet ((go_at_call 66; exact quiet_rq (isPerm_sb rs[k].A rs[k].c rs[k].xs _ true (hin.dr (Dr.of _ _)) HP.out)))
          go_wp2_with fail
          go_ret
          exact ⟨ret_bool (by rw [HB.out, HF.out, Bool.and_false]), below_dr hb (by first | with_reducible exact Dr.of _ _ | with_reducible exact Dr.of2 _ _ _ | with_reducible exact Dr.refl _ | with_reducible exact Dr.of3 _ _ _)⟩
        · have d0 : ((rs[k].xs.length : Int) == 0) = false := by simp; intro e; rw [e] at h0; simp at h0
          have HL0 := Lib.hid (show decide (rs[k].xs.length ≠ 0) = true from decide_eq_true h0)
          clear h0
          by_cases hg : k = 0 ∨ cmpP ((rs.map Row.xs)[k - 1]?.getD []) rs[k].xs < 0
          · have HG := Lib.hid (show (decide (k = 0) || decide (cmpP ((rs.map Row.xs)[k - 1]?.getD []) rs[k].xs < 0)) = true by
              rcases hg with hg | hg
              · rw [decide_eq_true hg]; rfl
              · rw [decide_eq_true hg, Bool.or_true])
            obtain ⟨wo, rfl⟩ : ∃ wo : World, wo = wr := ⟨_, rfl⟩
            rcases Nat.eq_zero_or_pos k with hk0 | hk0
            case' inl =>
              have d1 : decide ((k : Int) > 0) = false := decide_eq_false (by omega)
              have d3 : decide (0 < k) = false := decide_eq_false (by omega)
              have d2 : k ≤ 0 := by omega
              clear hg hc hk0
              go_wp2_with fail
              go_quiet ((go_at_call 66; exact quiet_rq (isPerm_sb rs[k].A rs[k].c rs[k].xs _ true (hin.dr (Dr.of _ _)) HP.out)))
              go_wp2_with fail
              clear d1 d2 d3
            case' inr =>
              have d1 : decide ((k : Int) > 0) = true := decide_eq_true (by omega)
              have d2 : decide (0 < k) = true := decide_eq_true (by omega)
              have hpl : k - 1 < rs.length := by omega
              have c2 := hc (k - 1) hpl
              have hinp := hL.row (List.getElem_mem hpl)
              have e0 : 1 ≤ (k : Int) := by omega
              have e2 : 0 ≤ (k : Int) - 1 := by omega
              have e3 : (k : Int) - 1 < rs.length := by omega
              have e1 : ((k : Int) - 1).toNat = k - 1 := by omega
              have e4 : IntKind.i64.wrap ((k : Int) - 1) = (k : Int) - 1 := IntWalk.i64_in _ (by omega)
              have hq1 : rs[k - 1].xs.length ≤ 4611686018427387904 := by have := hinp.len; omega
              have hq2 : rs[k].xs.length ≤ 4611686018427387904 := by omega
              have hr1 := hinp.rd
              have hr2 := hin.rd
              have HCM := Lib.hid (show before rs[k - 1].xs rs[k].xs = true by
                rw [getX hpl] at hg
                rw [before_cmp, decide_eq_true_eq]
                rcases hg with hg | hg
                · omega
                · exact hg)
              clear hg hc hk0 hinp
              go_wp2_with fail
              go_quiet ((first | (go_at_call 66; exact quiet_rq (isPerm_sb rs[k].A rs[k].c rs[k].xs _ true (hin.dr (Dr.of _ _)) HP.out)) | (go_at_call 76; exact quiet_rq (l2Before_b _ _ _ _ _ _ rs[k - 1].xs rs[k].xs _ true rfl rfl hq1 hq2 (hr1.drewN _) (hr2.drewN _) HCM.out))))
              go_wp2_with fail
              clear d1 d2 e0 e1 e2 e3 e4 hq1 hq2 hr1 hr2 c2
            all_goals
              go_loopw [4] (fun i wr => ∃ j : Nat, j ≤ k ∧ i = .int .i64 j ∧ Hid (nohasTo (rs.map Row.xs) rs[k].xs j = true) ∧ Below w.heap.size w wr) (fun i _ => k - (intOf i).toNat)
              case atStart => exact ⟨0, Nat.zero_le _, rfl, Lib.hid rfl, below_dr hb (by first | with_reducible exact Dr.of _ _ | with_reducible exact Dr.of2 _ _ _ | with_reducible exact Dr.refl _ | with_reducible exact Dr.of3 _ _ _)⟩
              case round =>
                obtain ⟨j, hj, rfl, HN, hbz⟩ := hrel
                by_cases hjk : j < k
                · have hL4 := h.next hbz
                  have hjl : j < rs.length := by omega
                  obtain ⟨b', off', he, _, hc⟩ := hL4.read.at (by omega)
                  injection he with he
                  injection he with he1 he2 _
                  subst he1 he2
                  have c3 : wr.drew.cell? ⟨b, off + j, none⟩ = some (Value.slice rs[j].A rs[j].xs.length rs[j].c) := hc j hjl
                  have c4 : wr.drew.cell? ⟨b, off + k, none⟩ = some (Value.slice rs[k].A rs[k].xs.length rs[k].c) := hc k hlt
                  have c5 := hc j hjl
                  have c6 := hc k hlt
                  have hinj := (hL4.dr (Dr.refl _).drew).row (List.getElem_mem hjl)
                  have hink := (hL4.dr (Dr.refl _).drew).row (List.getElem_mem hlt)
                  have i2 : (0 : Int) ≤ (j : Int) := Int.natCast_nonneg _
                  have i3 : (j : Int) < (rs.length : Int) := by omega
                  have hpj : permB rs[j].xs = true := by
                    have := basTo_perm HA.out hjk (by rw [List.length_map]; omega)
                    simpa using this
                  have hpj8 := (permB_true hpj).1
                  have HNS := Lib.hid (nohasTo_succ (rs.map Row.xs) rs[k].xs j)
                  have hbd : Below w.heap.size w wr.drew := below_dr hbz (Dr.refl _).drew
                  clear hpj hc
                  by_cases hh : hasB rs[k].xs rs[j].xs = true
                  · have HH := Lib.hid hh
                    have HF := Lib.hid (show basTo (rs.map Row.xs) rs.length = false from basTo_false hlt (by
                      have hnf : nohasTo (rs.map Row.xs) rs[k].xs k = false := nohasTo_false hjk (by rw [getX hjl]; exact hh)
                      rw [HK.out, hnf, Bool.and_false]))
                    clear hh
                    go_wp2_with fail
                    all_goals
                      go_still_tail 8, (by kernel_rfl)
                      go_wp2_with fail
                      (with_reducible refine (l7Has_b rs[k].A rs[j].A rs[k].c rs[j].c rs[k].xs rs[j].xs _ true hink hinj (by omega) (by omega) HH.out).mono ?_)
                      rintro e w4 ⟨rfl, hb5⟩
                      go_wp2_with fail
                      go_ret
                      exact ⟨ret_bool (by rw [HB.out, HF.out, Bool.and_false]), hbd.trans (hb5.mono hbd.size)⟩
                  · have hhf : hasB rs[k].xs rs[j].xs = false := by simpa using hh
                    have HH := Lib.hid hhf
                    have HE := Lib.hid (show nohasTo (rs.map Row.xs) rs[k].xs (j + 1) = true by rw [HNS.out, HN.out, getX hjl, hhf]; rfl)
                    clear hh hhf
                    go_wp2_with fail
                    all_goals
                      go_still_tail 8, (by kernel_rfl)
                      go_wp2_with fail
                      (with_reducible refine (l7Has_b rs[k].A rs[j].A rs[k].c rs[j].c rs[k].xs rs[j].xs _ false hink hinj (by omega) (by omega) HH.out).mono ?_)
                      rintro e w4 ⟨rfl, hb5⟩
                      go_wp2_with fail
                      go_roundw
                      case rel => exact ⟨j + 1, by omega, by go_num, HE, hbd.trans (hb5.mono hbd.size)⟩
                      case measure => (simp [intOf]) <;> omega
                · obtain rfl : j = k := by omega
                  have HE := Lib.hid (show basTo (rs.map Row.xs) (j + 1) = true by rw [HS.out, HA.out, HK.out, HP.out, HL0.out, HG.out, HN.out]; rfl)
                  go_wp2_with fail
                  go_roundw
                  case rel => exact ⟨j + 1, by omega, by go_num, HE, hbz⟩
                  case measure => (simp [intOf]) <;> omega
          · have hk0 : 0 < k := by
              rcases Nat.eq_zero_or_pos k with h1 | h1
              · exact absurd (Or.inl h1) hg
              · exact h1
            have d1 : decide ((k : Int) > 0) = true := decide_eq_true (by omega)
            have d2 : decide (0 < k) = true := decide_eq_true (by omega)
            have hpl : k - 1 < rs.length := by omega
            have c2 := hc (k - 1) hpl
            have hinp := hL.row (List.getElem_mem hpl)
            have e0 : 1 ≤ (k : Int) := by omega
            have e2 : 0 ≤ (k : Int) - 1 := by omega
            have e3 : (k : Int) - 1 < rs.length := by omega
            have e1 : ((k : Int) - 1).toNat = k - 1 := by omega
            have e4 : IntKind.i64.wrap ((k : Int) - 1) = (k : Int) - 1 := IntWalk.i64_in _ (by omega)
            have hq1 : rs[k - 1].xs.length ≤ 4611686018427387904 := by have := hinp.len; omega
            have hq2 : rs[k].xs.length ≤ 4611686018427387904 := by omega
            have hr1 := hinp.rd
            have hr2 := hin.rd
            have HCM := Lib.hid (show before rs[k - 1].xs rs[k].xs = false by
              rw [getX hpl] at hg
              rw [before_cmp, decide_eq_false_iff_not]
              exact fun h => hg (Or.inr h))
            have HF := Lib.hid (show basTo (rs.map Row.xs) rs.length = false from basTo_false hlt (by
              have hgf : (decide (k = 0) || decide (cmpP ((rs.map Row.xs)[k - 1]?.getD []) rs[k].xs < 0)) = false := by
                rw [Bool.or_eq_false_iff, decide_eq_false_iff_not, decide_eq_false_iff_not]
                exact ⟨fun h => hg (Or.inl h), fun h => hg (Or.inr h)⟩
              rw [HK.out, hgf, Bool.and_false, Bool.false_and]))
            clear hg hc hk0 hinp
            go_wp2_with fail
            go_quiet ((first | (go_at_call 66; exact quiet_rq (isPerm_sb rs[k].A rs[k].c rs[k].xs _ true (hin.dr (Dr.of _ _)) HP.out)) | (go_at_call 76; exact quiet_rq (l2Before_b _ _ _ _ _ _ rs[k - 1].xs rs[k].xs _ false rfl rfl hq1 hq2 (hr1.drewN _) (hr2.drewN _) HCM.out))))
            go_wp2_with fail
            go_ret
            exact ⟨ret_bool (by rw [HB.out, HF.out, Bool.and_false]), below_dr hb (by first | with_reducible exact Dr.of _ _ | with_reducible exact Dr.of2 _ _ _ | with_reducible exact Dr.refl _ | with_reducible exact Dr.of3 _ _ _)⟩
      · have hpf : permB rs[k].xs = false := by simpa using hp
        have HF := Lib.hid (show basTo (rs.map Row.xs) rs.length = false from basTo_false hlt (by rw [HK.out, hpf]; simp))
        have HP := Lib.hid hpf
        clear hp hpf hc
        go_wp2_with fail
        go_quiet ((go_at_call 66; exact quiet_rq (isPerm_sb rs[k].A rs[k].c rs[k].xs _ false (hin.dr (Dr.of _ _)) HP.out)))
        go_wp2_with fail
        go_ret
        exact ⟨ret_bool (by rw [HB.out, HF.out, Bool.and_false]), below_dr hb (by first | with_reducible exact Dr.of _ _ | with_reducible exact Dr.of2 _ _ _ | with_reducible exact Dr.refl _ | with_reducible exact Dr.of3 _ _ _)⟩
    · obtain rfl : k = rs.length := by omega
      go_wp2_with fail
      go_ret
      exact ⟨ret_bool (by rw [HB.out, HA.out, Bool.and_true, decide_eq_decide]; omega), hb⟩
end Go.Proofs.YtodloeonlaljpaaGreat

/- slices.IndexFunc, slices.ContainsFunc: the function value by its contract. -/
namespace Go.Proofs.YtodloeonlaljpaaGreat
set_option maxRecDepth 100000
open Go Go.RowKit

/-- A call's result: a number that is not below zero just where something holds. -/
def IdxPost (w : World) (b : Bool) (e : Ending) (w' : World) : Prop := ∃ i : Int, e = .returned (.int .i64 i) ∧ decide (i ≥ 0) = b ∧ Below w.heap.size w w'
theorem any_take_false {α : Type} {H : α → Bool} {l : List α} {k : Nat} (h : (l.take k).any H = false) (hk : k < l.length) (h1 : H l[k] = false) : (l.take (k + 1)).any H = false := by
  rw [List.take_succ_eq_append_getElem hk, List.any_append, h]
  simp [h1]
theorem any_at {α : Type} {H : α → Bool} {l : List α} {k : Nat} (hk : k < l.length) (h1 : H l[k] = true) : l.any H = true := List.any_eq_true.2 ⟨l[k], List.getElem_mem hk, h1⟩



set_option maxHeartbeats 800000 in
theorem indexFuncL1 (A : Option Addr) (c : Nat) (rs : List Row) (F : Nat) (g : Nat) (H : List Int → Bool) (w : World) (hl : rs.length ≤ 4611686018427387904) (hx : Read w w.heap.size rs [⟨A, c, rs.map Row.v⟩])
    (hF : ∀ args w', (callFunc F args).run Tryz.prog w' = .ok (.enter F args) w')
    (hcl : ∀ (w' : World) (k : Nat) (hk : k < rs.length), Below w.heap.size w w' → Calls Tryz.prog F #[.slice rs[k].A rs[k].xs.length rs[k].c, .pointer (some ⟨g, 0, none⟩)] w' (Rb w' (.bool (H rs[k].xs)))) :
    Calls Tryz.prog 98 #[.slice A rs.length c, .func (.func F) #[] #[.pointer (some ⟨g, 0, none⟩)]] w (IdxPost w (rs.any (fun r : Row => H r.xs))) := by
  go_enter Tryz.func98, Tryz.ntmps98
  go_wp2_with fail
  go_loopw [8] (fun i wr => ∃ k : Nat, k ≤ rs.length ∧ i = .int .i64 k ∧ Hid ((rs.take k).any (fun r : Row => H r.xs) = false) ∧ Below w.heap.size w wr) (fun i _ => rs.length - (intOf i).toNat)
  case atStart => exact ⟨0, Nat.zero_le _, rfl, Lib.hid rfl, Below.refl _ _⟩
  case round =>
    obtain ⟨k, hk, rfl, HN, hb⟩ := hrel
    have hsz := hb.size
    rcases Nat.lt_or_ge k rs.length with hlt | hge
    · have hcall := hcl wr k hlt hb
      obtain ⟨b, off, rfl, _, hc⟩ := (hx.below hb).at (by omega)
      have c1 := hc k hlt
      clear hc
      go_wp2_with fail
      (with_reducible refine hcall.mono ?_)
      rintro e w1 ⟨rfl, hb1⟩
      have hbz := hb.trans (hb1.mono hsz)
      by_cases hh : H rs[k].xs = true
      · have HT := Lib.hid (show rs.any (fun r : Row => H r.xs) = true from any_at hlt hh)
        rw [hh]
        clear hh hcall
        go_wp2_with fail
        go_ret
        exact ⟨k, rfl, by rw [HT.out]; exact decide_eq_true (by omega), hbz⟩
      · have hhf : H rs[k].xs = false := by simpa using hh
        have HT := Lib.hid (show (rs.take (k + 1)).any (fun r : Row => H r.xs) = false from any_take_false HN.out hlt hhf)
        rw [hhf]
        clear hh hhf hcall
        go_wp2_with fail
        go_roundw
        case rel => exact ⟨k + 1, by omega, by go_num, HT, hbz⟩
        case measure => simp [intOf]; omega
    · have HT := Lib.hid (show rs.any (fun r : Row => H r.xs) = false by have := HN.out; rwa [List.take_of_length_le hge] at this)
      go_wp2_with fail
      go_ret
      exact ⟨-1, rfl, by rw [HT.out]; rfl, hb⟩
theorem containsFuncL1 (A : Option Addr) (c : Nat) (rs : List Row) (F : Nat) (g : Nat) (H : List Int → Bool) (w : World) (hl : rs.length ≤ 4611686018427387904) (hx : Read w w.heap.size rs [⟨A, c, rs.map Row.v⟩])
    (hF : ∀ args w', (callFunc F args).run Tryz.prog w' = .ok (.enter F args) w')
    (hcl : ∀ (w' : World) (k : Nat) (hk : k < rs.length), Below w.heap.size w w' → Calls Tryz.prog F #[.slice rs[k].A rs[k].xs.length rs[k].c, .pointer (some ⟨g, 0, none⟩)] w' (Rb w' (.bool (H rs[k].xs)))) (b : Bool) (hb : rs.any (fun r : Row => H r.xs) = b) :
    Calls Tryz.prog 58 #[.slice A rs.length c, .func (.func F) #[] #[.pointer (some ⟨g, 0, none⟩)]] w (Rb w (.bool b)) := by
  subst hb
  have HI := Lib.hid (indexFuncL1 A c rs F g H w hl hx hF hcl)
  go_enter Tryz.func58, Tryz.ntmps58
  go_wp2_with fail
  (with_reducible refine HI.out.mono ?_)
  rintro e w1 ⟨i, rfl, hd, hb1⟩
  have HD := Lib.hid hd
  clear hd
  go_wp2_with fail
  go_ret
  exact ⟨ret_bool (by rw [← HD.out]), hb1⟩

set_option maxHeartbeats 800000 in
theorem indexFuncL0 (A : Option Addr) (c : Nat) (rs : List Row) (F : Nat) (H : List Int → Bool) (w : World) (hl : rs.length ≤ 4611686018427387904) (hx : Read w w.heap.size rs [⟨A, c, rs.map Row.v⟩])
    (hF : ∀ args w', (callFunc F args).run Tryz.prog w' = .ok (.enter F args) w')
    (hcl : ∀ (w' : World) (k : Nat) (hk : k < rs.length), Below w.heap.size w w' → Calls Tryz.prog F #[.slice rs[k].A rs[k].xs.length rs[k].c] w' (Rb w' (.bool (H rs[k].xs)))) :
    Calls Tryz.prog 98 #[.slice A rs.length c, .func (.func F) #[] #[]] w (IdxPost w (rs.any (fun r : Row => H r.xs))) := by
  go_enter Tryz.func98, Tryz.ntmps98
  go_wp2_with fail
  go_loopw [8] (fun i wr => ∃ k : Nat, k ≤ rs.length ∧ i = .int .i64 k ∧ Hid ((rs.take k).any (fun r : Row => H r.xs) = false) ∧ Below w.heap.size w wr) (fun i _ => rs.length - (intOf i).toNat)
  case atStart => exact ⟨0, Nat.zero_le _, rfl, Lib.hid rfl, Below.refl _ _⟩
  case round =>
    obtain ⟨k, hk, rfl, HN, hb⟩ := hrel
    have hsz := hb.size
    rcases Nat.lt_or_ge k rs.length with hlt | hge
    · have hcall := hcl wr k hlt hb
      obtain ⟨b, off, rfl, _, hc⟩ := (hx.below hb).at (by omega)
      have c1 := hc k hlt
      clear hc
      go_wp2_with fail
      (with_reducible refine hcall.mono ?_)
      rintro e w1 ⟨rfl, hb1⟩
      have hbz := hb.trans (hb1.mono hsz)
      by_cases hh : H rs[k].xs = true
      · have HT := Lib.hid (show rs.any (fun r : Row => H r.xs) = true from any_at hlt hh)
        rw [hh]
        clear hh hcall
        go_wp2_with fail
        go_ret
        exact ⟨k, rfl, by rw [HT.out]; exact decide_eq_true (by omega), hbz⟩
      · have hhf : H rs[k].xs = false := by simpa using hh
        have HT := Lib.hid (show (rs.take (k + 1)).any (fun r : Row => H r.xs) = false from any_take_false HN.out hlt hhf)
        rw [hhf]
        clear hh hhf hcall
        go_wp2_with fail
        go_roundw
        case rel => exact ⟨k + 1, by omega, by go_num, HT, hbz⟩
        case measure => simp [intOf]; omega
    · have HT := Lib.hid (show rs.any (fun r : Row => H r.xs) = false by have := HN.out; rwa [List.take_of_length_le hge] at this)
      go_wp2_with fail
      go_ret
      exact ⟨-1, rfl, by rw [HT.out]; rfl, hb⟩
theorem containsFuncL0 (A : Option Addr) (c : Nat) (rs : List Row) (F : Nat) (H : List Int → Bool) (w : World) (hl : rs.length ≤ 4611686018427387904) (hx : Read w w.heap.size rs [⟨A, c, rs.map Row.v⟩])
    (hF : ∀ args w', (callFunc F args).run Tryz.prog w' = .ok (.enter F args) w')
    (hcl : ∀ (w' : World) (k : Nat) (hk : k < rs.length), Below w.heap.size w w' → Calls Tryz.prog F #[.slice rs[k].A rs[k].xs.length rs[k].c] w' (Rb w' (.bool (H rs[k].xs)))) (b : Bool) (hb : rs.any (fun r : Row => H r.xs) = b) :
    Calls Tryz.prog 58 #[.slice A rs.length c, .func (.func F) #[] #[]] w (Rb w (.bool b)) := by
  subst hb
  have HI := Lib.hid (indexFuncL0 A c rs F H w hl hx hF hcl)
  go_enter Tryz.func58, Tryz.ntmps58
  go_wp2_with fail
  (with_reducible refine HI.out.mono ?_)
  rintro e w1 ⟨i, rfl, hd, hb1⟩
  have HD := Lib.hid hd
  clear hd
  go_wp2_with fail
  go_ret
  exact ⟨ret_bool (by rw [← HD.out]), hb1⟩

set_option maxHeartbeats 800000 in
theorem indexFuncL2 (A : Option Addr) (c : Nat) (rs : List Row) (F : Nat) (g g2 : Nat) (H : List Int → Bool) (w : World) (hl : rs.length ≤ 4611686018427387904) (hx : Read w w.heap.size rs [⟨A, c, rs.map Row.v⟩])
    (hF : ∀ args w', (callFunc F args).run Tryz.prog w' = .ok (.enter F args) w')
    (hcl : ∀ (w' : World) (k : Nat) (hk : k < rs.length), Below w.heap.size w w' → Calls Tryz.prog F #[.slice rs[k].A rs[k].xs.length rs[k].c, .pointer (some ⟨g, 0, none⟩), .pointer (some ⟨g2, 0, none⟩)] w' (Rb w' (.bool (H rs[k].xs)))) :
    Calls Tryz.prog 98 #[.slice A rs.length c, .func (.func F) #[] #[.pointer (some ⟨g, 0, none⟩), .pointer (some ⟨g2, 0, none⟩)]] w (IdxPost w (rs.any (fun r : Row => H r.xs))) := by
  go_enter Tryz.func98, Tryz.ntmps98
  go_wp2_with fail
  go_loopw [8] (fun i wr => ∃ k : Nat, k ≤ rs.length ∧ i = .int .i64 k ∧ Hid ((rs.take k).any (fun r : Row => H r.xs) = false) ∧ Below w.heap.size w wr) (fun i _ => rs.length - (intOf i).toNat)
  case atStart => exact ⟨0, Nat.zero_le _, rfl, Lib.hid rfl, Below.refl _ _⟩
  case round =>
    obtain ⟨k, hk, rfl, HN, hb⟩ := hrel
    have hsz := hb.size
    rcases Nat.lt_or_ge k rs.length with hlt | hge
    · have hcall := hcl wr k hlt hb
      obtain ⟨b, off, rfl, _, hc⟩ := (hx.below hb).at (by omega)
      have c1 := hc k hlt
      clear hc
      go_wp2_with fail
      (with_reducible refine hcall.mono ?_)
      rintro e w1 ⟨rfl, hb1⟩
      have hbz := hb.trans (hb1.mono hsz)
      by_cases hh : H rs[k].xs = true
      · have HT := Lib.hid (show rs.any (fun r : Row => H r.xs) = true from any_at hlt hh)
        rw [hh]
        clear hh hcall
        go_wp2_with fail
        go_ret
        exact ⟨k, rfl, by rw [HT.out]; exact decide_eq_true (by omega), hbz⟩
      · have hhf : H rs[k].xs = false := by simpa using hh
        have HT := Lib.hid (show (rs.take (k + 1)).any (fun r : Row => H r.xs) = false from any_take_false HN.out hlt hhf)
        rw [hhf]
        clear hh hhf hcall
        go_wp2_with fail
        go_roundw
        case rel => exact ⟨k + 1, by omega, by go_num, HT, hbz⟩
        case measure => simp [intOf]; omega
    · have HT := Lib.hid (show rs.any (fun r : Row => H r.xs) = false by have := HN.out; rwa [List.take_of_length_le hge] at this)
      go_wp2_with fail
      go_ret
      exact ⟨-1, rfl, by rw [HT.out]; rfl, hb⟩
theorem containsFuncL2 (A : Option Addr) (c : Nat) (rs : List Row) (F : Nat) (g g2 : Nat) (H : List Int → Bool) (w : World) (hl : rs.length ≤ 4611686018427387904) (hx : Read w w.heap.size rs [⟨A, c, rs.map Row.v⟩])
    (hF : ∀ args w', (callFunc F args).run Tryz.prog w' = .ok (.enter F args) w')
    (hcl : ∀ (w' : World) (k : Nat) (hk : k < rs.length), Below w.heap.size w w' → Calls Tryz.prog F #[.slice rs[k].A rs[k].xs.length rs[k].c, .pointer (some ⟨g, 0, none⟩), .pointer (some ⟨g2, 0, none⟩)] w' (Rb w' (.bool (H rs[k].xs)))) (b : Bool) (hb : rs.any (fun r : Row => H r.xs) = b) :
    Calls Tryz.prog 58 #[.slice A rs.length c, .func (.func F) #[] #[.pointer (some ⟨g, 0, none⟩), .pointer (some ⟨g2, 0, none⟩)]] w (Rb w (.bool b)) := by
  subst hb
  have HI := Lib.hid (indexFuncL2 A c rs F g g2 H w hl hx hF hcl)
  go_enter Tryz.func58, Tryz.ntmps58
  go_wp2_with fail
  (with_reducible refine HI.out.mono ?_)
  rintro e w1 ⟨i, rfl, hd, hb1⟩
  have HD := Lib.hid hd
  clear hd
  go_wp2_with fail
  go_ret
  exact ⟨ret_bool (by rw [← HD.out]), hb1⟩

end Go.Proofs.YtodloeonlaljpaaGreat

/- Avoiding a list; InClass, IsWithin. -/
namespace Go.Proofs.YtodloeonlaljpaaGreat
set_option maxRecDepth 100000
open Go Go.RowKit

def avoidB (X : List (List Int)) (p : List Int) : Bool := !X.any fun q => hasB p q
theorem basis_perm {X : List (List Int)} (h : basisB X = true) : ∀ q ∈ X, permB q = true := fun q hq => by
  unfold basisB at h
  rw [Bool.and_eq_true] at h
  obtain ⟨i, hi, rfl⟩ := List.mem_iff_getElem.1 hq
  exact basTo_perm h.2 hi hi
theorem basis_len {X : List (List Int)} (h : basisB X = true) : X.length ≤ 8 := by
  unfold basisB at h
  rw [Bool.and_eq_true, decide_eq_true_eq] at h
  exact h.1
theorem rows_8 {rs : List Row} (h : ∀ q ∈ rs.map Row.xs, permB q = true) : ∀ r ∈ rs, r.xs.length ≤ 8 := fun r hr => (permB_true (h r.xs (List.mem_map.2 ⟨r, hr, rfl⟩))).1
theorem any_rows (rs : List Row) (H : List Int → Bool) : (rs.any fun r : Row => H r.xs) = (rs.map Row.xs).any H := by rw [List.any_map]; rfl
theorem basis_ib (A : Option Addr) (c : Nat) (rs : List Row) (w : World) (b : Bool) (h : InL w A c rs) (hb : basisB (rs.map Row.xs) = b) : Calls Tryz.prog 34 #[.slice A rs.length c] w (Rb w (.bool b)) := by
  subst hb; exact basis_impl A c rs w h
theorem basis_sb (A : Option Addr) (c : Nat) (rs : List Row) (w : World) (b : Bool) (h : InL w A c rs) (hb : basisB (rs.map Row.xs) = b) : Calls Tryz.prog 37 #[.slice A rs.length c] w (Rb w (.bool b)) := by
  subst hb; exact basis_spec A c rs w h

theorem call_av (args : Array Value) (w : World) : (callFunc 82 args).run Tryz.prog w = .ok (.enter 82 args) w := by kernel_rfl
set_option maxHeartbeats 800000 in
theorem av_cl (A B : Option Addr) (c d g : Nat) (p q : List Int) (w : World) (hp : In w B d p) (hq : In w A c q) (hg : w.cell? ⟨g, 0, none⟩ = some (.slice B p.length d)) (h8 : p.length ≤ 8) (hq8 : q.length ≤ 8) :
    Calls Tryz.prog 82 #[.slice A q.length c, .pointer (some ⟨g, 0, none⟩)] w (Rb w (.bool (hasB p q))) := by
  go_enter Tryz.func82, Tryz.ntmps82
  go_wp2_with fail
  (with_reducible refine (has_b B A d c p q w _ hp hq (by omega) (by omega) rfl).mono ?_)
  rintro e w1 ⟨rfl, hb1⟩
  go_wp2_with fail
  go_ret
  exact ⟨rfl, hb1⟩
set_option maxHeartbeats 1000000 in
theorem avoids_b (A B : Option Addr) (c d : Nat) (rs : List Row) (p : List Int) (w : World) (b : Bool) (h : InL w A c rs) (hp : In w B d p) (h8 : p.length ≤ 8) (hr8 : ∀ r ∈ rs, r.xs.length ≤ 8) (hb : avoidB (rs.map Row.xs) p = b) :
    Calls Tryz.prog 45 #[.slice A rs.length c, .slice B p.length d] w (Rb w (.bool b)) := by
  have hmf : ∀ (fn : Fn) (first cap : Array Value) (w : World), (Instr.makeFunc fn first cap).run Tryz.prog w = .ok (.func fn first cap) w := fun _ _ _ _ => rfl
  have HB := Lib.hid (show (!(rs.any fun r : Row => hasB p r.xs)) = b by rw [any_rows rs (hasB p), ← hb]; rfl)
  have hb0 := (Below.refl w.heap.size w).alloc (Nat.le_refl _) (.cells #[.slice B p.length d] 36)
  have h0 := h.next hb0
  have hp0 := hp.next hb0
  have hc0 := alloc_cell w (.slice B p.length d) 36
  have hz0 : (w.alloc (.cells #[.slice B p.length d] 36)).heap.size = w.heap.size + 1 := by simp
  have hlen := h.len
  clear hb
  go_enter Tryz.func45, Tryz.ntmps45
  go_wp2_with fail
  generalize (w.alloc (.cells #[.slice B p.length d] 36)) = w0 at hb0 h0 hp0 hc0 hz0 ⊢
  refine (containsFuncL1 A c rs 82 w.heap.size (hasB p) w0 (by omega) h0.read (fun args w' => call_av args w') (fun w' k hk hb => ?_) _ rfl).mono ?_
  · exact av_cl rs[k].A B rs[k].c d _ p rs[k].xs w' (hp0.next hb) ((h0.next hb).row (List.getElem_mem hk)) ((hb.cell (p := ⟨w.heap.size, 0, none⟩) (by show w.heap.size < w0.heap.size; omega)).trans hc0) h8 (hr8 _ (List.getElem_mem hk))
  · rintro e w1 ⟨rfl, hb1⟩
    go_wp2_with fail
    go_ret
    exact ⟨ret_bool HB.out, hb0.trans (hb1.mono hb0.size)⟩
set_option maxHeartbeats 1000000 in
theorem l12Avoids_b (A B : Option Addr) (c d : Nat) (rs : List Row) (p : List Int) (w : World) (b : Bool) (h : InL w A c rs) (hp : In w B d p) (h8 : p.length ≤ 8) (hr8 : ∀ r ∈ rs, r.xs.length ≤ 8) (hb : avoidB (rs.map Row.xs) p = b) :
    Calls Tryz.prog 56 #[.slice A rs.length c, .slice B p.length d] w (Rb w (.bool b)) := by
  have HB := Lib.hid (show (!(rs.any fun r : Row => hasB p r.xs)) = b by rw [any_rows rs (hasB p), ← hb]; rfl)
  have hlen := h.len
  clear hb
  go_enter Tryz.func56, Tryz.ntmps56
  go_wp2_with fail
  go_loopw [5] (fun i wr => ∃ k : Nat, k ≤ rs.length ∧ i = .int .i64 k ∧ Hid ((rs.take k).any (fun r : Row => hasB p r.xs) = false) ∧ Below w.heap.size w wr) (fun i _ => rs.length - (intOf i).toNat)
  case atStart => exact ⟨0, Nat.zero_le _, rfl, Lib.hid rfl, Below.refl _ _⟩
  case round =>
    obtain ⟨k, hk, rfl, HN, hb⟩ := hrel
    have hsz := hb.size
    rcases Nat.lt_or_ge k rs.length with hlt | hge
    · obtain ⟨b', off, rfl, _, hc⟩ := (h.next hb).read.at (by omega)
      have c1 := hc k hlt
      have hin := (h.next hb).row (List.getElem_mem hlt)
      have hr := hr8 _ (List.getElem_mem hlt)
      have hp1 := hp.next hb
      clear hc
      go_wp2_with fail
      by_cases hh : hasB p rs[k].xs = true
      · have HT := Lib.hid (show (rs.any fun r : Row => hasB p r.xs) = true from any_at hlt hh)
        (with_reducible refine (l7Has_b B rs[k].A d rs[k].c p rs[k].xs wr true hp1 hin h8 hr hh).mono ?_)
        rintro e w1 ⟨rfl, hb1⟩
        clear hh
        go_wp2_with fail
        go_ret
        exact ⟨ret_bool (by rw [← HB.out, HT.out]; rfl), hb.trans (hb1.mono hsz)⟩
      · have hhf : hasB p rs[k].xs = false := by simpa using hh
        have HT := Lib.hid (show (rs.take (k + 1)).any (fun r : Row => hasB p r.xs) = false from any_take_false HN.out hlt hhf)
        (with_reducible refine (l7Has_b B rs[k].A d rs[k].c p rs[k].xs wr false hp1 hin h8 hr hhf).mono ?_)
        rintro e w1 ⟨rfl, hb1⟩
        clear hh hhf
        go_wp2_with fail
        go_roundw
        case rel => exact ⟨k + 1, by omega, by go_num, HT, hb.trans (hb1.mono hsz)⟩
        case measure => simp [intOf]; omega
    · have HT := Lib.hid (show (rs.any fun r : Row => hasB p r.xs) = false by have := HN.out; rwa [List.take_of_length_le hge] at this)
      go_wp2_with fail
      go_ret
      exact ⟨ret_bool (by rw [← HB.out, HT.out]; rfl), hb⟩

def inClassB (X : List (List Int)) (p : List Int) : Bool := basisB X && permB p && avoidB X p
set_option maxHeartbeats 1000000 in
theorem inClass_spec (A : Option Addr) (c : Nat) (rs : List Row) (B : Option Addr) (d : Nat) (p : List Int) (w : World) (h : InL w A c rs) (hp : In w B d p) :
    Calls Tryz.prog 27 #[.slice A rs.length c, .slice B p.length d] w (Rb w (.bool (inClassB (rs.map Row.xs) p))) := by
  by_cases hB : basisB (rs.map Row.xs) = true
  · by_cases hP : permB p = true
    · have HG := Lib.hid (show inClassB (rs.map Row.xs) p = avoidB (rs.map Row.xs) p by unfold inClassB; rw [hB, hP]; rfl)
      have hr8 := rows_8 (basis_perm hB)
      have h8 := (permB_true hP).1
      have H1 := Lib.hid hB
      have H2 := Lib.hid hP
      clear hB hP
      go_enter Tryz.func27, Tryz.ntmps27
      go_wp2_with fail
      (with_reducible refine (basis_sb A c rs w true h H1.out).mono ?_)
      rintro e w1 ⟨rfl, hb1⟩
      go_wp2_with fail
      (with_reducible refine (isPerm_sb B d p w1 true (hp.next hb1) H2.out).mono ?_)
      rintro e w2 ⟨rfl, hd2⟩
      have hb := below_dr hb1 hd2
      go_wp2_with fail
      (with_reducible refine (l12Avoids_b A B c d rs p w2 _ (h.next hb) (hp.next hb) h8 hr8 rfl).mono ?_)
      rintro e w3 ⟨rfl, hb3⟩
      go_wp2_with fail
      go_ret
      exact ⟨ret_bool HG.out.symm, hb.trans (hb3.mono hb.size)⟩
    · have hPf : permB p = false := by simpa using hP
      have HG := Lib.hid (show inClassB (rs.map Row.xs) p = false by unfold inClassB; rw [hB, hPf]; rfl)
      have H1 := Lib.hid hB
      have H2 := Lib.hid hPf
      clear hB hP hPf
      go_enter Tryz.func27, Tryz.ntmps27
      go_wp2_with fail
      (with_reducible refine (basis_sb A c rs w true h H1.out).mono ?_)
      rintro e w1 ⟨rfl, hb1⟩
      go_wp2_with fail
      (with_reducible refine (isPerm_sb B d p w1 false (hp.next hb1) H2.out).mono ?_)
      rintro e w2 ⟨rfl, hd2⟩
      go_wp2_with fail
      go_ret
      exact ⟨ret_bool HG.out.symm, below_dr hb1 hd2⟩
  · have hBf : basisB (rs.map Row.xs) = false := by simpa using hB
    have HG := Lib.hid (show inClassB (rs.map Row.xs) p = false by unfold inClassB; rw [hBf]; rfl)
    have H1 := Lib.hid hBf
    clear hB hBf
    go_enter Tryz.func27, Tryz.ntmps27
    go_wp2_with fail
    (with_reducible refine (basis_sb A c rs w false h H1.out).mono ?_)
    rintro e w1 ⟨rfl, hb1⟩
    go_wp2_with fail
    go_ret
    exact ⟨ret_bool HG.out.symm, hb1⟩
end Go.Proofs.YtodloeonlaljpaaGreat

/- IsWithin, program and reference. -/
namespace Go.Proofs.YtodloeonlaljpaaGreat
set_option maxRecDepth 100000
open Go Go.RowKit

def allPermB (X : List (List Int)) : Bool := !X.any fun p => !permB p
set_option maxHeartbeats 1000000 in
theorem l3All_b (A : Option Addr) (c : Nat) (rs : List Row) (w : World) (b : Bool) (h : InL w A c rs) (hb : allPermB (rs.map Row.xs) = b) :
    Calls Tryz.prog 67 #[.slice A rs.length c] w (Rb w (.bool b)) := by
  have HB := Lib.hid (show (!(rs.any fun r : Row => !permB r.xs)) = b by rw [any_rows rs (fun p => !permB p), ← hb]; rfl)
  have hlen := h.len
  clear hb
  go_enter Tryz.func67, Tryz.ntmps67
  go_wp2_with fail
  go_loopw [3] (fun i wr => ∃ k : Nat, k ≤ rs.length ∧ i = .int .i64 k ∧ Hid ((rs.take k).any (fun r : Row => !permB r.xs) = false) ∧ Below w.heap.size w wr) (fun i _ => rs.length - (intOf i).toNat)
  case atStart => exact ⟨0, Nat.zero_le _, rfl, Lib.hid rfl, Below.refl _ _⟩
  case round =>
    obtain ⟨k, hk, rfl, HN, hb⟩ := hrel
    rcases Nat.lt_or_ge k rs.length with hlt | hge
    · obtain ⟨b', off, rfl, _, hc⟩ := (h.next hb).read.at (by omega)
      have c1 := hc k hlt
      have hin := (h.next hb).row (List.getElem_mem hlt)
      clear hc
      go_wp2_with fail
      by_cases hh : permB rs[k].xs = true
      · have HT := Lib.hid (show (rs.take (k + 1)).any (fun r : Row => !permB r.xs) = false from any_take_false HN.out hlt (by rw [hh]; rfl))
        (with_reducible refine (isPerm_sb rs[k].A rs[k].c rs[k].xs wr true hin hh).mono ?_)
        rintro e w1 ⟨rfl, hd1⟩
        clear hh
        go_wp2_with fail
        go_roundw
        case rel => exact ⟨k + 1, by omega, by go_num, HT, below_dr hb hd1⟩
        case measure => simp [intOf]; omega
      · have hhf : permB rs[k].xs = false := by simpa using hh
        have HT := Lib.hid (show (rs.any fun r : Row => !permB r.xs) = true from any_at hlt (by rw [hhf]; rfl))
        (with_reducible refine (isPerm_sb rs[k].A rs[k].c rs[k].xs wr false hin hhf).mono ?_)
        rintro e w1 ⟨rfl, hd1⟩
        clear hh hhf
        go_wp2_with fail
        go_ret
        exact ⟨ret_bool (by rw [← HB.out, HT.out]; rfl), below_dr hb hd1⟩
    · have HT := Lib.hid (show (rs.any fun r : Row => !permB r.xs) = false by have := HN.out; rwa [List.take_of_length_le hge] at this)
      go_wp2_with fail
      go_ret
      exact ⟨ret_bool (by rw [← HB.out, HT.out]; rfl), hb⟩

def withinB (X Y : List (List Int)) : Bool := basisB X && basisB Y && !Y.any fun p => avoidB X p
theorem call_wi (args : Array Value) (w : World) : (callFunc 65 args).run Tryz.prog w = .ok (.enter 65 args) w := by kernel_rfl
set_option maxHeartbeats 800000 in
theorem wi_cl (A B : Option Addr) (c d g : Nat) (rs : List Row) (p : List Int) (w : World) (h : InL w B d rs) (hp : In w A c p) (hg : w.cell? ⟨g, 0, none⟩ = some (.slice B rs.length d)) (h8 : p.length ≤ 8) (hr8 : ∀ r ∈ rs, r.xs.length ≤ 8) :
    Calls Tryz.prog 65 #[.slice A p.length c, .pointer (some ⟨g, 0, none⟩)] w (Rb w (.bool (avoidB (rs.map Row.xs) p))) := by
  go_enter Tryz.func65, Tryz.ntmps65
  go_wp2_with fail
  (with_reducible refine (avoids_b B A d c rs p w _ h hp h8 hr8 rfl).mono ?_)
  rintro e w1 ⟨rfl, hb1⟩
  go_wp2_with fail
  go_ret
  exact ⟨rfl, hb1⟩
set_option maxHeartbeats 2000000 in
theorem within_impl (A : Option Addr) (c : Nat) (rs : List Row) (B : Option Addr) (d : Nat) (qs : List Row) (w : World) (h : InL w A c rs) (hq : InL w B d qs) :
    Calls Tryz.prog 25 #[.slice A rs.length c, .slice B qs.length d] w (Rb w (.bool (withinB (rs.map Row.xs) (qs.map Row.xs)))) := by
  have hmf : ∀ (fn : Fn) (first cap : Array Value) (w : World), (Instr.makeFunc fn first cap).run Tryz.prog w = .ok (.func fn first cap) w := fun _ _ _ _ => rfl
  have hb0 := (Below.refl w.heap.size w).alloc (Nat.le_refl _) (.cells #[.slice A rs.length c] 24)
  have h0 := h.next hb0
  have hq0 := hq.next hb0
  have hc0 := alloc_cell w (.slice A rs.length c) 24
  have hz0 : (w.alloc (.cells #[.slice A rs.length c] 24)).heap.size = w.heap.size + 1 := by simp
  have hlen := hq.len
  by_cases hB : basisB (rs.map Row.xs) = true
  · by_cases hP : basisB (qs.map Row.xs) = true
    · have HG := Lib.hid (show withinB (rs.map Row.xs) (qs.map Row.xs) = !(qs.any fun r : Row => avoidB (rs.map Row.xs) r.xs) by unfold withinB; rw [hB, hP, any_rows qs (avoidB (rs.map Row.xs))]; rfl)
      have hr8 := rows_8 (basis_perm hB)
      have hq8 := rows_8 (basis_perm hP)
      have H1 := Lib.hid hB
      have H2 := Lib.hid hP
      clear hB hP
      go_enter Tryz.func25, Tryz.ntmps25
      go_wp2_with fail
      generalize (w.alloc (.cells #[.slice A rs.length c] 24)) = w0 at hb0 h0 hq0 hc0 hz0 ⊢
      (with_reducible refine (basis_ib A c rs w0 true h0 H1.out).mono ?_)
      rintro e w1 ⟨rfl, hb1⟩
      go_wp2_with fail
      (with_reducible refine (basis_ib B d qs w1 true (hq0.next hb1) H2.out).mono ?_)
      rintro e w2 ⟨rfl, hb2⟩
      have hb12 := hb1.trans (hb2.mono hb1.size)
      have h2 := h0.next hb12
      have hq2 := hq0.next hb12
      have hc2 : w2.cell? ⟨w.heap.size, 0, none⟩ = some (.slice A rs.length c) := (hb12.cell (p := ⟨w.heap.size, 0, none⟩) (by show w.heap.size < w0.heap.size; omega)).trans hc0
      have hsz2 := hb12.size
      go_wp2_with fail
      refine (containsFuncL1 B d qs 65 w.heap.size (avoidB (rs.map Row.xs)) w2 (by omega) hq2.read (fun args w' => call_wi args w') (fun w' k hk hb => ?_) _ rfl).mono ?_
      · exact wi_cl qs[k].A A qs[k].c c _ rs qs[k].xs w' (h2.next hb) ((hq2.next hb).row (List.getElem_mem hk)) ((hb.cell (p := ⟨w.heap.size, 0, none⟩) (by show w.heap.size < w2.heap.size; omega)).trans hc2) (hq8 _ (List.getElem_mem hk)) hr8
      · rintro e w3 ⟨rfl, hb3⟩
        go_wp2_with fail
        go_ret
        exact ⟨ret_bool HG.out.symm, (hb0.trans (hb12.mono hb0.size)).trans (hb3.mono (Nat.le_trans hb0.size hsz2))⟩
    · have hPf : basisB (qs.map Row.xs) = false := by simpa using hP
      have HG := Lib.hid (show withinB (rs.map Row.xs) (qs.map Row.xs) = false by unfold withinB; rw [hB, hPf]; rfl)
      have H1 := Lib.hid hB
      have H2 := Lib.hid hPf
      clear hB hP hPf
      go_enter Tryz.func25, Tryz.ntmps25
      go_wp2_with fail
      generalize (w.alloc (.cells #[.slice A rs.length c] 24)) = w0 at hb0 h0 hq0 hc0 hz0 ⊢
      (with_reducible refine (basis_ib A c rs w0 true h0 H1.out).mono ?_)
      rintro e w1 ⟨rfl, hb1⟩
      go_wp2_with fail
      (with_reducible refine (basis_ib B d qs w1 false (hq0.next hb1) H2.out).mono ?_)
      rintro e w2 ⟨rfl, hb2⟩
      go_wp2_with fail
      go_ret
      exact ⟨ret_bool HG.out.symm, hb0.trans ((hb1.trans (hb2.mono hb1.size)).mono hb0.size)⟩
  · have hBf : basisB (rs.map Row.xs) = false := by simpa using hB
    have HG := Lib.hid (show withinB (rs.map Row.xs) (qs.map Row.xs) = false by unfold withinB; rw [hBf]; rfl)
    have H1 := Lib.hid hBf
    clear hB hBf
    go_enter Tryz.func25, Tryz.ntmps25
    go_wp2_with fail
    generalize (w.alloc (.cells #[.slice A rs.length c] 24)) = w0 at hb0 h0 hq0 hc0 hz0 ⊢
    (with_reducible refine (basis_ib A c rs w0 false h0 H1.out).mono ?_)
    rintro e w1 ⟨rfl, hb1⟩
    go_wp2_with fail
    go_ret
    exact ⟨ret_bool HG.out.symm, hb0.trans (hb1.mono hb0.size)⟩
theorem allPerm_mem {X : List (List Int)} (h : allPermB X = true) : ∀ q ∈ X, permB q = true := fun q hq => by
  unfold allPermB at h
  rw [Bool.not_eq_true', List.any_eq_false] at h
  simpa using h q hq
theorem allPerm_of {X : List (List Int)} (h : ∀ q ∈ X, permB q = true) : allPermB X = true := by
  unfold allPermB
  rw [Bool.not_eq_true', List.any_eq_false]
  intro q hq
  simp [h q hq]
/-- A permutation of the second list is none, or the first list holds what is none, or it is in the first class. -/
def wiBad (X : List (List Int)) (p : List Int) : Bool := !permB p || !allPermB X || avoidB X p
theorem within_bad {X Y : List (List Int)} {p : List Int} (hp : p ∈ Y) (h : wiBad X p = true) : withinB X Y = false := by
  unfold withinB
  rcases hB : basisB X with _ | _
  · rfl
  rcases hC : basisB Y with _ | _
  · rfl
  have h1 := basis_perm hC p hp
  have h2 := allPerm_of (basis_perm hB)
  unfold wiBad at h
  rw [h1, h2] at h
  have : (Y.any fun p => avoidB X p) = true := List.any_eq_true.2 ⟨p, hp, by simpa using h⟩
  rw [this]; rfl
theorem within_good {X Y : List (List Int)} (h : Y.any (wiBad X) = false) : withinB X Y = (basisB X && basisB Y) := by
  unfold withinB
  have : (Y.any fun p => avoidB X p) = false := by
    rw [List.any_eq_false] at h ⊢
    intro p hp
    have := h p hp
    unfold wiBad at this
    simp only [Bool.or_eq_true, not_or] at this
    exact this.2
  rw [this, Bool.not_false, Bool.and_true]
set_option maxHeartbeats 2000000 in
theorem within_spec (A : Option Addr) (c : Nat) (rs : List Row) (B : Option Addr) (d : Nat) (qs : List Row) (w : World) (h : InL w A c rs) (hq : InL w B d qs) :
    Calls Tryz.prog 26 #[.slice A rs.length c, .slice B qs.length d] w (Rb w (.bool (withinB (rs.map Row.xs) (qs.map Row.xs)))) := by
  have hlen := hq.len
  go_enter Tryz.func26, Tryz.ntmps26
  go_wp2_with fail
  go_loopw [5] (fun i wr => ∃ k : Nat, k ≤ qs.length ∧ i = .int .i64 k ∧ Hid ((qs.take k).any (fun r : Row => wiBad (rs.map Row.xs) r.xs) = false) ∧ Below w.heap.size w wr) (fun i _ => qs.length - (intOf i).toNat)
  case atStart => exact ⟨0, Nat.zero_le _, rfl, Lib.hid rfl, Below.refl _ _⟩
  case round =>
    obtain ⟨k, hk, rfl, HN, hb⟩ := hrel
    have hsz := hb.size
    rcases Nat.lt_or_ge k qs.length with hlt | hge
    · obtain ⟨b', off, rfl, hbb, hc⟩ := (hq.next hb).read.at (by omega)
      have c1 := hc k hlt
      have hin := (hq.next hb).row (List.getElem_mem hlt)
      have HMEM := Lib.hid (show qs[k].xs ∈ qs.map Row.xs from List.mem_map.2 ⟨qs[k], List.getElem_mem hlt, rfl⟩)
      clear hc
      go_wp2_with fail
      by_cases hP : permB qs[k].xs = true
      · have h8 := (permB_true hP).1
        have HP := Lib.hid hP
        clear hP
        (with_reducible refine (isPerm_sb qs[k].A qs[k].c qs[k].xs wr true hin HP.out).mono ?_)
        rintro e w1 ⟨rfl, hd1⟩
        have hb1 := below_dr hb hd1
        go_wp2_with fail
        by_cases hA : allPermB (rs.map Row.xs) = true
        · have hr8 := rows_8 (allPerm_mem hA)
          have HA := Lib.hid hA
          clear hA
          (with_reducible refine (l3All_b A c rs w1 true (h.next hb1) HA.out).mono ?_)
          rintro e w2 ⟨rfl, hb2⟩
          have hb2 := hb1.trans (hb2.mono hb1.size)
          have c2 : w2.cell? ⟨b', off + k, none⟩ = some (Value.slice qs[k].A qs[k].xs.length qs[k].c) := by
            obtain ⟨b2, off2, he, _, hc⟩ := (hq.next hb2).read.at (by omega)
            injection he with he
            injection he with he1 he2 _
            subst he1 he2
            exact hc k hlt
          have hin2 := (hq.next hb2).row (List.getElem_mem hlt)
          go_wp2_with fail
          by_cases hV : avoidB (rs.map Row.xs) qs[k].xs = true
          · have HF := Lib.hid (within_bad HMEM.out (show wiBad (rs.map Row.xs) qs[k].xs = true by unfold wiBad; rw [hV, Bool.or_true]))
            (with_reducible refine (l12Avoids_b A qs[k].A c qs[k].c rs qs[k].xs w2 true (h.next hb2) hin2 h8 hr8 hV).mono ?_)
            rintro e w3 ⟨rfl, hb3⟩
            clear hV
            go_wp2_with fail
            go_ret
            exact ⟨ret_bool HF.out.symm, hb2.trans (hb3.mono hb2.size)⟩
          · have hVf : avoidB (rs.map Row.xs) qs[k].xs = false := by simpa using hV
            have HT := Lib.hid (show (qs.take (k + 1)).any (fun r : Row => wiBad (rs.map Row.xs) r.xs) = false from any_take_false HN.out hlt (by unfold wiBad; rw [HP.out, HA.out, hVf]; rfl))
            (with_reducible refine (l12Avoids_b A qs[k].A c qs[k].c rs qs[k].xs w2 false (h.next hb2) hin2 h8 hr8 hVf).mono ?_)
            rintro e w3 ⟨rfl, hb3⟩
            clear hV hVf
            go_wp2_with fail
            go_roundw
            case rel => exact ⟨k + 1, by omega, by go_num, HT, hb2.trans (hb3.mono hb2.size)⟩
            case measure => simp [intOf]; omega
        · have hAf : allPermB (rs.map Row.xs) = false := by simpa using hA
          have HF := Lib.hid (within_bad HMEM.out (show wiBad (rs.map Row.xs) qs[k].xs = true by unfold wiBad; rw [hAf]; simp))
          (with_reducible refine (l3All_b A c rs w1 false (h.next hb1) hAf).mono ?_)
          rintro e w2 ⟨rfl, hb2⟩
          clear hA hAf
          go_wp2_with fail
          go_ret
          exact ⟨ret_bool HF.out.symm, hb1.trans (hb2.mono hb1.size)⟩
      · have hPf : permB qs[k].xs = false := by simpa using hP
        have HF := Lib.hid (within_bad HMEM.out (show wiBad (rs.map Row.xs) qs[k].xs = true by unfold wiBad; rw [hPf]; simp))
        (with_reducible refine (isPerm_sb qs[k].A qs[k].c qs[k].xs wr false hin hPf).mono ?_)
        rintro e w1 ⟨rfl, hd1⟩
        clear hP hPf
        go_wp2_with fail
        go_ret
        exact ⟨ret_bool HF.out.symm, below_dr hb hd1⟩
    · have HG := Lib.hid (within_good (X := rs.map Row.xs) (Y := qs.map Row.xs) (by have := HN.out; rw [List.take_of_length_le hge, any_rows qs (wiBad (rs.map Row.xs))] at this; exact this))
      go_wp2_with fail
      by_cases hB : basisB (rs.map Row.xs) = true
      · (with_reducible refine (basis_sb A c rs wr true (h.next hb) hB).mono ?_)
        rintro e w1 ⟨rfl, hb1⟩
        have hb1 := hb.trans (hb1.mono hsz)
        have HB := Lib.hid hB
        clear hB
        go_wp2_with fail
        (with_reducible refine (basis_sb B d qs w1 _ (hq.next hb1) rfl).mono ?_)
        rintro e w2 ⟨rfl, hb2⟩
        go_wp2_with fail
        go_ret
        exact ⟨ret_bool (by rw [HG.out, HB.out, Bool.true_and]), hb1.trans (hb2.mono hb1.size)⟩
      · have hBf : basisB (rs.map Row.xs) = false := by simpa using hB
        (with_reducible refine (basis_sb A c rs wr false (h.next hb) hBf).mono ?_)
        rintro e w1 ⟨rfl, hb1⟩
        have HB := Lib.hid hBf
        clear hB hBf
        go_wp2_with fail
        go_ret
        exact ⟨ret_bool (by rw [HG.out, HB.out, Bool.false_and]), hb.trans (hb1.mono hsz)⟩
end Go.Proofs.YtodloeonlaljpaaGreat

/- The program's occurrences: all ascending places, those that have the pattern. -/
namespace Go.Proofs.YtodloeonlaljpaaGreat
set_option maxRecDepth 100000
open Go Go.RowKit

theorem pow_eight {n i : Nat} (hn : n ≤ 8) (hi : i ≤ 8) : n ^ i ≤ 16777216 := by
  have h1 : n ^ i ≤ 8 ^ i := Nat.pow_le_pow_left hn i
  have h2 : 8 ^ i ≤ 8 ^ 8 := Nat.pow_le_pow_right (by omega) hi
  omega
def ascTo (l : List Int) (u : Nat) : List (List Int) := (marks (fromI l) u).map fun x => l ++ [x]
theorem ascTo_succ (l : List Int) (u : Nat) : ascTo l (u + 1) = ascTo l u ++ [l ++ [fromI l + u]] := by unfold ascTo; rw [marks_succ, List.map_append]; rfl
theorem ascTo_length (l : List Int) (u : Nat) : (ascTo l u).length = u := by unfold ascTo; rw [List.length_map, marks_len]
theorem ascX_take_le (n : Nat) (ls : List (List Int)) (j : Nat) (h : ∀ l ∈ ls, 1 ≤ fromI l) : (ascX n (ls.take j)).length ≤ ls.length * n := by
  have h1 := flatMap_le (asc1 n) n (ls.take j) (fun p hp => by
    unfold asc1
    rw [List.length_map]
    exact ways_le (h p ((List.take_sublist j ls).subset hp)))
  have h2 : (ls.take j).length ≤ ls.length := by simp; omega
  have h3 := Nat.mul_le_mul_right n h2
  exact Nat.le_trans h1 h3

end Go.Proofs.YtodloeonlaljpaaGreat

/- Occurrences in the program, and in the reference. -/
namespace Go.Proofs.YtodloeonlaljpaaGreat
set_option maxRecDepth 100000
open Go Go.RowKit

/-- The first k rows that are kept. -/
def keptR (H : List Int → Bool) (rs : List Row) (k : Nat) : List Row := (rs.take k).filter fun r => H r.xs
theorem keptR_succ (H : List Int → Bool) (rs : List Row) (k : Nat) (h : k < rs.length) : keptR H rs (k + 1) = if H rs[k].xs = true then keptR H rs k ++ [rs[k]] else keptR H rs k := by
  unfold keptR
  rw [List.take_succ_eq_append_getElem h, List.filter_append]
  by_cases hh : H rs[k].xs = true <;> simp [hh]
theorem keptR_le (H : List Int → Bool) (rs : List Row) (k : Nat) : (keptR H rs k).length ≤ rs.length := by
  unfold keptR
  have h1 := List.length_filter_le (fun r : Row => H r.xs) (rs.take k)
  have h2 : (rs.take k).length ≤ rs.length := by simp; omega
  omega
theorem keptR_sub (H : List Int → Bool) (rs : List Row) : (keptR H rs rs.length).Sublist rs := by unfold keptR; rw [List.take_length]; exact List.filter_sublist
theorem keptR_all (H : List Int → Bool) (rs : List Row) : (keptR H rs rs.length).map Row.xs = (rs.map Row.xs).filter H := by unfold keptR; rw [List.take_length, List.filter_map]; rfl


end Go.Proofs.YtodloeonlaljpaaGreat

/- The permutations of a class: ClassOf, program and reference. -/
namespace Go.Proofs.YtodloeonlaljpaaGreat
set_option maxRecDepth 100000
open Go Go.RowKit

def clsL (X : List (List Int)) (n : Nat) : List (List Int) := (permsL n).filter (avoidB X)
def clG (X : List (List Int)) (n : Int) : List (List Int) := if basisB X = true ∧ sixB n = true then clsL X n.toNat else []
theorem clsL_le {X : List (List Int)} {n : Nat} (hn : n ≤ 6) : (clsL X n).length ≤ 46656 := by
  unfold clsL
  have := List.length_filter_le (avoidB X) (permsL n)
  have := permsL_le hn
  omega
theorem sizeX_le {L : List (List Int)} {m : Nat} (h : ∀ l ∈ L, l.length ≤ m) : sizeX L ≤ L.length * m := by
  induction L with
  | nil => simp [sizeX]
  | cons a t ih =>
    have h1 := h a (by simp)
    have h2 := ih (fun l hl => h l (by simp [hl]))
    simp only [sizeX, List.map_cons, List.sum_cons, List.length_cons, Nat.add_mul, Nat.one_mul] at h2 ⊢
    omega
theorem clG_le (X : List (List Int)) (n : Int) : (clG X n).length + sizeX (clG X n) ≤ 1048576 := by
  unfold clG
  by_cases h : basisB X = true ∧ sixB n = true
  · rw [if_pos h]
    have h6 : 0 ≤ n ∧ n ≤ 6 := by simpa [sixB] using h.2
    have h1 := clsL_le (X := X) (n := n.toNat) (by omega)
    have h2 := sizeX_le (L := clsL X n.toNat) (m := 6) (fun l hl => by
      have := (permsI_mem (List.mem_filter.1 hl).1).1
      omega)
    omega
  · rw [if_neg h]; simp [sizeX]

set_option maxHeartbeats 4000000 in
theorem classOf_spec (A : Option Addr) (c : Nat) (qs : List Row) (n : Int) (_ : -9223372036854775808 ≤ n ∧ n ≤ 9223372036854775807) (w : World) (h : InL w A c qs) :
    Calls Tryz.prog 32 #[.slice A qs.length c, .int .i64 n] w (RetL w (clG (qs.map Row.xs) n)) := by
  obtain ⟨j0, hj, hy0, hy1, hy2⟩ := info_parts infoL
  have hown0 : (w.alloc (.cells #[] 36)).ownsRow w.heap.size 36 1 (.slice (some ⟨w.heap.size, 0, none⟩) 0 0) 0 [] := World.ownsRow_lit w #[] 0 (Nat.le_refl _) (by unfold maxLen; omega) rfl
  have hlit := Own.lit (lo := w.heap.size) w (Nat.le_refl _)
  have hb0 := (Below.refl w.heap.size w).alloc (Nat.le_refl _) (.cells #[] 36)
  have hsz0 : (w.alloc (Obj.cells #[] 36)).heap.size = w.heap.size + 1 := by simp
  have HZ0 := Lib.hid hsz0
  clear hsz0
  by_cases hB : basisB (qs.map Row.xs) = true
  · have H1 := Lib.hid hB
    have hr8 := rows_8 (basis_perm hB)
    clear hB
    go_enter Tryz.func32, Tryz.ntmps32
    go_wp2_with fail
    generalize (w.alloc (Obj.cells #[] 36)) = w0 at hown0 hlit hb0 HZ0 ⊢
    (with_reducible refine (basis_sb A c qs w0 true (h.next hb0) H1.out).mono ?_)
    rintro e w1 ⟨rfl, hb1⟩
    have hbw := hb0.trans (hb1.mono hb0.size)
    go_wp2_with fail
    by_cases h6 : sixB n = true
    · have HG := Lib.hid (show clG (qs.map Row.xs) n = clsL (qs.map Row.xs) n.toNat by unfold clG; rw [if_pos ⟨H1.out, h6⟩])
      have h6' : 0 ≤ n ∧ n ≤ 6 := by simpa [sixB] using h6
      (with_reducible refine (l1In_b n 0 6 w1 true (decide_eq_true h6')).mono ?_)
      rintro e w' ⟨rfl, rfl⟩
      obtain ⟨m, rfl⟩ := Int.eq_ofNat_of_zero_le h6'.1
      have hm : m ≤ 6 := by omega
      have HPG := Lib.hid (show permsG (m : Int) = permsL m by unfold permsG; rw [if_pos h6']; rfl)
      clear h6 h6' hlit
      go_wp2_with fail
      (with_reducible refine (permsOf_spec (m : Int) w1).mono ?_)
      rintro e w2 ⟨A1, c1, rs, rfl, hX, hO, hb2⟩
      rw [HPG.out] at hX
      have hst := Sift.start (A := some ⟨w.heap.size, 0, none⟩) (c := 0) (lo := w.heap.size) hO hown0 (hb1.trans (hb2.mono hb1.size)) hb1.size
      have hbw2 := hbw.trans (hb2.mono hbw.size)
      have hlen : rs.length ≤ 46656 := by have h1 := permsL_le hm; rw [← hX, List.length_map] at h1; exact h1
      have HX := Lib.hid hX
      have hlo1 := hbw.size
      clear hX hO hb2 hown0 hb0 hb1 hbw
      go_wp2_with fail
      go_loopw [5, 7] (fun v i wr => ∃ (k : Nat) (A2 : Option Addr) (c2 : Nat) (vs : List Value), k ≤ rs.length ∧ i = .int .i64 k ∧ v = .slice A2 vs.length c2 ∧ Hid (vs = (keptR (avoidB (qs.map Row.xs)) rs k).map Row.v) ∧
        Sift wr w.heap.size w1.heap.size w2.heap.size rs ⟨A1, c1, rs.map Row.v⟩ A2 c2 vs ∧ Below w.heap.size w wr ∧ w2.heap.size ≤ wr.heap.size) (fun _ i _ => rs.length - (intOf i).toNat)
      case atStart => exact ⟨0, _, _, [], Nat.zero_le _, rfl, rfl, Lib.hid rfl, hst, hbw2, Nat.le_refl _⟩
      case round =>
        clear hst hbw2
        obtain ⟨k, A2, c2, vs, hk, rfl, rfl, HV, hS, hb, hsz⟩ := hrel
        have hvl : vs.length ≤ 46656 := by
          have h1 := keptR_le (avoidB (qs.map Row.xs)) rs k
          have h2 := congrArg List.length HV.out
          rw [List.length_map] at h2
          omega
        rcases Nat.lt_or_ge k rs.length with hlt | hge
        · have hRd := hS.rows.read
          obtain ⟨b, off, rfl, _, hc⟩ := hRd.at (by omega)
          have cc := hc k hlt
          have hl8 : rs[k].xs.length ≤ 8 := by have := (permsI_mem (map_memX HX.out (List.getElem_mem hlt))).1; omega
          have hin := row_in hRd (List.getElem_mem hlt) (by omega) hsz
          have HK := Lib.hid (keptR_succ (avoidB (qs.map Row.xs)) rs k hlt)
          clear hc
          go_wp2_with fail
          by_cases hH : avoidB (qs.map Row.xs) rs[k].xs = true
          · have HT := Lib.hid (show keptR (avoidB (qs.map Row.xs)) rs (k + 1) = keptR (avoidB (qs.map Row.xs)) rs k ++ [rs[k]] by rw [HK.out, if_pos hH])
            (with_reducible refine (l12Avoids_b A rs[k].A c rs[k].c qs rs[k].xs wr true (h.next hb) hin hl8 hr8 hH).mono ?_)
            rintro e w3 ⟨rfl, hb2⟩
            have hS2 := hS.below hb2
            have hbw := hb.trans (hb2.mono hb.size)
            have hsz2 : w2.heap.size ≤ w3.heap.size := by have := hb2.size; omega
            have ho2 := hS2.outN (n := vs.length) rfl
            have hol := hS2.olim (n := vs.length) rfl
            have hwz : w.heap.size ≤ w3.heap.size := hbw.size
            have cc2 : w3.cell? ⟨b, off + k, none⟩ = some (Value.slice rs[k].A rs[k].xs.length rs[k].c) := by
              obtain ⟨b', off', he, _, hc⟩ := hS2.rows.read.at (by omega)
              injection he with he
              injection he with he1 he2 _
              subst he1 he2
              exact hc k hlt
            clear hH hS hRd cc
            go_wp2_with (at_builtin; refine wpList_append_own_at _ rfl _ _ 24 rfl (w.heap.size) 36 j0 (.slice none 0 0) 1 24 Tryz.underlying24 hj hy0 hy1 hy2 rfl (by decide) _ _ _ rfl (World.ownsRow.alloc ho2 _) ⟨w3.heap.size, 0, none⟩ 1 1 [Value.slice rs[k].A rs[k].xs.length rs[k].c] rfl rfl (cell_one_at _ _ (by simp)) (by intro u hu; simp at hu; subst hu; rfl) (by unfold maxLen; omega) (by omega) (by simp; omega) ?_; intro v9 w9 hown9 hgrow9 _ hat9)
            obtain ⟨A5, c5, rfl, hS3, hg3⟩ := hS2.grow hsz2 rfl hown9 hgrow9 hat9
            have hb3 := hbw.grown hg3 hbw.size hol
            have K := Lib.hid (And.intro hS3 hb3)
            have hsz3 : w2.heap.size ≤ w9.heap.size := by have := hg3.size; omega
            clear hS3 hb3 hown9 hgrow9 hat9 hg3 hS2 ho2 hol hbw cc2
            go_wp2
            go_roundw
            case rel => exact ⟨k + 1, A5, c5, vs ++ [Value.slice rs[k].A rs[k].xs.length rs[k].c], by omega, by go_num, by rw [List.length_append]; rfl, Lib.hid (by rw [HT.out, List.map_append, HV.out]; rfl), K.out.1, K.out.2, hsz3⟩
            case measure => simp [intOf]; omega
          · have hHf : avoidB (qs.map Row.xs) rs[k].xs = false := by simpa using hH
            have HT := Lib.hid (show keptR (avoidB (qs.map Row.xs)) rs (k + 1) = keptR (avoidB (qs.map Row.xs)) rs k by rw [HK.out, if_neg hH])
            (with_reducible refine (l12Avoids_b A rs[k].A c rs[k].c qs rs[k].xs wr false (h.next hb) hin hl8 hr8 hHf).mono ?_)
            rintro e w3 ⟨rfl, hb2⟩
            have hS2 := hS.below hb2
            have hbw := hb.trans (hb2.mono hb.size)
            have hsz2 : w2.heap.size ≤ w3.heap.size := by have := hb2.size; omega
            clear hH hHf hS hRd
            go_wp2
            go_roundw
            case rel => exact ⟨k + 1, A2, c2, vs, by omega, by go_num, rfl, Lib.hid (by rw [HT.out, HV.out]), hS2, hbw, hsz2⟩
            case measure => simp [intOf]; omega
        · obtain rfl : k = rs.length := by omega
          have hfin := hS.done HV.out (keptR_sub _ _) hlo1 hsz
          have HLE := Lib.hid (show vs.length = (keptR (avoidB (qs.map Row.xs)) rs rs.length).length by rw [HV.out, List.length_map])
          go_wp2
          go_ret
          rw [HG.out]
          exact ⟨A2, c2, keptR (avoidB (qs.map Row.xs)) rs rs.length, by rw [HLE.out]; rfl, by rw [keptR_all, HX.out]; rfl, hfin, hb⟩
    · have h6f : sixB n = false := by simpa using h6
      have HG := Lib.hid (show clG (qs.map Row.xs) n = [] by unfold clG; rw [if_neg]; exact fun h => h6 h.2)
      have h6' : decide (0 ≤ n ∧ n ≤ 6) = false := h6f
      (with_reducible refine (l1In_b n 0 6 w1 false h6').mono ?_)
      rintro e w' ⟨rfl, rfl⟩
      clear h6 h6f h6'
      go_wp2_with fail
      go_ret
      rw [HG.out]
      exact ⟨_, _, [], rfl, rfl, (hlit.below hb1).wider (Nat.le_refl _) hb1.size, hbw⟩
  · have hBf : basisB (qs.map Row.xs) = false := by simpa using hB
    have H1 := Lib.hid hBf
    have HG := Lib.hid (show clG (qs.map Row.xs) n = [] by unfold clG; rw [if_neg]; exact fun h => hB h.1)
    clear hB hBf
    go_enter Tryz.func32, Tryz.ntmps32
    go_wp2_with fail
    generalize (w.alloc (Obj.cells #[] 36)) = w0 at hown0 hlit hb0 HZ0 ⊢
    (with_reducible refine (basis_sb A c qs w0 false (h.next hb0) H1.out).mono ?_)
    rintro e w1 ⟨rfl, hb1⟩
    go_wp2_with fail
    go_ret
    rw [HG.out]
    exact ⟨_, _, [], rfl, rfl, (hlit.below hb1).wider (Nat.le_refl _) hb1.size, hb0.trans (hb1.mono hb0.size)⟩
end Go.Proofs.YtodloeonlaljpaaGreat

/- Plain maths: the permutations of a class, made by a last number, are as many as those that avoid its basis. -/
namespace Go.Proofs.YtodloeonlaljpaaGreat
set_option maxRecDepth 100000

theorem nodup_sub_len {α : Type} [DecidableEq α] : ∀ (l m : List α), l.Nodup → (∀ x ∈ l, x ∈ m) → l.length ≤ m.length := by
  intro l
  induction l with
  | nil => intro m _ _; simp
  | cons a t ih =>
    intro m hn hs
    rw [List.nodup_cons] at hn
    have h1 := ih (m.erase a) hn.2 (fun x hx => by
      have hne : x ≠ a := fun e => hn.1 (e ▸ hx)
      exact (List.mem_erase_of_ne hne).2 (hs x (by simp [hx])))
    have h2 := List.length_erase_of_mem (hs a (by simp))
    have h3 : 0 < m.length := List.length_pos_of_mem (hs a (by simp))
    rw [List.length_cons]
    omega
theorem nodup_flat {α β : Type} (f : α → List β) (l : List α) (hl : l.Nodup) (h1 : ∀ a ∈ l, (f a).Nodup) (h2 : ∀ a ∈ l, ∀ b ∈ l, ∀ x, x ∈ f a → x ∈ f b → a = b) : (l.flatMap f).Nodup := by
  induction l with
  | nil => simp
  | cons a t ih =>
    rw [List.nodup_cons] at hl
    rw [List.flatMap_cons, List.nodup_append]
    refine ⟨h1 a (by simp), ih hl.2 (fun b hb => h1 b (by simp [hb])) (fun b hb c hc x => h2 b (by simp [hb]) c (by simp [hc]) x), fun x hx y hy e => ?_⟩
    subst e
    obtain ⟨b, hb, hxb⟩ := List.mem_flatMap.1 hy
    have := h2 a (by simp) b (by simp [hb]) x hx hxb
    subst this
    exact hl.1 hb
theorem nodup_map_inj {α β : Type} (f : α → β) (l : List α) (hl : l.Nodup) (h : ∀ a ∈ l, ∀ b ∈ l, f a = f b → a = b) : (l.map f).Nodup := by
  rw [List.nodup_iff_pairwise_ne, List.pairwise_map]
  rw [List.nodup_iff_pairwise_ne] at hl
  exact hl.imp_of_mem fun {a b} ha hb hab e => hab (h a ha b hb e)
theorem nums_nodup (n : Nat) : (nums n).Nodup := by
  unfold nums
  exact nodup_map_inj _ _ List.nodup_range fun a _ b _ h => by omega
theorem snoc_inj {p q : List Int} {x y : Int} (h : p ++ [x] = q ++ [y]) : p = q ∧ x = y := by
  have h1 := List.append_inj' h rfl
  exact ⟨h1.1, by simpa using h1.2⟩
theorem permsI_nodup (n i : Nat) : (permsI n i).Nodup := by
  induction i with
  | zero => simp [permsI]
  | succ i ih =>
    refine nodup_flat (ext1 n) _ ih (fun p _ => ?_) (fun p _ q _ x hx hy => ?_)
    · exact nodup_map_inj _ _ ((nums_nodup n).filter _) fun a _ b _ h => (snoc_inj h).2
    · obtain ⟨v, _, rfl⟩ := List.mem_map.1 hx
      obtain ⟨u, _, h⟩ := List.mem_map.1 hy
      exact (snoc_inj h).1.symm
theorem ascI_mono {n m : Nat} (h : n ≤ m) : ∀ {k : Nat} {l : List Int}, l ∈ ascI n k → l ∈ ascI m k := by
  intro k
  induction k with
  | zero => intro l hl; simpa [ascI] using hl
  | succ k ih =>
    intro l hl
    obtain ⟨q, hq, hx⟩ := List.mem_flatMap.1 hl
    obtain ⟨x, hxw, rfl⟩ := List.mem_map.1 hx
    have hw := ways_mem.1 hxw
    exact List.mem_flatMap.2 ⟨q, ih hq, List.mem_map.2 ⟨x, ways_mem.2 ⟨hw.1, by omega⟩, rfl⟩⟩
theorem atL_get {p l : List Int} {i : Nat} (hi : i < l.length) (h : 1 ≤ l[i] ∧ l[i] ≤ p.length) : (atL p l)[i]'(by rw [atL_length]; exact hi) = p[(l[i] - 1).toNat]'(by omega) := by
  unfold atL
  rw [List.getElem_map, List.getElem?_eq_getElem (by omega)]; rfl
/-- A head that rises and falls alike has no pattern that the whole lacks. -/
theorem has_mono {p q t : List Int} (hp : permB p = true) (hq : permB q = true) (ht : permB t = true) (hl : q.length ≤ p.length)
    (ho : ∀ i j (hi : i < q.length) (hj : j < q.length), q[i] < q[j] ↔ p[i]'(by omega) < p[j]'(by omega)) (h : hasB q t = true) : hasB p t = true := by
  unfold hasB at h ⊢
  rw [occ_eq hp ht]
  rw [occ_eq hq ht] at h
  rw [Bool.not_eq_true', List.isEmpty_eq_false_iff] at h ⊢
  obtain ⟨l, hm⟩ := List.exists_mem_of_ne_nil _ h
  obtain ⟨h1, h2⟩ := List.mem_filter.1 hm
  obtain ⟨h3, h4⟩ := ascI_mem h1
  have h5 := ascI_mono hl h1
  obtain ⟨_, h6⟩ := ascI_mem h5
  refine List.ne_nil_of_mem (a := l) (List.mem_filter.2 ⟨h5, ?_⟩)
  rw [decide_eq_true_eq] at h2 ⊢
  have e1 : (atL q l).length = t.length := by rw [atL_length, h3]
  have e2 : (atL p l).length = t.length := by rw [atL_length, h3]
  rw [patL_iff e1 (atL_nodup (permB_true hq).2.2 h4) ht] at h2
  rw [patL_iff e2 (atL_nodup (permB_true hp).2.2 h6) ht]
  intro i j hi hj hij
  rw [atL_length] at hi hj
  have k1 := h2 i j (by rw [atL_length]; exact hi) (by rw [atL_length]; exact hj) hij
  have bi := h4.1 l[i] (List.getElem_mem hi)
  have bj := h4.1 l[j] (List.getElem_mem hj)
  rw [atL_get hi ⟨bi.1, bi.2.1⟩, atL_get hj ⟨bj.1, bj.2.1⟩] at k1
  rw [atL_get hi ⟨bi.1, by omega⟩, atL_get hj ⟨bj.1, by omega⟩, k1]
  exact ho _ _ _ _
def bump (v x : Int) : Int := x + if x ≥ v then 1 else 0
def unbump (v x : Int) : Int := if x > v then x - 1 else x
/-- A number more at the end. -/
def child (q : List Int) (v : Int) : List Int := q.map (bump v) ++ [v]
def nextL (X ls : List (List Int)) (n : Nat) : List (List Int) := ls.flatMap fun q => ((nums n).map (child q)).filter (avoidB X)
def lastL (X : List (List Int)) : Nat → List (List Int)
  | 0 => [[]]
  | k + 1 => nextL X (lastL X k) (k + 1)
theorem bump_lt (v x y : Int) : bump v x < bump v y ↔ x < y := by unfold bump; split <;> split <;> omega
theorem bump_ne (v x : Int) : bump v x ≠ v := by unfold bump; split <;> omega
theorem bump_inj {v x y : Int} (h : bump v x = bump v y) : x = y := by unfold bump at h; split at h <;> split at h <;> omega
theorem bump_un {v x : Int} (h : x ≠ v) : bump v (unbump v x) = x := by
  unfold bump unbump
  split
  · rw [if_pos (by omega)]; omega
  · rw [if_neg (by omega)]; omega
theorem un_inj {v x y : Int} (hx : x ≠ v) (hy : y ≠ v) (h : unbump v x = unbump v y) : x = y := by rw [← bump_un hx, ← bump_un hy, h]
theorem perm_of_mem {n : Nat} {p : List Int} (h8 : n ≤ 8) : p ∈ permsL n ↔ permB p = true ∧ p.length = n := by
  constructor
  · exact permsL_perm h8
  · rintro ⟨h1, rfl⟩; exact permB_mem h1
theorem child_perm {q : List Int} {v : Int} (h : permB q = true) (h8 : q.length + 1 ≤ 8) (hv : 1 ≤ v ∧ v ≤ q.length + 1) : permB (child q v) = true := by
  obtain ⟨_, hr, hn⟩ := permB_true h
  have hlen : (child q v).length = q.length + 1 := by simp [child]
  simp only [permB, decide_eq_true_eq]
  refine ⟨by omega, fun x hx => ?_, ?_⟩
  · rw [hlen]
    unfold child at hx
    rcases List.mem_append.1 hx with hx | hx
    · obtain ⟨y, hy, rfl⟩ := List.mem_map.1 hx
      have := hr y hy
      unfold bump
      split <;> (push_cast; omega)
    · obtain rfl := List.mem_singleton.1 hx
      push_cast; omega
  · unfold child
    rw [nodup_snoc]
    refine ⟨nodup_map_inj _ _ hn fun a _ b _ e => bump_inj e, fun hm => ?_⟩
    obtain ⟨y, _, e⟩ := List.mem_map.1 hm
    exact bump_ne v y e
theorem avoid_nil {X : List (List Int)} (hB : basisB X = true) : avoidB X [] = true := by
  unfold avoidB
  rw [Bool.not_eq_true', List.any_eq_false]
  intro t ht
  have hne : t.length ≠ 0 := by
    unfold basisB at hB
    rw [Bool.and_eq_true] at hB
    obtain ⟨i, hi, rfl⟩ := List.mem_iff_getElem.1 ht
    have := List.all_eq_true.1 hB.2 i (List.mem_range.2 hi)
    unfold basAt at this
    rw [List.getElem?_eq_getElem hi] at this
    simp only [Option.getD_some, Bool.and_eq_true, decide_eq_true_eq] at this
    exact this.1.1.2
  unfold hasB occL
  rw [occF_none [] t t.length [] (by rw [fromI_nil]; simp; omega) (by omega)]
  simp
theorem lastL_mem {X : List (List Int)} (hB : basisB X = true) : ∀ (k : Nat), k ≤ 8 → ∀ p, p ∈ lastL X k ↔ p ∈ clsL X k := by
  intro k
  induction k with
  | zero =>
    intro _ p
    have h1 : clsL X 0 = [[]] := by
      unfold clsL
      rw [show permsL 0 = [[]] from rfl, List.filter_cons_of_pos (avoid_nil hB)]; rfl
    rw [h1]; rfl
  | succ k ih =>
    intro hk p
    have ih := ih (by omega)
    unfold clsL
    rw [List.mem_filter, perm_of_mem hk]
    constructor
    · intro h
      obtain ⟨q, hq, hp⟩ := List.mem_flatMap.1 h
      obtain ⟨hp, ha⟩ := List.mem_filter.1 hp
      obtain ⟨v, hv, rfl⟩ := List.mem_map.1 hp
      have hq1 := (ih q).1 hq
      unfold clsL at hq1
      rw [List.mem_filter, perm_of_mem (by omega)] at hq1
      have hv1 := nums_mem.1 hv
      exact ⟨⟨child_perm hq1.1.1 (by omega) (by rw [hq1.1.2]; push_cast at hv1; omega), by simp [child, hq1.1.2]⟩, ha⟩
    · rintro ⟨⟨hp, hl⟩, ha⟩
      have hne : p ≠ [] := by intro e; subst e; simp at hl
      obtain ⟨r, v, rfl⟩ : ∃ r v, p = r ++ [v] := ⟨p.dropLast, p.getLast hne, (List.dropLast_concat_getLast hne).symm⟩
      obtain ⟨_, hr, hn⟩ := permB_true hp
      have hrl : r.length = k := by simpa using hl
      obtain ⟨hn1, hn2⟩ := (nodup_snoc r v).1 hn
      have hv := hr v (by simp)
      have hrv : ∀ x ∈ r, x ≠ v := fun x hx e => hn2 (e ▸ hx)
      have hch : child (r.map (unbump v)) v = r ++ [v] := by
        unfold child
        rw [List.map_map]
        congr 1
        conv => rhs; rw [← List.map_id r]
        exact List.map_congr_left fun x hx => bump_un (hrv x hx)
      have hqp : permB (r.map (unbump v)) = true := by
        simp only [permB, decide_eq_true_eq]
        refine ⟨by rw [List.length_map]; omega, fun x hx => ?_, ?_⟩
        · obtain ⟨y, hy, rfl⟩ := List.mem_map.1 hx
          have h1 := hr y (by simp [hy])
          have h2 := hrv y hy
          rw [List.length_map]
          simp only [List.length_append, List.length_singleton] at h1 hv
          unfold unbump
          split <;> (push_cast at h1 hv ⊢; omega)
        · exact nodup_map_inj _ _ hn1 fun a ha b hb e => un_inj (hrv a ha) (hrv b hb) e
      have hqa : avoidB X (r.map (unbump v)) = true := by
        unfold avoidB at ha ⊢
        rw [Bool.not_eq_true', List.any_eq_false] at ha ⊢
        intro t ht hh
        refine ha t ht (has_mono hp hqp (basis_perm hB t ht) (by simp) (fun i j hi hj => ?_) hh)
        rw [List.length_map] at hi hj
        have e1 : (r ++ [v])[i]'(by simp; omega) = r[i] := by simp [hi]
        have e2 : (r ++ [v])[j]'(by simp; omega) = r[j] := by simp [hj]
        rw [e1, e2, List.getElem_map, List.getElem_map]
        conv => rhs; rw [← bump_un (hrv _ (List.getElem_mem hi)), ← bump_un (hrv _ (List.getElem_mem hj))]
        exact (bump_lt v _ _).symm
      have hqm : r.map (unbump v) ∈ lastL X k := (ih _).2 (by
        unfold clsL
        rw [List.mem_filter, perm_of_mem (by omega)]
        exact ⟨⟨hqp, by rw [List.length_map, hrl]⟩, hqa⟩)
      refine List.mem_flatMap.2 ⟨_, hqm, List.mem_filter.2 ⟨List.mem_map.2 ⟨v, nums_mem.2 ?_, hch⟩, ha⟩⟩
      rw [hl] at hv
      exact hv
theorem child_inj {q r : List Int} {u v : Int} (h : child q u = child r v) : q = r ∧ u = v := by
  obtain ⟨h1, rfl⟩ := snoc_inj h
  refine ⟨?_, rfl⟩
  have hl := congrArg List.length h1
  rw [List.length_map, List.length_map] at hl
  apply List.ext_getElem hl
  intro i hi hj
  have h2 : (q.map (bump u))[i]'(by rw [List.length_map]; exact hi) = (r.map (bump u))[i]'(by rw [List.length_map]; exact hj) := by simp only [h1]
  rw [List.getElem_map, List.getElem_map] at h2
  exact bump_inj h2
theorem lastL_nodup (X : List (List Int)) (k : Nat) : (lastL X k).Nodup := by
  induction k with
  | zero => simp [lastL]
  | succ k ih =>
    refine nodup_flat _ _ ih (fun q _ => ?_) (fun a _ b _ x hx hy => ?_)
    · exact (nodup_map_inj _ _ (nums_nodup _) fun u _ v _ h => (child_inj h).2).filter _
    · obtain ⟨u, _, e1⟩ := List.mem_map.1 (List.mem_filter.1 hx).1
      obtain ⟨v, _, e2⟩ := List.mem_map.1 (List.mem_filter.1 hy).1
      exact (child_inj (e1.trans e2.symm)).1
theorem lastL_len {X : List (List Int)} (hB : basisB X = true) {k : Nat} (hk : k ≤ 8) : (lastL X k).length = (clsL X k).length := by
  have h1 := nodup_sub_len (lastL X k) (clsL X k) (lastL_nodup X k) (fun x hx => (lastL_mem hB k hk x).1 hx)
  have h2 := nodup_sub_len (clsL X k) (lastL X k) ((permsI_nodup k k).filter _) (fun x hx => (lastL_mem hB k hk x).2 hx)
  omega
end Go.Proofs.YtodloeonlaljpaaGreat
