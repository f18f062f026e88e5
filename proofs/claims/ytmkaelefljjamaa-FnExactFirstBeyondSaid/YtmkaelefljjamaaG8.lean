/- The first permutation of one class that is not in another: FirstBeyond, program and reference. -/
import Derived.Test.YtmkaelefljjamaaG7
namespace Go.Proofs.Ytmkaelefljjamaa
set_option maxRecDepth 100000
open Go Go.RowKit

theorem sixB_dec {n : Int} {b : Bool} (h : sixB n = b) : decide (0 ≤ n ∧ n ≤ 6) = b := h
def fbHit (X Y : List (List Int)) (p : List Int) : Bool := avoidB X p && !avoidB Y p
def fbAll (k : Nat) : List (List Int) := (List.range k).flatMap permsL
theorem fbAll_succ (k : Nat) : fbAll (k + 1) = fbAll k ++ permsL k := by simp [fbAll, List.range_succ]
def fbFind (X Y : List (List Int)) (k : Nat) : Option (List Int) := (fbAll k).find? (fbHit X Y)
theorem find_at {H : List Int → Bool} {l : List (List Int)} {j : Nat} (hj : j < l.length) (h0 : (l.take j).any H = false) (h1 : H l[j] = true) : l.find? H = some l[j] := by
  have e : l = l.take j ++ l[j] :: l.drop (j + 1) := by rw [← List.drop_eq_getElem_cons hj, List.take_append_drop]
  have hn : (l.take j).find? H = none := by
    rw [List.find?_eq_none]
    intro x hx
    have := List.any_eq_false.1 h0 x hx
    simpa using this
  conv => lhs; rw [e]
  rw [List.find?_append, hn, List.find?_cons_of_pos h1]
  rfl
theorem fbFind_hit {X Y : List (List Int)} {k n j : Nat} (hk : k < n) (h0 : (fbAll k).any (fbHit X Y) = false) (hj : j < (permsL k).length) (h1 : ((permsL k).take j).any (fbHit X Y) = false) (h2 : fbHit X Y (permsL k)[j] = true) : fbFind X Y n = some (permsL k)[j] := by
  have hs : ∃ t, fbAll n = fbAll (k + 1) ++ t := by
    obtain ⟨d, rfl⟩ : ∃ d, n = k + 1 + d := ⟨n - (k + 1), by omega⟩
    induction d with
    | zero => exact ⟨[], by simp⟩
    | succ d ih =>
      obtain ⟨t, ht⟩ := ih (by omega)
      exact ⟨t ++ permsL (k + 1 + d), by rw [show k + 1 + (d + 1) = k + 1 + d + 1 by omega, fbAll_succ, ht, List.append_assoc]⟩
  obtain ⟨t, ht⟩ := hs
  unfold fbFind
  rw [ht, fbAll_succ, List.find?_append, List.find?_append]
  have hn : (fbAll k).find? (fbHit X Y) = none := by
    rw [List.find?_eq_none]
    intro x hx
    have := List.any_eq_false.1 h0 x hx
    simpa using this
  rw [hn, find_at hj h1 h2]
  rfl
theorem fbFind_none {X Y : List (List Int)} {n : Nat} (h0 : (fbAll n).any (fbHit X Y) = false) : fbFind X Y n = none := by
  unfold fbFind
  rw [List.find?_eq_none]
  intro x hx
  have := List.any_eq_false.1 h0 x hx
  simpa using this
def fbOk (X Y : List (List Int)) (n : Int) : Bool := basisB X && basisB Y && sixB n
def fbG1 (X Y : List (List Int)) (n : Int) : List Int := if fbOk X Y n = true then (fbFind X Y (n.toNat + 1)).getD [] else []
def fbG2 (X Y : List (List Int)) (n : Int) : Bool := fbOk X Y n && (fbFind X Y (n.toNat + 1)).isSome
theorem fbAll_mem {k : Nat} {p : List Int} (h : p ∈ fbAll k) : p.length < k := by
  obtain ⟨m, hm, hp⟩ := List.mem_flatMap.1 h
  have := List.mem_range.1 hm
  have := (permsI_mem hp).1
  omega
theorem fbG1_le (X Y : List (List Int)) (n : Int) : (fbG1 X Y n).length ≤ 1048576 := by
  unfold fbG1
  by_cases h : fbOk X Y n = true
  · rw [if_pos h]
    have h6 : 0 ≤ n ∧ n ≤ 6 := by
      unfold fbOk at h
      rw [Bool.and_eq_true] at h
      simpa [sixB] using h.2
    rcases hf : fbFind X Y (n.toNat + 1) with _ | p
    · simp
    · have := fbAll_mem (List.mem_of_find?_eq_some hf)
      simp only [Option.getD_some]
      omega
  · rw [if_neg h]; simp
theorem own_row2 {w : World} {lo hi : Nat} {rs : List Row} {os : List Outer} (h : Own w lo hi rs os) {r : Row} (hr : r ∈ rs) : w.ownsRow lo 3 1 (.slice r.A r.xs.length r.c) r.xs.length (r.xs.map (Value.int .i64)) := h.rows r hr
theorem any_snoc2 {α : Type} {H : α → Bool} {l m : List α} (h : l.any H = false) (h' : m.any H = false) : (l ++ m).any H = false := by rw [List.any_append, h, h']; rfl

set_option maxHeartbeats 4000000 in
theorem first_impl (A : Option Addr) (c : Nat) (ps : List Row) (B : Option Addr) (d : Nat) (qs : List Row) (n : Int) (_ : -9223372036854775808 ≤ n ∧ n ≤ 9223372036854775807) (w : World) (ha : InL w A c ps) (hb : InL w B d qs) :
    Calls Try.prog 33 #[.slice A ps.length c, .slice B qs.length d, .int .i64 n] w (Ret2 (Value.int .i64) 3 w (fbG1 (ps.map Row.xs) (qs.map Row.xs) n) (fbG2 (ps.map Row.xs) (qs.map Row.xs) n)) := by
  by_cases hok : fbOk (ps.map Row.xs) (qs.map Row.xs) n = true
  · have hok' := hok
    unfold fbOk at hok'
    rw [Bool.and_eq_true, Bool.and_eq_true] at hok'
    obtain ⟨⟨hA, hB⟩, h6⟩ := hok'
    have h6' : 0 ≤ n ∧ n ≤ 6 := by simpa [sixB] using h6
    obtain ⟨m, rfl⟩ := Int.eq_ofNat_of_zero_le h6'.1
    have hm : m ≤ 6 := by omega
    have G1 := Lib.hid (show fbG1 (ps.map Row.xs) (qs.map Row.xs) m = (fbFind (ps.map Row.xs) (qs.map Row.xs) (m + 1)).getD [] by unfold fbG1; rw [if_pos hok]; rfl)
    have G2 := Lib.hid (show fbG2 (ps.map Row.xs) (qs.map Row.xs) m = (fbFind (ps.map Row.xs) (qs.map Row.xs) (m + 1)).isSome by unfold fbG2; rw [hok]; rfl)
    have ha8 := rows_8 (basis_perm hA)
    have hb8 := rows_8 (basis_perm hB)
    have H1 := Lib.hid hA
    have H2 := Lib.hid hB
    have H3 := Lib.hid h6
    clear hok hA hB h6 h6'
    go_enter Try.func33, Try.ntmps33
    go_wp2_with fail
    (with_reducible refine (basis_ib A c ps w true ha H1.out).mono ?_)
    rintro e w1 ⟨rfl, hb1⟩
    go_wp2_with fail
    (with_reducible refine (basis_ib B d qs w1 true (hb.next hb1) H2.out).mono ?_)
    rintro e w2 ⟨rfl, hb2⟩
    have hbw := hb1.trans (hb2.mono hb1.size)
    go_wp2_with fail
    (with_reducible refine (isSix_any (m : Int) w2 true H3.out).mono ?_)
    rintro e w' ⟨rfl, rfl⟩
    clear hb1 hb2
    go_wp2_with fail
    go_loopw [26] (fun i wr => ∃ k : Nat, k ≤ m + 1 ∧ i = .int .i64 k ∧ Hid ((fbAll k).any (fbHit (ps.map Row.xs) (qs.map Row.xs)) = false) ∧ Below w.heap.size w wr) (fun i _ => m + 1 - (intOf i).toNat)
    case atStart => exact ⟨0, Nat.zero_le _, rfl, Lib.hid rfl, hbw⟩
    case round =>
      clear hbw
      obtain ⟨k, hk, rfl, HN, hbk⟩ := hrel
      rcases Nat.lt_or_ge k (m + 1) with hlt | hge
      · go_wp2_with fail
        (with_reducible refine (perms_impl k wr (by omega)).mono ?_)
        rintro e w3 ⟨A3, c3, rs, rfl, hX, hO, hb3⟩
        have hlen : rs.length ≤ 46656 := by have h1 := permsL_le (show k ≤ 6 by omega); rw [← hX, List.length_map] at h1; exact h1
        have hbw3 := hbk.trans (hb3.mono hbk.size)
        have HX := Lib.hid hX
        have hszk := hbk.size
        clear hX
        obtain ⟨wo, rfl⟩ : ∃ wo : World, wo = wr := ⟨_, rfl⟩
        go_wp2_with fail
        go_loopw [32] (fun i wr => ∃ j : Nat, j ≤ rs.length ∧ i = .int .i64 j ∧ Hid (((permsL k).take j).any (fbHit (ps.map Row.xs) (qs.map Row.xs)) = false) ∧ Below w3.heap.size w3 wr) (fun i _ => rs.length - (intOf i).toNat)
        case atStart => exact ⟨0, Nat.zero_le _, rfl, Lib.hid rfl, Below.refl _ _⟩
        case round =>
          obtain ⟨j, hj, rfl, HJ, hb4⟩ := hrel
          have hbw4 := hbw3.trans (hb4.mono hbw3.size)
          have hsz4 := hb4.size
          rcases Nat.lt_or_ge j rs.length with hjl | hjg
          · have hRd := hO.read.below hb4
            obtain ⟨b, off, rfl, _, hc⟩ := hRd.at (by omega)
            have cc := hc j hjl
            have hl8 : rs[j].xs.length ≤ 8 := by have := (permsI_mem (map_memX HX.out (List.getElem_mem hjl))).1; omega
            have hin := row_in hRd (List.getElem_mem hjl) (by omega) hsz4
            have hpl : j < (permsL k).length := by rw [← HX.out, List.length_map]; exact hjl
            have HE := Lib.hid (show rs[j].xs = (permsL k)[j] from map_getX HX.out hjl)
            clear hc hRd
            go_wp2_with fail
            by_cases hv : avoidB (ps.map Row.xs) rs[j].xs = true
            · have HV := Lib.hid hv
              clear hv
              (with_reducible refine (avoids_b A rs[j].A c rs[j].c ps rs[j].xs wr true (ha.next hbw4) hin hl8 ha8 HV.out).mono ?_)
              rintro e w5 ⟨rfl, hb5⟩
              have hb45 := hb4.trans (hb5.mono hsz4)
              have hbw5 := hbw4.trans (hb5.mono hbw4.size)
              have hin5 := hin.next hb5
              go_wp2_with fail
              by_cases hu : avoidB (qs.map Row.xs) rs[j].xs = true
              · have HF := Lib.hid (show ((permsL k).take (j + 1)).any (fbHit (ps.map Row.xs) (qs.map Row.xs)) = false from any_take_false HJ.out hpl (by rw [← HE.out]; unfold fbHit; rw [hu]; simp))
                (with_reducible refine (avoids_b B rs[j].A d rs[j].c qs rs[j].xs w5 true (hb.next hbw5) hin5 hl8 hb8 hu).mono ?_)
                rintro e w6 ⟨rfl, hb6⟩
                clear hu
                go_wp2_with fail
                go_roundw
                case rel => exact ⟨j + 1, by omega, by go_num, HF, hb45.trans (hb6.mono hb45.size)⟩
                case measure => simp [intOf]; omega
              · have huf : avoidB (qs.map Row.xs) rs[j].xs = false := by simpa using hu
                have HR := Lib.hid (fbFind_hit hlt HN.out hpl HJ.out (by rw [← HE.out]; unfold fbHit; rw [HV.out, huf]; rfl))
                (with_reducible refine (avoids_b B rs[j].A d rs[j].c qs rs[j].xs w5 false (hb.next hbw5) hin5 hl8 hb8 huf).mono ?_)
                rintro e w6 ⟨rfl, hb6⟩
                have hOf := own_row2 (hO.below (hb45.trans (hb6.mono hb45.size))) (List.getElem_mem hjl)
                have hcp := own_caps hOf
                clear hu huf
                go_wp2_with fail
                go_ret2
                rw [G1.out, G2.out, HR.out, ← HE.out]
                exact ⟨_, _, rfl, hcp.1, hcp.2, own_mono hOf hszk, hbw5.trans (hb6.mono hbw5.size)⟩
            · have hvf : avoidB (ps.map Row.xs) rs[j].xs = false := by simpa using hv
              have HF := Lib.hid (show ((permsL k).take (j + 1)).any (fbHit (ps.map Row.xs) (qs.map Row.xs)) = false from any_take_false HJ.out hpl (by rw [← HE.out]; unfold fbHit; rw [hvf]; rfl))
              (with_reducible refine (avoids_b A rs[j].A c rs[j].c ps rs[j].xs wr false (ha.next hbw4) hin hl8 ha8 hvf).mono ?_)
              rintro e w5 ⟨rfl, hb5⟩
              clear hv hvf
              go_wp2_with fail
              go_roundw
              case rel => exact ⟨j + 1, by omega, by go_num, HF, hb4.trans (hb5.mono hsz4)⟩
              case measure => simp [intOf]; omega
          · obtain rfl : j = rs.length := by omega
            have HF := Lib.hid (show (fbAll (k + 1)).any (fbHit (ps.map Row.xs) (qs.map Row.xs)) = false by
              rw [fbAll_succ]
              refine any_snoc2 HN.out ?_
              have := HJ.out
              rwa [List.take_of_length_le (by rw [← HX.out, List.length_map]; exact Nat.le_refl _)] at this)
            go_wp2_with fail
            go_roundw
            case rel => exact ⟨k + 1, by omega, by go_num, HF, hbw4⟩
            case measure => simp [intOf]; omega
      · obtain rfl : k = m + 1 := by omega
        have HR := Lib.hid (fbFind_none HN.out)
        go_wp2_with fail
        go_ret2
        rw [G1.out, G2.out, HR.out]
        exact ⟨none, 0, rfl, Nat.le_refl _, Nat.zero_le _, World.ownsRow_nil _ _ _ _, hbk⟩
  · have hno := hok
    have G1 := Lib.hid (show fbG1 (ps.map Row.xs) (qs.map Row.xs) n = [] by unfold fbG1; rw [if_neg hok])
    have G2 := Lib.hid (show fbG2 (ps.map Row.xs) (qs.map Row.xs) n = false by unfold fbG2; rw [show fbOk (ps.map Row.xs) (qs.map Row.xs) n = false by simpa using hok]; rfl)
    unfold fbOk at hno
    by_cases hA : basisB (ps.map Row.xs) = true
    · have H1 := Lib.hid hA
      go_enter Try.func33, Try.ntmps33
      go_wp2_with fail
      (with_reducible refine (basis_ib A c ps w true ha H1.out).mono ?_)
      rintro e w1 ⟨rfl, hb1⟩
      go_wp2_with fail
      by_cases hB : basisB (qs.map Row.xs) = true
      · have H2 := Lib.hid hB
        have h6f : sixB n = false := by rw [hA, hB] at hno; simpa using hno
        have H3 := Lib.hid h6f
        clear hno hok hA hB h6f
        (with_reducible refine (basis_ib B d qs w1 true (hb.next hb1) H2.out).mono ?_)
        rintro e w2 ⟨rfl, hb2⟩
        go_wp2_with fail
        (with_reducible refine (isSix_any n w2 false H3.out).mono ?_)
        rintro e w' ⟨rfl, rfl⟩
        go_wp2_with fail
        go_ret2
        rw [G1.out, G2.out]
        exact ⟨none, 0, rfl, Nat.le_refl _, Nat.zero_le _, World.ownsRow_nil _ _ _ _, hb1.trans (hb2.mono hb1.size)⟩
      · have hBf : basisB (qs.map Row.xs) = false := by simpa using hB
        (with_reducible refine (basis_ib B d qs w1 false (hb.next hb1) hBf).mono ?_)
        rintro e w2 ⟨rfl, hb2⟩
        clear hno hok hA hB hBf
        go_wp2_with fail
        go_ret2
        rw [G1.out, G2.out]
        exact ⟨none, 0, rfl, Nat.le_refl _, Nat.zero_le _, World.ownsRow_nil _ _ _ _, hb1.trans (hb2.mono hb1.size)⟩
    · have hAf : basisB (ps.map Row.xs) = false := by simpa using hA
      have H1 := Lib.hid hAf
      clear hno hok hA hAf
      go_enter Try.func33, Try.ntmps33
      go_wp2_with fail
      (with_reducible refine (basis_ib A c ps w false ha H1.out).mono ?_)
      rintro e w1 ⟨rfl, hb1⟩
      go_wp2_with fail
      go_ret2
      rw [G1.out, G2.out]
      exact ⟨none, 0, rfl, Nat.le_refl _, Nat.zero_le _, World.ownsRow_nil _ _ _ _, hb1⟩
set_option maxHeartbeats 4000000 in
theorem first_spec (A : Option Addr) (c : Nat) (ps : List Row) (B : Option Addr) (d : Nat) (qs : List Row) (n : Int) (_ : -9223372036854775808 ≤ n ∧ n ≤ 9223372036854775807) (w : World) (ha : InL w A c ps) (hb : InL w B d qs) :
    Calls Try.prog 32 #[.slice A ps.length c, .slice B qs.length d, .int .i64 n] w (Ret2 (Value.int .i64) 3 w (fbG1 (ps.map Row.xs) (qs.map Row.xs) n) (fbG2 (ps.map Row.xs) (qs.map Row.xs) n)) := by
  by_cases hok : fbOk (ps.map Row.xs) (qs.map Row.xs) n = true
  · have hok' := hok
    unfold fbOk at hok'
    rw [Bool.and_eq_true, Bool.and_eq_true] at hok'
    obtain ⟨⟨hA, hB⟩, h6⟩ := hok'
    have h6' : 0 ≤ n ∧ n ≤ 6 := by simpa [sixB] using h6
    obtain ⟨m, rfl⟩ := Int.eq_ofNat_of_zero_le h6'.1
    have hm : m ≤ 6 := by omega
    have G1 := Lib.hid (show fbG1 (ps.map Row.xs) (qs.map Row.xs) m = (fbFind (ps.map Row.xs) (qs.map Row.xs) (m + 1)).getD [] by unfold fbG1; rw [if_pos hok]; rfl)
    have G2 := Lib.hid (show fbG2 (ps.map Row.xs) (qs.map Row.xs) m = (fbFind (ps.map Row.xs) (qs.map Row.xs) (m + 1)).isSome by unfold fbG2; rw [hok]; rfl)
    have ha8 := rows_8 (basis_perm hA)
    have hb8 := rows_8 (basis_perm hB)
    have H1 := Lib.hid hA
    have H2 := Lib.hid hB
    have H3 := Lib.hid h6
    clear hok hA hB h6 h6'
    go_enter Try.func32, Try.ntmps32
    go_wp2_with fail
    (with_reducible refine (basis_sb A c ps w true ha H1.out).mono ?_)
    rintro e w1 ⟨rfl, hb1⟩
    go_wp2_with fail
    (with_reducible refine (basis_sb B d qs w1 true (hb.next hb1) H2.out).mono ?_)
    rintro e w2 ⟨rfl, hb2⟩
    have hbw := hb1.trans (hb2.mono hb1.size)
    go_wp2_with fail
    (with_reducible refine (l1In_b (m : Int) 0 6 w2 true (sixB_dec H3.out)).mono ?_)
    rintro e w' ⟨rfl, rfl⟩
    clear hb1 hb2
    go_wp2_with fail
    go_loopw [8] (fun i wr => ∃ k : Nat, k ≤ m + 1 ∧ i = .int .i64 k ∧ Hid ((fbAll k).any (fbHit (ps.map Row.xs) (qs.map Row.xs)) = false) ∧ Below w.heap.size w wr) (fun i _ => m + 1 - (intOf i).toNat)
    case atStart => exact ⟨0, Nat.zero_le _, rfl, Lib.hid rfl, hbw⟩
    case round =>
      clear hbw
      obtain ⟨k, hk, rfl, HN, hbk⟩ := hrel
      rcases Nat.lt_or_ge k (m + 1) with hlt | hge
      · go_wp2_with fail
        (with_reducible refine (permsOf_spec (k : Int) wr).mono ?_)
        rintro e w3 ⟨A3, c3, rs, rfl, hX, hO, hb3⟩
        rw [show permsG (k : Int) = permsL k by unfold permsG; rw [if_pos (by omega)]; rfl] at hX
        have hlen : rs.length ≤ 46656 := by have h1 := permsL_le (show k ≤ 6 by omega); rw [← hX, List.length_map] at h1; exact h1
        have hbw3 := hbk.trans (hb3.mono hbk.size)
        have HX := Lib.hid hX
        have hszk := hbk.size
        clear hX
        obtain ⟨wo, rfl⟩ : ∃ wo : World, wo = wr := ⟨_, rfl⟩
        go_wp2_with fail
        go_loopw [10] (fun i wr => ∃ j : Nat, j ≤ rs.length ∧ i = .int .i64 j ∧ Hid (((permsL k).take j).any (fbHit (ps.map Row.xs) (qs.map Row.xs)) = false) ∧ Below w3.heap.size w3 wr) (fun i _ => rs.length - (intOf i).toNat)
        case atStart => exact ⟨0, Nat.zero_le _, rfl, Lib.hid rfl, Below.refl _ _⟩
        case round =>
          obtain ⟨j, hj, rfl, HJ, hb4⟩ := hrel
          have hbw4 := hbw3.trans (hb4.mono hbw3.size)
          have hsz4 := hb4.size
          rcases Nat.lt_or_ge j rs.length with hjl | hjg
          · have hRd := hO.read.below hb4
            obtain ⟨b, off, rfl, _, hc⟩ := hRd.at (by omega)
            have cc := hc j hjl
            have hl8 : rs[j].xs.length ≤ 8 := by have := (permsI_mem (map_memX HX.out (List.getElem_mem hjl))).1; omega
            have hin := row_in hRd (List.getElem_mem hjl) (by omega) hsz4
            have hpl : j < (permsL k).length := by rw [← HX.out, List.length_map]; exact hjl
            have HE := Lib.hid (show rs[j].xs = (permsL k)[j] from map_getX HX.out hjl)
            clear hc hRd
            go_wp2_with fail
            by_cases hv : avoidB (ps.map Row.xs) rs[j].xs = true
            · have HV := Lib.hid hv
              clear hv
              (with_reducible refine (l12Avoids_b A rs[j].A c rs[j].c ps rs[j].xs wr true (ha.next hbw4) hin hl8 ha8 HV.out).mono ?_)
              rintro e w5 ⟨rfl, hb5⟩
              have hb45 := hb4.trans (hb5.mono hsz4)
              have hbw5 := hbw4.trans (hb5.mono hbw4.size)
              have hin5 := hin.next hb5
              have cc5 : w5.cell? ⟨b, off + j, none⟩ = some (Value.slice rs[j].A rs[j].xs.length rs[j].c) := by
                obtain ⟨b', off', he, _, hc⟩ := (hO.read.below hb45).at (by omega)
                injection he with he
                injection he with he1 he2 _
                subst he1 he2
                exact hc j hjl
              go_wp2_with fail
              by_cases hu : avoidB (qs.map Row.xs) rs[j].xs = true
              · have HF := Lib.hid (show ((permsL k).take (j + 1)).any (fbHit (ps.map Row.xs) (qs.map Row.xs)) = false from any_take_false HJ.out hpl (by rw [← HE.out]; unfold fbHit; rw [hu]; simp))
                (with_reducible refine (l12Avoids_b B rs[j].A d rs[j].c qs rs[j].xs w5 true (hb.next hbw5) hin5 hl8 hb8 hu).mono ?_)
                rintro e w6 ⟨rfl, hb6⟩
                clear hu
                go_wp2_with fail
                go_roundw
                case rel => exact ⟨j + 1, by omega, by go_num, HF, hb45.trans (hb6.mono hb45.size)⟩
                case measure => simp [intOf]; omega
              · have huf : avoidB (qs.map Row.xs) rs[j].xs = false := by simpa using hu
                have HR := Lib.hid (fbFind_hit hlt HN.out hpl HJ.out (by rw [← HE.out]; unfold fbHit; rw [HV.out, huf]; rfl))
                (with_reducible refine (l12Avoids_b B rs[j].A d rs[j].c qs rs[j].xs w5 false (hb.next hbw5) hin5 hl8 hb8 huf).mono ?_)
                rintro e w6 ⟨rfl, hb6⟩
                have cc6 : w6.cell? ⟨b, off + j, none⟩ = some (Value.slice rs[j].A rs[j].xs.length rs[j].c) := by
                  obtain ⟨b', off', he, _, hc⟩ := (hO.read.below (hb45.trans (hb6.mono hb45.size))).at (by omega)
                  injection he with he
                  injection he with he1 he2 _
                  subst he1 he2
                  exact hc j hjl
                have hOf := own_row2 (hO.below (hb45.trans (hb6.mono hb45.size))) (List.getElem_mem hjl)
                have hcp := own_caps hOf
                clear hu huf
                go_wp2_with fail
                go_ret2
                rw [G1.out, G2.out, HR.out, ← HE.out]
                exact ⟨_, _, rfl, hcp.1, hcp.2, own_mono hOf hszk, hbw5.trans (hb6.mono hbw5.size)⟩
            · have hvf : avoidB (ps.map Row.xs) rs[j].xs = false := by simpa using hv
              have HF := Lib.hid (show ((permsL k).take (j + 1)).any (fbHit (ps.map Row.xs) (qs.map Row.xs)) = false from any_take_false HJ.out hpl (by rw [← HE.out]; unfold fbHit; rw [hvf]; rfl))
              (with_reducible refine (l12Avoids_b A rs[j].A c rs[j].c ps rs[j].xs wr false (ha.next hbw4) hin hl8 ha8 hvf).mono ?_)
              rintro e w5 ⟨rfl, hb5⟩
              clear hv hvf
              go_wp2_with fail
              go_roundw
              case rel => exact ⟨j + 1, by omega, by go_num, HF, hb4.trans (hb5.mono hsz4)⟩
              case measure => simp [intOf]; omega
          · obtain rfl : j = rs.length := by omega
            have HF := Lib.hid (show (fbAll (k + 1)).any (fbHit (ps.map Row.xs) (qs.map Row.xs)) = false by
              rw [fbAll_succ]
              refine any_snoc2 HN.out ?_
              have := HJ.out
              rwa [List.take_of_length_le (by rw [← HX.out, List.length_map]; exact Nat.le_refl _)] at this)
            go_wp2_with fail
            go_roundw
            case rel => exact ⟨k + 1, by omega, by go_num, HF, hbw4⟩
            case measure => simp [intOf]; omega
      · obtain rfl : k = m + 1 := by omega
        have HR := Lib.hid (fbFind_none HN.out)
        go_wp2_with fail
        go_ret2
        rw [G1.out, G2.out, HR.out]
        exact ⟨_, 0, rfl, Nat.le_refl _, Nat.zero_le _, World.ownsRow_lit _ #[] 0 (hbk).size (by unfold maxLen; omega) rfl, (hbk).alloc (hbk).size _⟩
  · have hno := hok
    have G1 := Lib.hid (show fbG1 (ps.map Row.xs) (qs.map Row.xs) n = [] by unfold fbG1; rw [if_neg hok])
    have G2 := Lib.hid (show fbG2 (ps.map Row.xs) (qs.map Row.xs) n = false by unfold fbG2; rw [show fbOk (ps.map Row.xs) (qs.map Row.xs) n = false by simpa using hok]; rfl)
    unfold fbOk at hno
    by_cases hA : basisB (ps.map Row.xs) = true
    · have H1 := Lib.hid hA
      go_enter Try.func32, Try.ntmps32
      go_wp2_with fail
      (with_reducible refine (basis_sb A c ps w true ha H1.out).mono ?_)
      rintro e w1 ⟨rfl, hb1⟩
      go_wp2_with fail
      by_cases hB : basisB (qs.map Row.xs) = true
      · have H2 := Lib.hid hB
        have h6f : sixB n = false := by rw [hA, hB] at hno; simpa using hno
        have H3 := Lib.hid h6f
        clear hno hok hA hB h6f
        (with_reducible refine (basis_sb B d qs w1 true (hb.next hb1) H2.out).mono ?_)
        rintro e w2 ⟨rfl, hb2⟩
        go_wp2_with fail
        (with_reducible refine (l1In_b n 0 6 w2 false (sixB_dec H3.out)).mono ?_)
        rintro e w' ⟨rfl, rfl⟩
        go_wp2_with fail
        go_ret2
        rw [G1.out, G2.out]
        exact ⟨_, 0, rfl, Nat.le_refl _, Nat.zero_le _, World.ownsRow_lit _ #[] 0 (hb1.trans (hb2.mono hb1.size)).size (by unfold maxLen; omega) rfl, (hb1.trans (hb2.mono hb1.size)).alloc (hb1.trans (hb2.mono hb1.size)).size _⟩
      · have hBf : basisB (qs.map Row.xs) = false := by simpa using hB
        (with_reducible refine (basis_sb B d qs w1 false (hb.next hb1) hBf).mono ?_)
        rintro e w2 ⟨rfl, hb2⟩
        clear hno hok hA hB hBf
        go_wp2_with fail
        go_ret2
        rw [G1.out, G2.out]
        exact ⟨_, 0, rfl, Nat.le_refl _, Nat.zero_le _, World.ownsRow_lit _ #[] 0 (hb1.trans (hb2.mono hb1.size)).size (by unfold maxLen; omega) rfl, (hb1.trans (hb2.mono hb1.size)).alloc (hb1.trans (hb2.mono hb1.size)).size _⟩
    · have hAf : basisB (ps.map Row.xs) = false := by simpa using hA
      have H1 := Lib.hid hAf
      clear hno hok hA hAf
      go_enter Try.func32, Try.ntmps32
      go_wp2_with fail
      (with_reducible refine (basis_sb A c ps w false ha H1.out).mono ?_)
      rintro e w1 ⟨rfl, hb1⟩
      go_wp2_with fail
      go_ret2
      rw [G1.out, G2.out]
      exact ⟨_, 0, rfl, Nat.le_refl _, Nat.zero_le _, World.ownsRow_lit _ #[] 0 (hb1).size (by unfold maxLen; omega) rfl, (hb1).alloc (hb1).size _⟩
end Go.Proofs.Ytmkaelefljjamaa
