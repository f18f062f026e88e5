/- Counting permutations for which something holds; AvoidRuns. -/
import Derived.Test.YthipikllgpnlhaaR4
import Derived.Test.YthipikllgpnlhaaP2
import Derived.Test.YthipikllgpnlhaaQ2
namespace Go.Proofs.Ythipikllgpnlhaa
set_option maxRecDepth 100000
open Go Go.RowKit

theorem isPerm_ib (A : Option Addr) (c : Nat) (xs : List Int) (w : World) (b : Bool) (h : In w A c xs) (hb : permB xs = b) : Calls Try.prog 74 #[.slice A xs.length c] w (Rb w (.bool b)) := by
  subst hb; exact isPerm_impl A c xs w h
theorem isPerm_sb (A : Option Addr) (c : Nat) (xs : List Int) (w : World) (b : Bool) (h : In w A c xs) (hb : permB xs = b) : Calls Try.prog 19 #[.slice A xs.length c] w (Rq w (.bool b)) := by
  subst hb; exact isPerm_spec A c xs w h
theorem l1Bit_b (b : Bool) (n : Int) (w : World) (hb : (if b = true then 1 else 0) = n) : Calls Try.prog 91 #[.bool b] w fun e w' => e = .returned (.int .i64 n) ∧ w = w' := by
  subst hb; exact l1Bit_q b w
/-- How many of the first k have it. -/
def cntTo {α : Type} (H : α → Bool) (l : List α) (k : Nat) : Nat := ((l.take k).filter H).length
theorem cntTo_succ {α : Type} (H : α → Bool) (l : List α) (k : Nat) (h : k < l.length) : cntTo H l (k + 1) = cntTo H l k + (if H l[k] = true then 1 else 0) := by
  unfold cntTo
  rw [List.take_succ_eq_append_getElem h, List.filter_append, List.length_append]
  by_cases hh : H l[k] = true <;> simp [hh]
theorem cntTo_le {α : Type} (H : α → Bool) (l : List α) (k : Nat) : cntTo H l k ≤ k := by
  unfold cntTo
  have h1 := List.length_filter_le H (l.take k)
  have h2 := List.length_take_le k l
  omega
theorem cntTo_all {α : Type} (H : α → Bool) (l : List α) : cntTo H l l.length = (l.filter H).length := by unfold cntTo; rw [List.take_length]
theorem permsL_le {n : Nat} (hn : n ≤ 6) : (permsL n).length ≤ 46656 := Nat.le_trans (permsI_le n n) (pow_six hn hn)
theorem row_in {w : World} {B : Nat} {rs : List Row} {os : List Outer} (h : Read w B rs os) {r : Row} (hr : r ∈ rs) (hl : r.xs.length ≤ 1048576) (hB : B ≤ w.heap.size) : In w r.A r.c r.xs := ⟨hl, h.cap r hr, (h.rd r hr).more hB⟩
theorem map_getX {rs : List Row} {L : List (List Int)} (h : rs.map Row.xs = L) {j : Nat} (hj : j < rs.length) : rs[j].xs = L[j]'(by rw [← h, List.length_map]; exact hj) := by
  subst h; simp
theorem map_memX {rs : List Row} {L : List (List Int)} (h : rs.map Row.xs = L) {r : Row} (hr : r ∈ rs) : r.xs ∈ L := by
  subst h; exact List.mem_map.2 ⟨r, hr, rfl⟩

def sixB (n : Int) : Bool := decide (0 ≤ n ∧ n ≤ 6)
theorem isSix_any (n : Int) (w : World) (b : Bool) (hb : sixB n = b) : Calls Try.prog 112 #[.int .i64 n] w fun e w' => e = .returned (.bool b) ∧ w = w' := by
  subst hb
  by_cases h0 : 0 ≤ n
  · by_cases h6 : n ≤ 6
    · have HS := Lib.hid (show sixB n = true by simp [sixB, h0, h6])
      go_enter Try.func112, Try.ntmps112
      go_wp2
      go_ret
      exact ⟨ret_bool (by rw [HS.out]), rfl⟩
    · have HS := Lib.hid (show sixB n = false by simp [sixB, h6])
      go_enter Try.func112, Try.ntmps112
      go_wp2
      go_ret
      exact ⟨ret_bool (by rw [HS.out]), rfl⟩
  · have HS := Lib.hid (show sixB n = false by simp [sixB, h0])
    go_enter Try.func112, Try.ntmps112
    go_wp2
    go_ret
    exact ⟨ret_bool (by rw [HS.out]), rfl⟩

set_option maxHeartbeats 2000000 in
theorem counted_impl (n : Nat) (F g : Nat) (H : List Int → Bool) (w : World) (hn : n ≤ 6)
    (hF : ∀ args w', (callFunc F args).run Try.prog w' = .ok (.enter F args) w')
    (hcl : ∀ (w' : World) (A : Option Addr) (c : Nat) (p : List Int), Below w.heap.size w w' → In w' A c p → p ∈ permsL n → Calls Try.prog F #[.slice A p.length c, .pointer (some ⟨g, 0, none⟩)] w' (Rb w' (.bool (H p)))) :
    Calls Try.prog 113 #[.int .i64 n, .func (.func F) #[] #[.pointer (some ⟨g, 0, none⟩)]] w (Rb w (.int .i64 (((permsL n).filter H).length : Int))) := by
  go_enter Try.func113, Try.ntmps113
  go_wp2_with fail
  (with_reducible refine (perms_impl n w hn).mono ?_)
  rintro e w1 ⟨A1, c1, rs, rfl, hX, hO, hb1⟩
  have hRd := hO.read
  have HX := Lib.hid hX
  have hlen : rs.length ≤ 46656 := by have h1 := permsL_le hn; rw [← HX.out, List.length_map] at h1; exact h1
  clear hX hO
  go_wp2_with fail
  go_loopw [5, 11] (fun s i wr => ∃ k : Nat, k ≤ rs.length ∧ i = .int .i64 k ∧ s = .int .i64 (cntTo (fun r : Row => H r.xs) rs k : Nat) ∧ Below w1.heap.size w1 wr) (fun _ i _ => rs.length - (intOf i).toNat)
  case atStart => exact ⟨0, Nat.zero_le _, rfl, rfl, Below.refl _ _⟩
  case round =>
    obtain ⟨k, hk, rfl, rfl, hb⟩ := hrel
    have hle := cntTo_le (fun r : Row => H r.xs) rs k
    rcases Nat.lt_or_ge k rs.length with hlt | hge
    · have hRd2 := hRd.below hb
      obtain ⟨b, off, rfl, _, hc⟩ := hRd2.at (by omega)
      have c1' := hc k hlt
      have hmem := map_memX HX.out (List.getElem_mem hlt)
      have hl6 : rs[k].xs.length ≤ 1048576 := by have := (permsI_mem hmem).1; omega
      have hin := row_in hRd2 (List.getElem_mem hlt) hl6 hb.size
      have hbw := hb1.trans (hb.mono hb1.size)
      have HS := Lib.hid (cntTo_succ (fun r : Row => H r.xs) rs k hlt)
      have HM := Lib.hid hmem
      clear hc hmem hRd2
      go_wp2_with fail
      (with_reducible refine (hcl wr rs[k].A rs[k].c rs[k].xs hbw hin HM.out).mono ?_)
      rintro e w2 ⟨rfl, hb2⟩
      have hb3 := hb.trans (hb2.mono hb.size)
      by_cases hH : H rs[k].xs = true
      · have HT := Lib.hid (show cntTo (fun r : Row => H r.xs) rs (k + 1) = cntTo (fun r : Row => H r.xs) rs k + 1 by rw [HS.out, if_pos hH])
        rw [hH]
        clear hH HS
        go_wp2_with fail
        go_roundw
        case rel => exact ⟨k + 1, by omega, by go_num, by rw [HT.out]; all_goals go_num, hb3⟩
        case measure => simp [intOf]; omega
      · have hHf : H rs[k].xs = false := by simpa using hH
        have HT := Lib.hid (show cntTo (fun r : Row => H r.xs) rs (k + 1) = cntTo (fun r : Row => H r.xs) rs k by rw [HS.out, if_neg hH, Nat.add_zero])
        rw [hHf]
        clear hH hHf HS
        go_wp2_with fail
        go_roundw
        case rel => exact ⟨k + 1, by omega, by go_num, by rw [HT.out], hb3⟩
        case measure => simp [intOf]; omega
    · obtain rfl : k = rs.length := by omega
      have HE := Lib.hid (show cntTo (fun r : Row => H r.xs) rs rs.length = ((permsL n).filter H).length by
        rw [cntTo_all, ← HX.out, List.filter_map, List.length_map]; rfl)
      go_wp2_with fail
      go_ret
      exact ⟨ret_int (by rw [HE.out]), hb1.trans (hb.mono hb1.size)⟩

def avrH (q p : List Int) : Bool := decide (runsN p q = 0)
def avrG (n : Int) (q : List Int) : Int := if sixB n = true ∧ permB q = true ∧ q.length ≠ 0 then (((permsL n.toNat).filter (avrH q)).length : Int) else -1
set_option maxHeartbeats 1000000 in
theorem avr_cl (A B : Option Addr) (c d g : Nat) (p q : List Int) (w : World) (hp : In w A c p) (hq : In w B d q) (hg : w.cell? ⟨g, 0, none⟩ = some (.slice B q.length d)) (h8 : p.length ≤ 8) (hq8 : q.length ≤ 8) (hq0 : 0 < q.length) :
    Calls Try.prog 114 #[.slice A p.length c, .pointer (some ⟨g, 0, none⟩)] w (Rb w (.bool (avrH q p))) := by
  have HD := Lib.hid (show ((runsN p q : Int) == 0) = avrH q p by unfold avrH; rw [Bool.eq_iff_iff]; simp)
  go_enter Try.func114, Try.ntmps114
  go_wp2_with fail
  (with_reducible refine (countRuns_impl A B c d p q w hp hq h8 hq8 hq0).mono ?_)
  rintro e w1 ⟨rfl, hb1⟩
  go_wp2_with fail
  go_ret
  exact ⟨ret_bool HD.out, hb1⟩
theorem call_avr (args : Array Value) (w : World) : (callFunc 114 args).run Try.prog w = .ok (.enter 114 args) w := by kernel_rfl
set_option maxHeartbeats 2000000 in
theorem avoidRuns_impl (n : Int) (_ : -9223372036854775808 ≤ n ∧ n ≤ 9223372036854775807) (B : Option Addr) (d : Nat) (q : List Int) (w : World) (hq : In w B d q) :
    Calls Try.prog 57 #[.int .i64 n, .slice B q.length d] w (Rb w (.int .i64 (avrG n q))) := by
  have hmf : ∀ (fn : Fn) (first cap : Array Value) (w : World), (Instr.makeFunc fn first cap).run Try.prog w = .ok (.func fn first cap) w := fun _ _ _ _ => rfl
  have hb0 := (Below.refl w.heap.size w).alloc (Nat.le_refl _) (.cells #[.slice B q.length d] 24)
  have h0 := hq.next hb0
  have hc0 := alloc_cell w (.slice B q.length d) 24
  have hz0 : (w.alloc (.cells #[.slice B q.length d] 24)).heap.size = w.heap.size + 1 := by simp
  go_enter Try.func57, Try.ntmps57
  go_wp2_with fail
  generalize (w.alloc (.cells #[.slice B q.length d] 24)) = w0 at hb0 h0 hc0 hz0 ⊢
  by_cases h6 : sixB n = true
  · (with_reducible refine (isSix_any n w0 true h6).mono ?_)
    rintro e w' ⟨rfl, rfl⟩
    have h6' : 0 ≤ n ∧ n ≤ 6 := by simpa [sixB] using h6
    obtain ⟨m, rfl⟩ := Int.eq_ofNat_of_zero_le h6'.1
    have hm : m ≤ 6 := by omega
    have H6 := Lib.hid h6
    clear h6 h6'
    go_wp2_with fail
    by_cases hp : permB q = true
    · have HP := Lib.hid hp
      have h8 := (permB_true hp).1
      clear hp
      (with_reducible refine (isPerm_ib B d q w0 true h0 HP.out).mono ?_)
      rintro e w1 ⟨rfl, hb1⟩
      have hc1 : w1.cell? ⟨w.heap.size, 0, none⟩ = some (.slice B q.length d) := (hb1.cell (p := ⟨w.heap.size, 0, none⟩) (by rw [hz0]; exact Nat.lt_succ_self _)).trans hc0
      have h1 := h0.next hb1
      have hsz1 := hb1.size
      by_cases hl : q.length = 0
      · have HG := Lib.hid (show avrG m q = -1 by unfold avrG; rw [if_neg]; exact fun h => h.2.2 hl)
        have hd : ((q.length : Int) == 0) = true := by simp; exact List.eq_nil_of_length_eq_zero hl
        clear hl
        go_wp2_with fail
        go_ret
        exact ⟨ret_int (by rw [HG.out]), hb0.trans (hb1.mono hb0.size)⟩
      · have hq0 : 0 < q.length := by omega
        have HG := Lib.hid (show avrG m q = (((permsL m).filter (avrH q)).length : Int) by unfold avrG; rw [if_pos ⟨H6.out, HP.out, hl⟩]; rfl)
        have hd : ((q.length : Int) == 0) = false := by simp; intro h; rw [h] at hq0; simp at hq0
        clear hl
        go_wp2_with fail
        refine (counted_impl m 114 w.heap.size (avrH q) w1 hm (fun args w' => call_avr args w') (fun w' A c p hb hin hmem => ?_)).mono ?_
        · have hlp : p.length = m := (permsI_mem hmem).1
          exact avr_cl A B c d _ p q w' hin (h1.next hb) ((hb.cell (p := ⟨w.heap.size, 0, none⟩) (by show w.heap.size < w1.heap.size; omega)).trans hc1) (by omega) h8 hq0
        · rintro e w2 ⟨rfl, hb2⟩
          go_wp2_with fail
          go_ret
          exact ⟨ret_int (by rw [HG.out]), (hb0.trans (hb1.mono hb0.size)).trans (hb2.mono (Nat.le_trans hb0.size hb1.size))⟩
    · have hpf : permB q = false := by simpa using hp
      have HG := Lib.hid (show avrG m q = -1 by unfold avrG; rw [if_neg]; exact fun h => hp h.2.1)
      clear hp
      (with_reducible refine (isPerm_ib B d q w0 false h0 hpf).mono ?_)
      rintro e w1 ⟨rfl, hb1⟩
      clear hpf
      go_wp2_with fail
      go_ret
      exact ⟨ret_int (by rw [HG.out]), hb0.trans (hb1.mono hb0.size)⟩
  · have h6f : sixB n = false := by simpa using h6
    have HG := Lib.hid (show avrG n q = -1 by unfold avrG; rw [if_neg]; exact fun h => h6 h.1)
    clear h6
    (with_reducible refine (isSix_any n w0 false h6f).mono ?_)
    rintro e w' ⟨rfl, rfl⟩
    clear h6f
    go_wp2_with fail
    go_ret
    exact ⟨ret_int (by rw [HG.out]), hb0⟩

set_option maxHeartbeats 2000000 in
theorem avoidRuns_spec (n : Int) (_ : -9223372036854775808 ≤ n ∧ n ≤ 9223372036854775807) (B : Option Addr) (d : Nat) (q : List Int) (w : World) (hq : In w B d q) :
    Calls Try.prog 58 #[.int .i64 n, .slice B q.length d] w (Rb w (.int .i64 (avrG n q))) := by
  go_enter Try.func58, Try.ntmps58
  go_wp2_with fail
  by_cases h6 : sixB n = true
  · have h6' : 0 ≤ n ∧ n ≤ 6 := by simpa [sixB] using h6
    (with_reducible refine (l1In_b n 0 6 w true (decide_eq_true h6')).mono ?_)
    rintro e w' ⟨rfl, rfl⟩
    obtain ⟨m, rfl⟩ := Int.eq_ofNat_of_zero_le h6'.1
    have hm : m ≤ 6 := by omega
    have HPG := Lib.hid (show permsG (m : Int) = permsL m by unfold permsG; rw [if_pos h6']; rfl)
    have H6 := Lib.hid h6
    clear h6 h6'
    go_wp2_with fail
    by_cases hp : permB q = true
    · have HP := Lib.hid hp
      have h8 := (permB_true hp).1
      clear hp
      (with_reducible refine (isPerm_sb B d q w true hq HP.out).mono ?_)
      rintro e w0 ⟨rfl, hd0⟩
      have h0 := hq.dr hd0
      have hb0 := below_dr (Below.refl w.heap.size w) hd0
      by_cases hl : q.length = 0
      · have HG := Lib.hid (show avrG m q = -1 by unfold avrG; rw [if_neg]; exact fun h => h.2.2 hl)
        have hd : ((q.length : Int) == 0) = true := by simp; exact List.eq_nil_of_length_eq_zero hl
        clear hl
        go_wp2_with fail
        go_ret
        exact ⟨ret_int (by rw [HG.out]), hb0⟩
      · have hq0 : 0 < q.length := by omega
        have HG := Lib.hid (show avrG m q = (((permsL m).filter (avrH q)).length : Int) by unfold avrG; rw [if_pos ⟨H6.out, HP.out, hl⟩]; rfl)
        have hd : ((q.length : Int) == 0) = false := by simp; intro h; rw [h] at hq0; simp at hq0
        clear hl
        go_wp2_with fail
        (with_reducible refine (permsOf_spec (m : Int) w0).mono ?_)
        rintro e w1 ⟨A1, c1, rs, rfl, hX, hO, hb1⟩
        rw [HPG.out] at hX
        have hRd := hO.read
        have HX := Lib.hid hX
        have hlen : rs.length ≤ 46656 := by have h1 := permsL_le hm; rw [← HX.out, List.length_map] at h1; exact h1
        have h1 := h0.next hb1
        have hbw1 := hb0.trans (hb1.mono hb0.size)
        clear hX hO
        go_wp2_with fail
        go_loopw [5, 7] (fun s i wr => ∃ k : Nat, k ≤ rs.length ∧ i = .int .i64 k ∧ s = .int .i64 (cntTo (fun r : Row => avrH q r.xs) rs k : Nat) ∧ Below w1.heap.size w1 wr) (fun _ i _ => rs.length - (intOf i).toNat)
        case atStart => exact ⟨0, Nat.zero_le _, rfl, rfl, Below.refl _ _⟩
        case round =>
          obtain ⟨k, hk, rfl, rfl, hb⟩ := hrel
          have hle := cntTo_le (fun r : Row => avrH q r.xs) rs k
          rcases Nat.lt_or_ge k rs.length with hlt | hge
          · have hRd2 := hRd.below hb
            obtain ⟨b, off, rfl, _, hc⟩ := hRd2.at (by omega)
            have c1' := hc k hlt
            have hmem := map_memX HX.out (List.getElem_mem hlt)
            have hlm := (permsI_mem hmem).1
            have hl6 : rs[k].xs.length ≤ 1048576 := by omega
            have hin := row_in hRd2 (List.getElem_mem hlt) hl6 hb.size
            have HR := Lib.hid (show runsG rs[k].xs q = (runsN rs[k].xs q : Int) by unfold runsG; rw [if_pos ⟨(permsL_perm (by omega) hmem).1, HP.out, by omega⟩])
            have HS := Lib.hid (cntTo_succ (fun r : Row => avrH q r.xs) rs k hlt)
            clear hc hmem hlm hRd2
            go_wp2_with fail
            (with_reducible refine (runs_spec rs[k].A rs[k].c rs[k].xs B d q wr hin (h1.next hb)).mono ?_)
            rintro e w2 ⟨rfl, hb2⟩
            rw [HR.out]
            have hb3 := hb.trans (hb2.mono hb.size)
            by_cases hH : avrH q rs[k].xs = true
            · have HT := Lib.hid (show cntTo (fun r : Row => avrH q r.xs) rs (k + 1) = cntTo (fun r : Row => avrH q r.xs) rs k + 1 by rw [HS.out, if_pos hH])
              have hz : ((runsN rs[k].xs q : Int) == 0) = true := by have := hH; unfold avrH at this; simpa using this
              clear hH HS
              go_wp2_with fail
              (with_reducible refine (l1Bit_b true 1 _ rfl).mono ?_)
              rintro e w' ⟨rfl, rfl⟩
              clear hz
              go_wp2_with fail
              go_roundw
              case rel => exact ⟨k + 1, by omega, by go_num, by rw [HT.out]; all_goals go_num, hb3⟩
              case measure => simp [intOf]; omega
            · have HT := Lib.hid (show cntTo (fun r : Row => avrH q r.xs) rs (k + 1) = cntTo (fun r : Row => avrH q r.xs) rs k by rw [HS.out, if_neg hH, Nat.add_zero])
              have hz : ((runsN rs[k].xs q : Int) == 0) = false := by have := hH; unfold avrH at this; simpa using this
              clear hH HS
              go_wp2_with fail
              (with_reducible refine (l1Bit_b false 0 _ rfl).mono ?_)
              rintro e w' ⟨rfl, rfl⟩
              clear hz
              go_wp2_with fail
              go_roundw
              case rel => exact ⟨k + 1, by omega, by go_num, by rw [HT.out]; all_goals go_num, hb3⟩
              case measure => simp [intOf]; omega
          · obtain rfl : k = rs.length := by omega
            have HE := Lib.hid (show cntTo (fun r : Row => avrH q r.xs) rs rs.length = ((permsL m).filter (avrH q)).length by
              rw [cntTo_all, ← HX.out, List.filter_map, List.length_map]; rfl)
            go_wp2_with fail
            go_ret
            exact ⟨ret_int (by rw [HG.out, HE.out]), hbw1.trans (hb.mono hbw1.size)⟩
    · have hpf : permB q = false := by simpa using hp
      have HG := Lib.hid (show avrG m q = -1 by unfold avrG; rw [if_neg]; exact fun h => hp h.2.1)
      clear hp
      (with_reducible refine (isPerm_sb B d q w false hq hpf).mono ?_)
      rintro e w0 ⟨rfl, hd0⟩
      have hb0 := below_dr (Below.refl w.heap.size w) hd0
      clear hpf
      go_wp2_with fail
      go_ret
      exact ⟨ret_int (by rw [HG.out]), hb0⟩
  · have h6f : sixB n = false := by simpa using h6
    have HG := Lib.hid (show avrG n q = -1 by unfold avrG; rw [if_neg]; exact fun h => h6 h.1)
    have h6' : decide (0 ≤ n ∧ n ≤ 6) = false := h6f
    clear h6 h6f
    (with_reducible refine (l1In_b n 0 6 w false h6').mono ?_)
    rintro e w' ⟨rfl, rfl⟩
    clear h6'
    go_wp2_with fail
    go_ret
    exact ⟨ret_int (by rw [HG.out]), Below.refl _ _⟩
end Go.Proofs.Ythipikllgpnlhaa
