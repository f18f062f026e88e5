/- The permutations of a class: ClassOf, program and reference. -/
import Derived.Test.YthkggnmfdlggbaaG2
import Derived.Test.YthkggnmfdlggbaaG5
namespace Go.Proofs.Ythkggnmfdlggbaa
set_option maxRecDepth 100000
open Go Go.RowKit

def clsL (X : List (List Int)) (n : Nat) : List (List Int) := (permsL n).filter (avoidB X)
def clG (X : List (List Int)) (n : Int) : List (List Int) := if basisB X = true ∧ sixB n = true then clsL X n.toNat else []
theorem clsL_le {X : List (List Int)} {n : Nat} (hn : n ≤ 6) : (clsL X n).length ≤ 46656 := by
  unfold clsL
  have := List.length_filter_le (avoidB X) (permsL n)
  have := permsL_le hn
  omega
theorem sizeX_le {L : List (List Int)} {m : Nat} (h : ∀ l ∈ L, l.length ≤ m) : sizeX L ≤ L.length * m := by
  induction L with
  | nil => simp [sizeX]
  | cons a t ih =>
    have h1 := h a (by simp)
    have h2 := ih (fun l hl => h l (by simp [hl]))
    simp only [sizeX, List.map_cons, List.sum_cons, List.length_cons, Nat.add_mul, Nat.one_mul] at h2 ⊢
    omega
theorem clG_le (X : List (List Int)) (n : Int) : (clG X n).length + sizeX (clG X n) ≤ 1048576 := by
  unfold clG
  by_cases h : basisB X = true ∧ sixB n = true
  · rw [if_pos h]
    have h6 : 0 ≤ n ∧ n ≤ 6 := by simpa [sixB] using h.2
    have h1 := clsL_le (X := X) (n := n.toNat) (by omega)
    have h2 := sizeX_le (L := clsL X n.toNat) (m := 6) (fun l hl => by
      have := (permsI_mem (List.mem_filter.1 hl).1).1
      omega)
    omega
  · rw [if_neg h]; simp [sizeX]

set_option maxHeartbeats 4000000 in
theorem classOf_spec (A : Option Addr) (c : Nat) (qs : List Row) (n : Int) (_ : -9223372036854775808 ≤ n ∧ n ≤ 9223372036854775807) (w : World) (h : InL w A c qs) :
    Calls Try.prog 77 #[.slice A qs.length c, .int .i64 n] w (RetL w (clG (qs.map Row.xs) n)) := by
  obtain ⟨j0, hj, hy0, hy1, hy2⟩ := info_parts infoL
  have hown0 : (w.alloc (.cells #[] 22)).ownsRow w.heap.size 22 1 (.slice (some ⟨w.heap.size, 0, none⟩) 0 0) 0 [] := World.ownsRow_lit w #[] 0 (Nat.le_refl _) (by unfold maxLen; omega) rfl
  have hlit := Own.lit (lo := w.heap.size) w (Nat.le_refl _)
  have hb0 := (Below.refl w.heap.size w).alloc (Nat.le_refl _) (.cells #[] 22)
  have hsz0 : (w.alloc (Obj.cells #[] 22)).heap.size = w.heap.size + 1 := by simp
  have HZ0 := Lib.hid hsz0
  clear hsz0
  by_cases hB : basisB (qs.map Row.xs) = true
  · have H1 := Lib.hid hB
    have hr8 := rows_8 (basis_perm hB)
    clear hB
    go_enter Try.func77, Try.ntmps77
    go_wp2_with fail
    generalize (w.alloc (Obj.cells #[] 22)) = w0 at hown0 hlit hb0 HZ0 ⊢
    (with_reducible refine (basis_sb A c qs w0 true (h.next hb0) H1.out).mono ?_)
    rintro e w1 ⟨rfl, hb1⟩
    have hbw := hb0.trans (hb1.mono hb0.size)
    go_wp2_with fail
    by_cases h6 : sixB n = true
    · have HG := Lib.hid (show clG (qs.map Row.xs) n = clsL (qs.map Row.xs) n.toNat by unfold clG; rw [if_pos ⟨H1.out, h6⟩])
      have h6' : 0 ≤ n ∧ n ≤ 6 := by simpa [sixB] using h6
      (with_reducible refine (l1In_b n 0 6 w1 true (decide_eq_true h6')).mono ?_)
      rintro e w' ⟨rfl, rfl⟩
      obtain ⟨m, rfl⟩ := Int.eq_ofNat_of_zero_le h6'.1
      have hm : m ≤ 6 := by omega
      have HPG := Lib.hid (show permsG (m : Int) = permsL m by unfold permsG; rw [if_pos h6']; rfl)
      clear h6 h6' hlit
      go_wp2_with fail
      (with_reducible refine (permsOf_spec (m : Int) w1).mono ?_)
      rintro e w2 ⟨A1, c1, rs, rfl, hX, hO, hb2⟩
      rw [HPG.out] at hX
      have hst := Sift.start (A := some ⟨w.heap.size, 0, none⟩) (c := 0) (lo := w.heap.size) hO hown0 (hb1.trans (hb2.mono hb1.size)) hb1.size
      have hbw2 := hbw.trans (hb2.mono hbw.size)
      have hlen : rs.length ≤ 46656 := by have h1 := permsL_le hm; rw [← hX, List.length_map] at h1; exact h1
      have HX := Lib.hid hX
      have hlo1 := hbw.size
      clear hX hO hb2 hown0 hb0 hb1 hbw
      go_wp2_with fail
      go_loopw [5, 7] (fun v i wr => ∃ (k : Nat) (A2 : Option Addr) (c2 : Nat) (vs : List Value), k ≤ rs.length ∧ i = .int .i64 k ∧ v = .slice A2 vs.length c2 ∧ Hid (vs = (keptR (avoidB (qs.map Row.xs)) rs k).map Row.v) ∧
        Sift wr w.heap.size w1.heap.size w2.heap.size rs ⟨A1, c1, rs.map Row.v⟩ A2 c2 vs ∧ Below w.heap.size w wr ∧ w2.heap.size ≤ wr.heap.size) (fun _ i _ => rs.length - (intOf i).toNat)
      case atStart => exact ⟨0, _, _, [], Nat.zero_le _, rfl, rfl, Lib.hid rfl, hst, hbw2, Nat.le_refl _⟩
      case round =>
        clear hst hbw2
        obtain ⟨k, A2, c2, vs, hk, rfl, rfl, HV, hS, hb, hsz⟩ := hrel
        have hvl : vs.length ≤ 46656 := by
          have h1 := keptR_le (avoidB (qs.map Row.xs)) rs k
          have h2 := congrArg List.length HV.out
          rw [List.length_map] at h2
          omega
        rcases Nat.lt_or_ge k rs.length with hlt | hge
        · have hRd := hS.rows.read
          obtain ⟨b, off, rfl, _, hc⟩ := hRd.at (by omega)
          have cc := hc k hlt
          have hl8 : rs[k].xs.length ≤ 8 := by have := (permsI_mem (map_memX HX.out (List.getElem_mem hlt))).1; omega
          have hin := row_in hRd (List.getElem_mem hlt) (by omega) hsz
          have HK := Lib.hid (keptR_succ (avoidB (qs.map Row.xs)) rs k hlt)
          clear hc
          go_wp2_with fail
          by_cases hH : avoidB (qs.map Row.xs) rs[k].xs = true
          · have HT := Lib.hid (show keptR (avoidB (qs.map Row.xs)) rs (k + 1) = keptR (avoidB (qs.map Row.xs)) rs k ++ [rs[k]] by rw [HK.out, if_pos hH])
            (with_reducible refine (l12Avoids_b A rs[k].A c rs[k].c qs rs[k].xs wr true (h.next hb) hin hl8 hr8 hH).mono ?_)
            rintro e w3 ⟨rfl, hb2⟩
            have hS2 := hS.below hb2
            have hbw := hb.trans (hb2.mono hb.size)
            have hsz2 : w2.heap.size ≤ w3.heap.size := by have := hb2.size; omega
            have ho2 := hS2.outN (n := vs.length) rfl
            have hol := hS2.olim (n := vs.length) rfl
            have hwz : w.heap.size ≤ w3.heap.size := hbw.size
            have cc2 : w3.cell? ⟨b, off + k, none⟩ = some (Value.slice rs[k].A rs[k].xs.length rs[k].c) := by
              obtain ⟨b', off', he, _, hc⟩ := hS2.rows.read.at (by omega)
              injection he with he
              injection he with he1 he2 _
              subst he1 he2
              exact hc k hlt
            clear hH hS hRd cc
            go_wp2_with (at_builtin; refine wpList_append_own_at _ rfl _ _ 33 rfl (w.heap.size) 22 j0 (.slice none 0 0) 1 24 Try.underlying33 hj hy0 hy1 hy2 rfl (by decide) _ _ _ rfl (World.ownsRow.alloc ho2 _) ⟨w3.heap.size, 0, none⟩ 1 1 [Value.slice rs[k].A rs[k].xs.length rs[k].c] rfl rfl (cell_one_at _ _ (by simp)) (by intro u hu; simp at hu; subst hu; rfl) (by unfold maxLen; omega) (by omega) (by simp; omega) ?_; intro v9 w9 hown9 hgrow9 _ hat9)
            obtain ⟨A5, c5, rfl, hS3, hg3⟩ := hS2.grow hsz2 rfl hown9 hgrow9 hat9
            have hb3 := hbw.grown hg3 hbw.size hol
            have K := Lib.hid (And.intro hS3 hb3)
            have hsz3 : w2.heap.size ≤ w9.heap.size := by have := hg3.size; omega
            clear hS3 hb3 hown9 hgrow9 hat9 hg3 hS2 ho2 hol hbw cc2
            go_wp2
            go_roundw
            case rel => exact ⟨k + 1, A5, c5, vs ++ [Value.slice rs[k].A rs[k].xs.length rs[k].c], by omega, by go_num, by rw [List.length_append]; rfl, Lib.hid (by rw [HT.out, List.map_append, HV.out]; rfl), K.out.1, K.out.2, hsz3⟩
            case measure => simp [intOf]; omega
          · have hHf : avoidB (qs.map Row.xs) rs[k].xs = false := by simpa using hH
            have HT := Lib.hid (show keptR (avoidB (qs.map Row.xs)) rs (k + 1) = keptR (avoidB (qs.map Row.xs)) rs k by rw [HK.out, if_neg hH])
            (with_reducible refine (l12Avoids_b A rs[k].A c rs[k].c qs rs[k].xs wr false (h.next hb) hin hl8 hr8 hHf).mono ?_)
            rintro e w3 ⟨rfl, hb2⟩
            have hS2 := hS.below hb2
            have hbw := hb.trans (hb2.mono hb.size)
            have hsz2 : w2.heap.size ≤ w3.heap.size := by have := hb2.size; omega
            clear hH hHf hS hRd
            go_wp2
            go_roundw
            case rel => exact ⟨k + 1, A2, c2, vs, by omega, by go_num, rfl, Lib.hid (by rw [HT.out, HV.out]), hS2, hbw, hsz2⟩
            case measure => simp [intOf]; omega
        · obtain rfl : k = rs.length := by omega
          have hfin := hS.done HV.out (keptR_sub _ _) hlo1 hsz
          have HLE := Lib.hid (show vs.length = (keptR (avoidB (qs.map Row.xs)) rs rs.length).length by rw [HV.out, List.length_map])
          go_wp2
          go_ret
          rw [HG.out]
          exact ⟨A2, c2, keptR (avoidB (qs.map Row.xs)) rs rs.length, by rw [HLE.out]; rfl, by rw [keptR_all, HX.out]; rfl, hfin, hb⟩
    · have h6f : sixB n = false := by simpa using h6
      have HG := Lib.hid (show clG (qs.map Row.xs) n = [] by unfold clG; rw [if_neg]; exact fun h => h6 h.2)
      have h6' : decide (0 ≤ n ∧ n ≤ 6) = false := h6f
      (with_reducible refine (l1In_b n 0 6 w1 false h6').mono ?_)
      rintro e w' ⟨rfl, rfl⟩
      clear h6 h6f h6'
      go_wp2_with fail
      go_ret
      rw [HG.out]
      exact ⟨_, _, [], rfl, rfl, (hlit.below hb1).wider (Nat.le_refl _) hb1.size, hbw⟩
  · have hBf : basisB (qs.map Row.xs) = false := by simpa using hB
    have H1 := Lib.hid hBf
    have HG := Lib.hid (show clG (qs.map Row.xs) n = [] by unfold clG; rw [if_neg]; exact fun h => hB h.1)
    clear hB hBf
    go_enter Try.func77, Try.ntmps77
    go_wp2_with fail
    generalize (w.alloc (Obj.cells #[] 22)) = w0 at hown0 hlit hb0 HZ0 ⊢
    (with_reducible refine (basis_sb A c qs w0 false (h.next hb0) H1.out).mono ?_)
    rintro e w1 ⟨rfl, hb1⟩
    go_wp2_with fail
    go_ret
    rw [HG.out]
    exact ⟨_, _, [], rfl, rfl, (hlit.below hb1).wider (Nat.le_refl _) hb1.size, hb0.trans (hb1.mono hb0.size)⟩
end Go.Proofs.Ythkggnmfdlggbaa
