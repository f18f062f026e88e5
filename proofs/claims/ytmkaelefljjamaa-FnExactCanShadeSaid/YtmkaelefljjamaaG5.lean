/- Occurrences in the program, and in the reference. -/
import Derived.Test.YtmkaelefljjamaaG4
import Derived.Test.YtmkaelefljjamaaS1
namespace Go.Proofs.Ytmkaelefljjamaa
set_option maxRecDepth 100000
open Go Go.RowKit

theorem atL_take (p l : List Int) (k : Nat) (h : k < l.length) (c : Nat) (hc : (c : Int) + 1 = l[k]) (hp : c < p.length) : atL p (l.take (k + 1)) = atL p (l.take k) ++ [p[c]] := by
  unfold atL
  rw [List.take_succ_eq_append_getElem h, List.map_append, ← hc]
  simp only [List.map_cons, List.map_nil, Int.add_sub_cancel, Int.toNat_natCast]
  rw [List.getElem?_eq_getElem hp]; rfl
set_option maxHeartbeats 2000000 in
theorem isOcc_impl (A B D : Option Addr) (c d f : Nat) (p q l : List Int) (w : World) (hp : In w A c p) (hq : In w B d q) (hl : In w D f l) (hl8 : l.length ≤ 8) (hm : ∀ x ∈ l, 1 ≤ x ∧ x ≤ p.length) :
    Calls Try.prog 98 #[.slice A p.length c, .slice B q.length d, .slice D l.length f] w (Rb w (.bool (decide (patL (atL p l) = q)))) := by
  obtain ⟨i0, hi, hz0, hz1, hz2⟩ := info_parts infoI
  have hlp := hp.len
  have hlq := hq.len
  go_enter Try.func98, Try.ntmps98
  go_wp2_with fail
  have hown0 : (w.alloc (.cells #[] 3)).ownsRow w.heap.size 3 1 (.slice (some ⟨w.heap.size, 0, none⟩) 0 0) 0 ((atL p (l.take 0)).map (Value.int .i64)) := World.ownsRow_lit w #[] 0 (Nat.le_refl _) (by unfold maxLen; omega) rfl
  have hb0 := (Below.refl w.heap.size w).alloc (Nat.le_refl _) (.cells #[] 3)
  go_loopw [7, 13] (fun v i wr => ∃ (k : Nat) (A1 : Option Addr) (c1 : Nat), k ≤ l.length ∧ i = .int .i64 k ∧ v = .slice A1 k c1 ∧ wr.ownsRow w.heap.size 3 1 (.slice A1 k c1) k ((atL p (l.take k)).map (Value.int .i64)) ∧ Below w.heap.size w wr) (fun _ i _ => l.length - (intOf i).toNat)
  case atStart => exact ⟨0, _, _, Nat.zero_le _, rfl, rfl, hown0, hb0⟩
  case round =>
    clear hown0 hb0
    obtain ⟨k, A1, c1, hk, rfl, rfl, hown, hb⟩ := hrel
    have hsz := hb.size
    rcases Nat.lt_or_ge k l.length with hlt | hge
    · obtain ⟨bl, ol, rfl, _, hcl⟩ := (hl.next hb).rd (by omega)
      have hxl := hm l[k] (List.getElem_mem hlt)
      obtain ⟨ck, hck⟩ : ∃ ck : Nat, (ck : Int) + 1 = l[k] := ⟨(l[k] - 1).toNat, by omega⟩
      have hckp : ck < p.length := by omega
      obtain ⟨bp, op, rfl, _, hcp⟩ := (hp.next hb).rd (by omega)
      have g1 := hcl k hlt
      have g2 := hcp ck hckp
      rw [← hck] at g1
      have HS := Lib.hid (atL_take p l k hlt ck hck hckp)
      have e1 : IntKind.i64.wrap ((ck : Int) + 1 - 1) = (ck : Int) := by rw [Int.add_sub_cancel]; exact IntWalk.i64_in _ (by omega)
      clear hcl hcp hxl hck
      go_wp2_with (at_builtin; refine wpList_append_own _ rfl _ _ 22 rfl (w.heap.size) 3 i0 (.int .i64 0) 1 8 Try.underlying22 hi hz0 hz1 hz2 rfl (by decide) _ _ _ rfl (World.ownsRow.alloc hown _) ⟨wr.heap.size, 0, none⟩ 1 1 [.int .i64 (p[ck])] rfl rfl (cell_one_new _ _ _) (by intro u hu; simp at hu; subst hu; rfl) (by unfold maxLen; omega) (by omega) (by simp; omega) ?_; intro v1 w1 hown1 hgrow1 _)
      have hS2 : w1.ownsRow w.heap.size 3 1 v1 (k + 1) ((atL p (l.take (k + 1))).map (Value.int .i64)) := by rw [HS.out]; simpa using hown1
      have hb1 := (hb.alloc hsz (Obj.cells #[Value.int .i64 p[ck]] 3)).grown hgrow1 (by simp; omega) (by intro g hg; exact ((hown.lt g hg).1))
      obtain ⟨A2, c2, rfl, _, _⟩ := own_shape hS2
      have H1 := Lib.hid hS2
      have H2 := Lib.hid hb1
      clear hS2 hown1 hgrow1 hb1 hown hb
      go_wp2
      go_roundw
      case rel => exact ⟨k + 1, A2, c2, by omega, by go_num, rfl, H1.out, H2.out⟩
      case measure => simp [intOf]; omega
    · obtain rfl : k = l.length := by omega
      rw [List.take_length] at hown
      have HL := Lib.hid (atL_length p l)
      have hr1 : Rd (Value.int .i64) wr wr.heap.size A1 (atL p l) := Rd.of_own (by rw [HL.out]; exact hown)
      go_wp2_with fail
      (with_reducible refine (pattern_impl A1 c1 l.length (atL p l) wr HL.out (by omega) hr1).mono ?_)
      rintro e w2 ⟨A2, c2, rfl, _, _, o2, hb2⟩
      have hq2 := ((hq.next hb).next hb2).rd
      have hr2 := Rd.of_own o2
      have hplen : (patL (atL p l)).length ≤ 4611686018427387904 := by rw [patL_length, atL_length]; omega
      go_wp2_with fail
      (with_reducible refine (equal_b A2 B c2 d (patL (atL p l)).length q.length (patL (atL p l)) q w2 _ rfl rfl hplen hr2 hq2 rfl).mono ?_)
      rintro e w3 ⟨rfl, hd3⟩
      go_wp2_with fail
      go_ret
      exact ⟨rfl, below_dr (hb.trans (hb2.mono hsz)) hd3⟩
/-- The first k rows that are kept. -/
def keptR (H : List Int → Bool) (rs : List Row) (k : Nat) : List Row := (rs.take k).filter fun r => H r.xs
theorem keptR_succ (H : List Int → Bool) (rs : List Row) (k : Nat) (h : k < rs.length) : keptR H rs (k + 1) = if H rs[k].xs = true then keptR H rs k ++ [rs[k]] else keptR H rs k := by
  unfold keptR
  rw [List.take_succ_eq_append_getElem h, List.filter_append]
  by_cases hh : H rs[k].xs = true <;> simp [hh]
theorem keptR_le (H : List Int → Bool) (rs : List Row) (k : Nat) : (keptR H rs k).length ≤ rs.length := by
  unfold keptR
  have h1 := List.length_filter_le (fun r : Row => H r.xs) (rs.take k)
  have h2 : (rs.take k).length ≤ rs.length := by simp; omega
  omega
theorem keptR_sub (H : List Int → Bool) (rs : List Row) : (keptR H rs rs.length).Sublist rs := by unfold keptR; rw [List.take_length]; exact List.filter_sublist
theorem keptR_all (H : List Int → Bool) (rs : List Row) : (keptR H rs rs.length).map Row.xs = (rs.map Row.xs).filter H := by unfold keptR; rw [List.take_length, List.filter_map]; rfl

set_option maxHeartbeats 4000000 in
theorem occurrences_impl (A B : Option Addr) (c d : Nat) (p q : List Int) (w : World) (hp : In w A c p) (hq : In w B d q) (hp8 : p.length ≤ 8) (hq8 : q.length ≤ 8) :
    Calls Try.prog 59 #[.slice A p.length c, .slice B q.length d] w (RetL w (occI p q)) := by
  obtain ⟨j0, hj, hy0, hy1, hy2⟩ := info_parts infoL
  have hown0 : (w.alloc (.cells #[] 22)).ownsRow w.heap.size 22 1 (.slice (some ⟨w.heap.size, 0, none⟩) 0 0) 0 [] := World.ownsRow_lit w #[] 0 (Nat.le_refl _) (by unfold maxLen; omega) rfl
  have hb0 := (Below.refl w.heap.size w).alloc (Nat.le_refl _) (.cells #[] 22)
  go_enter Try.func59, Try.ntmps59
  go_wp2_with fail
  (with_reducible refine (places_impl p.length q.length (w.alloc (.cells #[] 22)) hp8 hq8).mono ?_)
  rintro e w1 ⟨A1, c1, rs, rfl, hX, hO, hb1⟩
  have hst : Sift w1 w.heap.size (w.alloc (.cells #[] 22)).heap.size w1.heap.size rs ⟨A1, c1, rs.map Row.v⟩ (some ⟨w.heap.size, 0, none⟩) 0 [] := Sift.start hO hown0 hb1 (Nat.le_refl _)
  have hbw1 := hb0.trans (hb1.mono hb0.size)
  have hlen : rs.length ≤ 16777216 := by
    have h1 := congrArg List.length hX
    have h2 := ascI_le p.length q.length
    have h3 := pow_eight hp8 hq8
    rw [List.length_map] at h1
    omega
  have HX := Lib.hid hX
  have hsz01 : w.heap.size + 1 ≤ w1.heap.size := by have := hb1.size; simp at this; omega
  have hsz0 : (w.alloc (Obj.cells #[] 22)).heap.size = w.heap.size + 1 := by simp
  rw [hsz0] at hst
  clear hX hO hb1 hown0 hb0 hsz0
  go_wp2_with fail
  go_loopw [5, 15] (fun v i wr => ∃ (k : Nat) (A2 : Option Addr) (c2 : Nat) (vs : List Value), k ≤ rs.length ∧ i = .int .i64 k ∧ v = .slice A2 vs.length c2 ∧ Hid (vs = (keptR (fun l => decide (patL (atL p l) = q)) rs k).map Row.v) ∧
    Sift wr w.heap.size (w.heap.size + 1) w1.heap.size rs ⟨A1, c1, rs.map Row.v⟩ A2 c2 vs ∧ Below w.heap.size w wr ∧ w1.heap.size ≤ wr.heap.size) (fun _ i _ => rs.length - (intOf i).toNat)
  case atStart => exact ⟨0, _, _, [], Nat.zero_le _, rfl, rfl, Lib.hid rfl, hst, hbw1, Nat.le_refl _⟩
  case round =>
    clear hst hbw1
    obtain ⟨k, A2, c2, vs, hk, rfl, rfl, HV, hS, hb, hsz⟩ := hrel
    have hvl : vs.length ≤ 16777216 := by
      have h1 := keptR_le (fun l => decide (patL (atL p l) = q)) rs k
      have h2 := congrArg List.length HV.out
      rw [List.length_map] at h2
      omega
    rcases Nat.lt_or_ge k rs.length with hlt | hge
    · have hRd := hS.rows.read
      obtain ⟨b, off, rfl, _, hc⟩ := hRd.at (by omega)
      have cc := hc k hlt
      have hmem : rs[k].xs ∈ ascI p.length q.length := by rw [← HX.out]; exact List.mem_map.2 ⟨rs[k], List.getElem_mem hlt, rfl⟩
      have hml := (ascI_mem hmem).1
      have hma := (ascI_mem hmem).2
      have hin := row_in hRd (List.getElem_mem hlt) (by omega) hsz
      have hmm : ∀ x ∈ rs[k].xs, 1 ≤ x ∧ x ≤ p.length := fun x hx => by have := hma.1 x hx; omega
      have HK := Lib.hid (keptR_succ (fun l => decide (patL (atL p l) = q)) rs k hlt)
      have hl8 : rs[k].xs.length ≤ 8 := by omega
      clear hc hmem hml hma
      go_wp2_with fail
      (with_reducible refine (isOcc_impl A B rs[k].A c d rs[k].c p q rs[k].xs wr (hp.next hb) (hq.next hb) hin hl8 hmm).mono ?_)
      rintro e w2 ⟨rfl, hb2⟩
      have hS2 := hS.below hb2
      have hbw := hb.trans (hb2.mono hb.size)
      have hsz2 : w1.heap.size ≤ w2.heap.size := by have := hb2.size; omega
      by_cases hH : decide (patL (atL p rs[k].xs) = q) = true
      · have HT := Lib.hid (show keptR (fun l => decide (patL (atL p l) = q)) rs (k + 1) = keptR (fun l => decide (patL (atL p l) = q)) rs k ++ [rs[k]] by rw [HK.out, if_pos hH])
        have ho2 := hS2.outN (n := vs.length) rfl
        have hol := hS2.olim (n := vs.length) rfl
        rw [hH]
        clear hH hS hRd
        go_wp2_with (at_builtin; refine wpList_append_own_at _ rfl _ _ 33 rfl (w.heap.size) 22 j0 (.slice none 0 0) 1 24 Try.underlying33 hj hy0 hy1 hy2 rfl (by decide) _ _ _ rfl (World.ownsRow.alloc ho2 _) ⟨w2.heap.size, 0, none⟩ 1 1 [Value.slice rs[k].A rs[k].xs.length rs[k].c] rfl rfl (cell_one_at _ _ (by simp)) (by intro u hu; simp at hu; subst hu; rfl) (by unfold maxLen; omega) (by omega) (by simp; omega) ?_; intro v9 w9 hown9 hgrow9 _ hat9)
        obtain ⟨A5, c5, rfl, hS3, hg3⟩ := hS2.grow hsz2 rfl hown9 hgrow9 hat9
        have hb3 := hbw.grown hg3 hbw.size hol
        have K := Lib.hid (And.intro hS3 hb3)
        have hsz3 : w1.heap.size ≤ w9.heap.size := by have := hg3.size; omega
        clear hS3 hb3 hown9 hgrow9 hat9 hg3 hS2 ho2 hol hbw
        go_wp2
        go_roundw
        case rel => exact ⟨k + 1, A5, c5, vs ++ [Value.slice rs[k].A rs[k].xs.length rs[k].c], by omega, by go_num, by rw [List.length_append]; rfl, Lib.hid (by rw [HT.out, List.map_append, HV.out]; rfl), K.out.1, K.out.2, hsz3⟩
        case measure => simp [intOf]; omega
      · have hHf : decide (patL (atL p rs[k].xs) = q) = false := by simpa using hH
        have HT := Lib.hid (show keptR (fun l => decide (patL (atL p l) = q)) rs (k + 1) = keptR (fun l => decide (patL (atL p l) = q)) rs k by rw [HK.out, if_neg hH])
        rw [hHf]
        clear hH hHf hS hRd
        go_wp2
        go_roundw
        case rel => exact ⟨k + 1, A2, c2, vs, by omega, by go_num, rfl, Lib.hid (by rw [HT.out, HV.out]), hS2, hbw, hsz2⟩
        case measure => simp [intOf]; omega
    · obtain rfl : k = rs.length := by omega
      have hfin := hS.done HV.out (keptR_sub _ _) (Nat.le_succ _) hsz
      have HLE := Lib.hid (show vs.length = (keptR (fun l => decide (patL (atL p l) = q)) rs rs.length).length by rw [HV.out, List.length_map])
      go_wp2
      go_ret
      exact ⟨A2, c2, keptR (fun l => decide (patL (atL p l) = q)) rs rs.length, by rw [HLE.out]; rfl, by rw [keptR_all, HX.out]; rfl, hfin, hb⟩

set_option maxHeartbeats 1000000 in
theorem occurrencesOf_spec (A B : Option Addr) (c d : Nat) (p q : List Int) (w : World) (hp : In w A c p) (hq : In w B d q) (hP : permB p = true) (hQ : permB q = true) :
    Calls Try.prog 54 #[.slice A p.length c, .slice B q.length d] w (RetL w (occL p q)) := by
  have hp8 := (permB_true hP).1
  have hq8 := (permB_true hQ).1
  have H1 := Lib.hid hP
  have H2 := Lib.hid hQ
  clear hP hQ
  go_enter Try.func54, Try.ntmps54
  go_wp2_with fail
  (with_reducible refine (isPerm_sb A c p w true hp H1.out).mono ?_)
  rintro e w1 ⟨rfl, hd1⟩
  go_wp2_with fail
  (with_reducible refine (isPerm_sb B d q w1 true (hq.dr hd1) H2.out).mono ?_)
  rintro e w2 ⟨rfl, hd2⟩
  have hd := hd1.trans hd2
  have hb := below_dr (Below.refl w.heap.size w) hd
  have hs : w2.heap.size = w.heap.size := by rw [hd.heap]
  have FR := find_root A B c d p q w2 (hp.dr hd) (hq.dr hd) hp8 hq8
  have FRH := Lib.hid FR
  have HS := Lib.hid hs
  clear FR hs
  go_wp2_with fail
  (with_reducible refine FRH.out.mono ?_)
  rintro e w3 ⟨A3, c3, rs, rfl, hX, hO, hb3⟩
  have HX := Lib.hid hX
  clear hX FRH
  go_wp2_with fail
  go_ret
  have hle : w.heap.size ≤ w2.heap.size := by have := HS.out; omega
  exact ⟨A3, c3, rs, rfl, HX.out, hO.wider hle (Nat.le_refl _), hb.trans (hb3.mono hle)⟩
end Go.Proofs.Ytmkaelefljjamaa
