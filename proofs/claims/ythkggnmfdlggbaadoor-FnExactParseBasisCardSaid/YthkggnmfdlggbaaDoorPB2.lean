/- ParseBasis, program and reference. -/
import Derived.Test.YthkggnmfdlggbaaDoorPB1
import Derived.Test.YthkggnmfdlggbaaDoorG2
import Derived.Test.YthkggnmfdlggbaaDoorShelf
namespace Go.Proofs.YthkggnmfdlggbaaDoor
set_option maxRecDepth 100000
open Go Go.RowKit

/-- A list of rows that is read; its rows may be a little more than an argument's. -/
structure InB (w : World) (A : Option Addr) (c : Nat) (rs : List Row) : Prop where
  len : rs.length + sizeR rs ≤ 2097152
  rl : ∀ r ∈ rs, r.xs.length ≤ 1048576
  read : Read w w.heap.size rs [⟨A, c, rs.map Row.v⟩]
theorem InB.next {w w' : World} {A : Option Addr} {c : Nat} {rs : List Row} (h : InB w A c rs) (hb : Below w.heap.size w w') : InB w' A c rs := ⟨h.len, h.rl, (h.read.below hb).more hb.size⟩
theorem InB.dr {w w' : World} {A : Option Addr} {c : Nat} {rs : List Row} (h : InB w A c rs) (hd : Dr w w') : InB w' A c rs := ⟨h.len, h.rl, (h.read.dr hd).more (by rw [hd.heap]; exact Nat.le_refl _)⟩
theorem InB.row {w : World} {A : Option Addr} {c : Nat} {rs : List Row} (h : InB w A c rs) {r : Row} (hr : r ∈ rs) : In w r.A r.c r.xs := ⟨h.rl r hr, h.read.cap r hr, h.read.rd r hr⟩
set_option maxHeartbeats 4000000 in
theorem basis_specB (A : Option Addr) (c : Nat) (rs : List Row) (w : World) (h : InB w A c rs) :
    Calls Tryd.prog 11 #[.slice A rs.length c] w (Rb w (.bool (basisB (rs.map Row.xs)))) := by
  have hlen := h.len
  have hcap := h.read.ocap _ (List.mem_singleton.2 rfl)
  simp only [List.length_map] at hcap
  have HB := Lib.hid (show basisB (rs.map Row.xs) = (decide (rs.length ≤ 8) && basTo (rs.map Row.xs) rs.length) by unfold basisB; rw [List.length_map])
  go_enter Tryd.func11, Tryd.ntmps11
  go_wp2_with fail
  go_loopw [3] (fun i wr => ∃ k : Nat, k ≤ rs.length ∧ i = .int .i64 k ∧ Hid (basTo (rs.map Row.xs) k = true) ∧ Below w.heap.size w wr) (fun i _ => rs.length - (intOf i).toNat)
  case atStart => exact ⟨0, Nat.zero_le _, rfl, Lib.hid rfl, Below.refl _ _⟩
  case round =>
    obtain ⟨k, hk, rfl, HA, hb⟩ := hrel
    by_cases hlt : k < rs.length
    · have hL := h.next hb
      obtain ⟨b, off, rfl, _, hc⟩ := hL.read.at (by omega)
      have c1 := hc k hlt
      have HK := Lib.hid (basAt_row hlt)
      have HS := Lib.hid (basTo_succ (rs.map Row.xs) k)
      have hin := hL.row (List.getElem_mem hlt)
      have i0 : (0 : Int) ≤ (k : Int) := Int.natCast_nonneg _
      have i1 : (k : Int) < (rs.length : Int) := by omega
      by_cases hp : permB rs[k].xs = true
      · have HP := Lib.hid hp
        have hp8 := (permB_true hp).1
        clear hp
        by_cases h0 : rs[k].xs.length = 0
        · have HF := Lib.hid (show basTo (rs.map Row.xs) rs.length = false from basTo_false hlt (by rw [HK.out, h0]; simp))
          have d0 : ((rs[k].xs.length : Int) == 0) = true := by simp; exact List.eq_nil_of_length_eq_zero h0
          clear h0 hc
          go_wp2_with fail
          go_quiet ((go_at_call 18; exact quiet_rq (isPerm_sb rs[k].A rs[k].c rs[k].xs _ true (hin.dr (Dr.of _ _)) HP.out)))
          go_wp2_with fail
          go_ret
          exact ⟨ret_bool (by rw [HB.out, HF.out, Bool.and_false]), below_dr hb (by first | with_reducible exact Dr.of _ _ | with_reducible exact Dr.of2 _ _ _ | with_reducible exact Dr.refl _ | with_reducible exact Dr.of3 _ _ _)⟩
        · have d0 : ((rs[k].xs.length : Int) == 0) = false := by simp; intro e; rw [e] at h0; simp at h0
          have HL0 := Lib.hid (show decide (rs[k].xs.length ≠ 0) = true from decide_eq_true h0)
          clear h0
          by_cases hg : k = 0 ∨ cmpP ((rs.map Row.xs)[k - 1]?.getD []) rs[k].xs < 0
          · have HG := Lib.hid (show (decide (k = 0) || decide (cmpP ((rs.map Row.xs)[k - 1]?.getD []) rs[k].xs < 0)) = true by
              rcases hg with hg | hg
              · rw [decide_eq_true hg]; rfl
              · rw [decide_eq_true hg, Bool.or_true])
            obtain ⟨wo, rfl⟩ : ∃ wo : World, wo = wr := ⟨_, rfl⟩
            rcases Nat.eq_zero_or_pos k with hk0 | hk0
            case' inl =>
              have d1 : decide ((k : Int) > 0) = false := decide_eq_false (by omega)
              have d3 : decide (0 < k) = false := decide_eq_false (by omega)
              have d2 : k ≤ 0 := by omega
              clear hg hc hk0
              go_wp2_with fail
              go_quiet ((go_at_call 18; exact quiet_rq (isPerm_sb rs[k].A rs[k].c rs[k].xs _ true (hin.dr (Dr.of _ _)) HP.out)))
              go_wp2_with fail
              clear d1 d2 d3
            case' inr =>
              have d1 : decide ((k : Int) > 0) = true := decide_eq_true (by omega)
              have d2 : decide (0 < k) = true := decide_eq_true (by omega)
              have hpl : k - 1 < rs.length := by omega
              have c2 := hc (k - 1) hpl
              have hinp := hL.row (List.getElem_mem hpl)
              have e0 : 1 ≤ (k : Int) := by omega
              have e2 : 0 ≤ (k : Int) - 1 := by omega
              have e3 : (k : Int) - 1 < rs.length := by omega
              have e1 : ((k : Int) - 1).toNat = k - 1 := by omega
              have e4 : IntKind.i64.wrap ((k : Int) - 1) = (k : Int) - 1 := IntWalk.i64_in _ (by omega)
              have hq1 : rs[k - 1].xs.length ≤ 4611686018427387904 := by have := hinp.len; omega
              have hq2 : rs[k].xs.length ≤ 4611686018427387904 := by omega
              have hr1 := hinp.rd
              have hr2 := hin.rd
              have HCM := Lib.hid (show before rs[k - 1].xs rs[k].xs = true by
                rw [getX hpl] at hg
                rw [before_cmp, decide_eq_true_eq]
                rcases hg with hg | hg
                · omega
                · exact hg)
              clear hg hc hk0 hinp
              go_wp2_with fail
              go_quiet ((first | (go_at_call 18; exact quiet_rq (isPerm_sb rs[k].A rs[k].c rs[k].xs _ true (hin.dr (Dr.of _ _)) HP.out)) | (go_at_call 19; exact quiet_rq (l2Before_b _ _ _ _ _ _ rs[k - 1].xs rs[k].xs _ true rfl rfl hq1 hq2 (hr1.drewN _) (hr2.drewN _) HCM.out))))
              go_wp2_with fail
              clear d1 d2 e0 e1 e2 e3 e4 hq1 hq2 hr1 hr2 c2
            all_goals
              go_loopw [4] (fun i wr => ∃ j : Nat, j ≤ k ∧ i = .int .i64 j ∧ Hid (nohasTo (rs.map Row.xs) rs[k].xs j = true) ∧ Below w.heap.size w wr) (fun i _ => k - (intOf i).toNat)
              case atStart => exact ⟨0, Nat.zero_le _, rfl, Lib.hid rfl, below_dr hb (by first | with_reducible exact Dr.of _ _ | with_reducible exact Dr.of2 _ _ _ | with_reducible exact Dr.refl _ | with_reducible exact Dr.of3 _ _ _)⟩
              case round =>
                obtain ⟨j, hj, rfl, HN, hbz⟩ := hrel
                by_cases hjk : j < k
                · have hL4 := h.next hbz
                  have hjl : j < rs.length := by omega
                  obtain ⟨b', off', he, _, hc⟩ := hL4.read.at (by omega)
                  injection he with he
                  injection he with he1 he2 _
                  subst he1 he2
                  have c3 : wr.drew.cell? ⟨b, off + j, none⟩ = some (Value.slice rs[j].A rs[j].xs.length rs[j].c) := hc j hjl
                  have c4 : wr.drew.cell? ⟨b, off + k, none⟩ = some (Value.slice rs[k].A rs[k].xs.length rs[k].c) := hc k hlt
                  have c5 := hc j hjl
                  have c6 := hc k hlt
                  have hinj := (hL4.dr (Dr.refl _).drew).row (List.getElem_mem hjl)
                  have hink := (hL4.dr (Dr.refl _).drew).row (List.getElem_mem hlt)
                  have i2 : (0 : Int) ≤ (j : Int) := Int.natCast_nonneg _
                  have i3 : (j : Int) < (rs.length : Int) := by omega
                  have hpj : permB rs[j].xs = true := by
                    have := basTo_perm HA.out hjk (by rw [List.length_map]; omega)
                    simpa using this
                  have hpj8 := (permB_true hpj).1
                  have HNS := Lib.hid (nohasTo_succ (rs.map Row.xs) rs[k].xs j)
                  have hbd : Below w.heap.size w wr.drew := below_dr hbz (Dr.refl _).drew
                  clear hpj hc
                  by_cases hh : hasB rs[k].xs rs[j].xs = true
                  · have HH := Lib.hid hh
                    have HF := Lib.hid (show basTo (rs.map Row.xs) rs.length = false from basTo_false hlt (by
                      have hnf : nohasTo (rs.map Row.xs) rs[k].xs k = false := nohasTo_false hjk (by rw [getX hjl]; exact hh)
                      rw [HK.out, hnf, Bool.and_false]))
                    clear hh
                    go_wp2_with fail
                    all_goals
                      go_still_tail 8, (by kernel_rfl)
                      go_wp2_with fail
                      (with_reducible refine (l7Has_b rs[k].A rs[j].A rs[k].c rs[j].c rs[k].xs rs[j].xs _ true hink hinj (by omega) (by omega) HH.out).mono ?_)
                      rintro e w4 ⟨rfl, hb5⟩
                      go_wp2_with fail
                      go_ret
                      exact ⟨ret_bool (by rw [HB.out, HF.out, Bool.and_false]), hbd.trans (hb5.mono hbd.size)⟩
                  · have hhf : hasB rs[k].xs rs[j].xs = false := by simpa using hh
                    have HH := Lib.hid hhf
                    have HE := Lib.hid (show nohasTo (rs.map Row.xs) rs[k].xs (j + 1) = true by rw [HNS.out, HN.out, getX hjl, hhf]; rfl)
                    clear hh hhf
                    go_wp2_with fail
                    all_goals
                      go_still_tail 8, (by kernel_rfl)
                      go_wp2_with fail
                      (with_reducible refine (l7Has_b rs[k].A rs[j].A rs[k].c rs[j].c rs[k].xs rs[j].xs _ false hink hinj (by omega) (by omega) HH.out).mono ?_)
                      rintro e w4 ⟨rfl, hb5⟩
                      go_wp2_with fail
                      go_roundw
                      case rel => exact ⟨j + 1, by omega, by go_num, HE, hbd.trans (hb5.mono hbd.size)⟩
                      case measure => (simp [intOf]) <;> omega
                · obtain rfl : j = k := by omega
                  have HE := Lib.hid (show basTo (rs.map Row.xs) (j + 1) = true by rw [HS.out, HA.out, HK.out, HP.out, HL0.out, HG.out, HN.out]; rfl)
                  go_wp2_with fail
                  go_roundw
                  case rel => exact ⟨j + 1, by omega, by go_num, HE, hbz⟩
                  case measure => (simp [intOf]) <;> omega
          · have hk0 : 0 < k := by
              rcases Nat.eq_zero_or_pos k with h1 | h1
              · exact absurd (Or.inl h1) hg
              · exact h1
            have d1 : decide ((k : Int) > 0) = true := decide_eq_true (by omega)
            have d2 : decide (0 < k) = true := decide_eq_true (by omega)
            have hpl : k - 1 < rs.length := by omega
            have c2 := hc (k - 1) hpl
            have hinp := hL.row (List.getElem_mem hpl)
            have e0 : 1 ≤ (k : Int) := by omega
            have e2 : 0 ≤ (k : Int) - 1 := by omega
            have e3 : (k : Int) - 1 < rs.length := by omega
            have e1 : ((k : Int) - 1).toNat = k - 1 := by omega
            have e4 : IntKind.i64.wrap ((k : Int) - 1) = (k : Int) - 1 := IntWalk.i64_in _ (by omega)
            have hq1 : rs[k - 1].xs.length ≤ 4611686018427387904 := by have := hinp.len; omega
            have hq2 : rs[k].xs.length ≤ 4611686018427387904 := by omega
            have hr1 := hinp.rd
            have hr2 := hin.rd
            have HCM := Lib.hid (show before rs[k - 1].xs rs[k].xs = false by
              rw [getX hpl] at hg
              rw [before_cmp, decide_eq_false_iff_not]
              exact fun h => hg (Or.inr h))
            have HF := Lib.hid (show basTo (rs.map Row.xs) rs.length = false from basTo_false hlt (by
              have hgf : (decide (k = 0) || decide (cmpP ((rs.map Row.xs)[k - 1]?.getD []) rs[k].xs < 0)) = false := by
                rw [Bool.or_eq_false_iff, decide_eq_false_iff_not, decide_eq_false_iff_not]
                exact ⟨fun h => hg (Or.inl h), fun h => hg (Or.inr h)⟩
              rw [HK.out, hgf, Bool.and_false, Bool.false_and]))
            clear hg hc hk0 hinp
            go_wp2_with fail
            go_quiet ((first | (go_at_call 18; exact quiet_rq (isPerm_sb rs[k].A rs[k].c rs[k].xs _ true (hin.dr (Dr.of _ _)) HP.out)) | (go_at_call 19; exact quiet_rq (l2Before_b _ _ _ _ _ _ rs[k - 1].xs rs[k].xs _ false rfl rfl hq1 hq2 (hr1.drewN _) (hr2.drewN _) HCM.out))))
            go_wp2_with fail
            go_ret
            exact ⟨ret_bool (by rw [HB.out, HF.out, Bool.and_false]), below_dr hb (by first | with_reducible exact Dr.of _ _ | with_reducible exact Dr.of2 _ _ _ | with_reducible exact Dr.refl _ | with_reducible exact Dr.of3 _ _ _)⟩
      · have hpf : permB rs[k].xs = false := by simpa using hp
        have HF := Lib.hid (show basTo (rs.map Row.xs) rs.length = false from basTo_false hlt (by rw [HK.out, hpf]; simp))
        have HP := Lib.hid hpf
        clear hp hpf hc
        go_wp2_with fail
        go_quiet ((go_at_call 18; exact quiet_rq (isPerm_sb rs[k].A rs[k].c rs[k].xs _ false (hin.dr (Dr.of _ _)) HP.out)))
        go_wp2_with fail
        go_ret
        exact ⟨ret_bool (by rw [HB.out, HF.out, Bool.and_false]), below_dr hb (by first | with_reducible exact Dr.of _ _ | with_reducible exact Dr.of2 _ _ _ | with_reducible exact Dr.refl _ | with_reducible exact Dr.of3 _ _ _)⟩
    · obtain rfl : k = rs.length := by omega
      go_wp2_with fail
      go_ret
      exact ⟨ret_bool (by rw [HB.out, HA.out, Bool.and_true, decide_eq_decide]; omega), hb⟩
/-- A call's result of two: a list of rows of its own, and a truth value. -/
def RetPb (w : World) (X : List (List Int)) (b : Bool) (e : Ending) (w' : World) : Prop :=
  ∃ A c rs, e = .returned (.tuple #[.slice A rs.length c, .bool b]) ∧ rs.map Row.xs = X ∧ Own w' w.heap.size w'.heap.size rs [⟨A, c, rs.map Row.v⟩] ∧ Below w.heap.size w w'
theorem own_types {w : World} {b1 e1 n1 b2 e2 n2 : Nat} {v1 v2 : Value} {x1 x2 : List Value} (h1 : w.ownsRow b1 e1 1 v1 n1 x1) (h2 : w.ownsRow b2 e2 1 v2 n2 x2) (he : e1 ≠ e2) : v1.ownBlock = none ∨ v1.ownBlock ≠ v2.ownBlock := by
  rcases h1.2 with ⟨rfl, _⟩ | ⟨g, _, cur, rfl, _, hg, _⟩
  · exact .inl rfl
  · right
    rcases h2.2 with ⟨rfl, _⟩ | ⟨g2, _, cur2, rfl, _, hg2, _⟩
    · intro h; cases h
    · intro h
      injection h with h
      have h : g = g2 := h
      subst h
      rw [hg] at hg2
      injection hg2 with hg2
      injection hg2 with _ h3
      exact he h3
def pbW (s : ByteArray) : List (List UInt8) := splitL 32 s.data.toList
def pbOk (s : ByteArray) : Bool := decide (s.size = 0) || ((pbW s).all ppB && basisB ((pbW s).map ppG))
def pbG (s : ByteArray) : List (List Int) := if s.size = 0 then [] else if pbOk s = true then (pbW s).map ppG else []
theorem pb_total (s : ByteArray) : (pbW s).length + ((pbW s).map List.length).sum = s.size + 1 := by
  have h := spF_len 32 s.data.toList
  have hl : s.data.toList.length = s.size := by show s.data.toList.length = s.data.size; simp
  unfold pbW
  rw [← sp_all, List.length_append, List.map_append, List.sum_append]
  simp only [List.length_singleton, List.map_cons, List.map_nil, List.sum_cons, List.sum_nil]
  omega
theorem ppG_len (l : List UInt8) : (ppG l).length ≤ l.length ∧ (ppG l).length ≤ 8 := by
  unfold ppG
  split
  · rename_i h
    split
    · simp
    · rename_i h2
      unfold ppB at h
      rw [decide_eq_false h2, Bool.false_or, Bool.and_eq_true] at h
      have h8 := (permB_true h.2).1
      rw [ppL_len] at *
      omega
  · simp
theorem pb_sum (W : List (List UInt8)) : sizeX (W.map ppG) ≤ (W.map List.length).sum := by
  induction W with
  | nil => simp [sizeX]
  | cons a t ih =>
    have h1 := (ppG_len a).1
    simp only [sizeX, List.map_cons, List.sum_cons, List.map_map] at ih ⊢
    omega
theorem pbG_le (s : ByteArray) : (pbG s).length + sizeX (pbG s) ≤ 1048576 := by
  unfold pbG
  split
  · simp [sizeX]
  · split
    · rename_i h0 h
      unfold pbOk at h
      rw [decide_eq_false h0, Bool.false_or, Bool.and_eq_true] at h
      have h1 := basis_len h.2
      have h2 : sizeX ((pbW s).map ppG) ≤ ((pbW s).map ppG).length * 8 := by
        have : ∀ W : List (List UInt8), sizeX (W.map ppG) ≤ (W.map ppG).length * 8 := fun W => by
          induction W with
          | nil => simp [sizeX]
          | cons a t ih =>
            have h1 := (ppG_len a).2
            simp only [sizeX, List.map_cons, List.sum_cons, List.length_cons, Nat.add_mul, Nat.one_mul] at ih ⊢
            omega
        exact this _
      omega
    · simp [sizeX]
theorem mem_sum_le {x : List UInt8} {W : List (List UInt8)} (h : x ∈ W) : x.length ≤ (W.map List.length).sum := by
  induction W with
  | nil => cases h
  | cons a t ih =>
    rw [List.map_cons, List.sum_cons]
    rcases List.mem_cons.1 h with rfl | h
    · omega
    · have := ih h; omega
theorem tv_data (l : List UInt8) : (⟨l.toArray⟩ : ByteArray).data.toList = l := by simp
theorem tv_size (l : List UInt8) : (⟨l.toArray⟩ : ByteArray).size = l.length := by show l.toArray.size = l.length; simp
set_option maxHeartbeats 2000000 in
theorem parseBasis_spec (s : ByteArray) (w : World) (hs : s.size ≤ 1048576) :
    Calls Tryd.prog 4 #[.string s] w (RetPb w (pbG s) (pbOk s)) := by
  obtain ⟨j0, hj, hy0, hy1, hy2⟩ := info_parts infoL
  have hlit := Own.lit (lo := w.heap.size) w (Nat.le_refl _)
  have hb0 := (Below.refl w.heap.size w).alloc (Nat.le_refl _) (.cells #[] 30)
  have hTL : s.toList = s.data.toList := ByteArray.toList_eq s
  have hl : s.data.toList.length = s.size := by show s.data.toList.length = s.data.size; simp
  by_cases h0 : s.size = 0
  · have hn : s.data.toList = [] := List.eq_nil_of_length_eq_zero (by rw [hl]; exact h0)
    have d0 : (s.toList == []) = true := by rw [hTL, hn]; rfl
    have HB := Lib.hid (show pbOk s = true by unfold pbOk; rw [decide_eq_true h0]; rfl)
    have HG := Lib.hid (show pbG s = [] by unfold pbG; rw [if_pos h0])
    clear hTL h0 hn
    go_enter Tryd.func4, Tryd.ntmps4
    go_wp2_with fail
    go_ret2
    rw [HB.out, HG.out]
    exact ⟨_, _, [], rfl, rfl, hlit, hb0⟩
  · have d0 : (s.toList == []) = false := by rw [hTL]; simp; intro e; rw [← hl] at h0; exact h0 (by simp [e])
    have HG0 := Lib.hid (show pbG s = if pbOk s = true then (pbW s).map ppG else [] by unfold pbG; rw [if_neg h0])
    have HB0 := Lib.hid (show pbOk s = ((pbW s).all ppB && basisB ((pbW s).map ppG)) by unfold pbOk; rw [decide_eq_false h0, Bool.false_or])
    have hTOT := pb_total s
    have HTOT := Lib.hid hTOT
    have hwl : (pbW s).length ≤ 1048577 := by omega
    obtain ⟨ws, hws⟩ : ∃ ws, ws = pbW s := ⟨_, rfl⟩
    rw [← hws] at HG0 HB0 hwl HTOT
    have HCS := Lib.hid (show ∀ W : World, Calls Tryd.prog 9 #[.string s, .int .u8 32] W fun e w' => ∃ A k, e = .returned (.slice A ws.length k) ∧ w'.ownsRow W.heap.size 9 1 (.slice A ws.length k) ws.length (ws.map tv) ∧ Below W.heap.size W w' from fun W => by rw [hws]; exact splitByte_any s 32 W hs)
    have HW8 := Lib.hid (show ∀ x ∈ ws, x.length ≤ 1048576 from fun x hx => by
      have h1 : x.length ≤ (ws.map List.length).sum := mem_sum_le hx
      have h2 := HTOT.out
      have h3 : 0 < ws.length := List.length_pos_of_mem hx
      omega)
    clear hTL h0 hTOT hws
    go_enter Tryd.func4, Tryd.ntmps4
    go_wp2_with fail
    (with_reducible refine (HCS.out _).mono ?_)
    rintro e w1 ⟨Ap, cp, rfl, ownP, hb1⟩
    have hbw := hb0.trans (hb1.mono hb0.size)
    have hO1 := (hlit.below hb1).wider (Nat.le_refl _) hb1.size
    obtain ⟨lp, hlp⟩ : ∃ lp, lp = (w.alloc (.cells #[] 30)).heap.size := ⟨_, rfl⟩
    rw [← hlp] at ownP
    clear hlit hb0 hb1 hlp
    go_wp2_with fail
    go_loopw [4, 6] (fun v i wr => ∃ (k : Nat) (A1 : Option Addr) (c1 : Nat) (ds : List Row), k ≤ ws.length ∧ i = .int .i64 k ∧ v = .slice A1 ds.length c1 ∧ Hid (ds.map Row.xs = (ws.take k).map ppG) ∧ Hid ((ws.take k).all ppB = true) ∧ Own wr w.heap.size wr.heap.size ds [⟨A1, c1, ds.map Row.v⟩] ∧ wr.ownsRow lp 9 1 (.slice Ap ws.length cp) ws.length (ws.map tv) ∧ Below w.heap.size w wr) (fun _ i _ => ws.length - (intOf i).toNat)
    case atStart => exact ⟨0, _, _, [], Nat.zero_le _, rfl, rfl, Lib.hid rfl, Lib.hid rfl, hO1, ownP, hbw⟩
    case round =>
      clear hO1 ownP hbw
      obtain ⟨k, A1, c1, ds, hk, rfl, rfl, HX, HA, hO, ownP, hb⟩ := hrel
      have hsz := hb.size
      have hdl : ds.length = k := by have := congrArg List.length HX.out; simp at this; omega
      rcases Nat.lt_or_ge k ws.length with hlt | hge
      · obtain ⟨bp, op, rfl, _, hc⟩ := (Rd.of_own ownP) (by omega)
        have cc := hc k hlt
        obtain ⟨x, hx⟩ : ∃ x, x = ws[k] := ⟨_, rfl⟩
        rw [← hx] at cc
        have hxm : x ∈ ws := by rw [hx]; exact List.getElem_mem hlt
        have HC := Lib.hid (show Calls Tryd.prog 10 #[tv x] wr (Ret2 (Value.int .i64) 3 wr (ppG x) (ppB x)) from by
          have := parsePerm_spec ⟨x.toArray⟩ wr (by rw [tv_size]; exact HW8.out x hxm)
          rw [tv_data] at this
          exact this)
        have HT := Lib.hid (show ws.take (k + 1) = ws.take k ++ [x] by rw [List.take_succ_eq_append_getElem hlt, hx])
        have HD := Lib.hid hdl
        have HXM := Lib.hid hxm
        have hkd : ds.length ≤ 1048577 := by omega
        clear hc hx hxm hdl
        go_wp2_with fail
        (with_reducible refine HC.out.mono ?_)
        rintro e w2 ⟨A3, c3, rfl, _, _, own3, hb2⟩
        have hbw := hb.trans (hb2.mono hsz)
        by_cases hp : ppB x = true
        · have hs2 := hb2.size
          have hO2 := (hO.below hb2).add (r := ⟨A3, c3, ppG x⟩) own3 hs2 hsz
          have ho2 := hO2.outN (n := ds.length) (by simp)
          have ownP2 := own_below ownP hb2
          have HPP := Lib.hid hp
          rw [hp]
          clear own3 hO hb2 hb hp ownP cc
          go_wp2_with (at_builtin; refine wpList_append_own _ rfl _ _ 22 rfl (w.heap.size) 30 j0 (.slice none 0 0) 1 24 Tryd.underlying22 hj hy0 hy1 hy2 rfl (by decide) _ _ _ rfl (World.ownsRow.alloc ho2 _) ⟨w2.heap.size, 0, none⟩ 1 1 [Value.slice A3 (ppG x).length c3] rfl rfl (cell_one_at _ _ (by simp)) (by intro u hu; simp at hu; subst hu; rfl) (by unfold maxLen; omega) (by omega) (by simp; omega) ?_; intro v9 w9 hown9 hgrow9 _)
          obtain ⟨A5, c5, rfl, hO3, hg3⟩ := hO2.grow (Nat.le_refl _) (by simp) hown9 hgrow9
          have hb3 := hbw.grown hg3 hbw.size (fun g hg => (hO2.olim (by simp) g hg).1)
          have ownP3 := ownP2.kept hg3 (own_types ownP2 ho2 (by decide))
          have K := Lib.hid (And.intro hO3 (And.intro ownP3 hb3))
          clear hO3 hb3 hown9 hgrow9 hg3 hO2 ho2 hbw ownP2 ownP3
          go_wp2_with fail
          go_roundw
          case rel => exact ⟨k + 1, A5, c5, ds ++ [⟨A3, c3, ppG x⟩], by omega, by go_num, by rw [List.length_append]; rfl, Lib.hid (by rw [HT.out, List.map_append, List.map_append, HX.out]; rfl), Lib.hid (by rw [HT.out, List.all_append, HA.out]; simp [HPP.out]), by simpa [Row.v] using K.out.1, K.out.2.1, K.out.2.2⟩
          case measure => simp [intOf]; omega
        · have hpf : ppB x = false := by simpa using hp
          have HF := Lib.hid (show pbOk s = false by rw [HB0.out, show ws.all ppB = false from List.all_eq_false.2 ⟨x, HXM.out, by rw [hpf]; simp⟩, Bool.false_and])
          have HG := Lib.hid (show pbG s = [] by rw [HG0.out, HF.out]; rfl)
          have hl2 := Own.lit (lo := w.heap.size) w2 hbw.size
          have hbl := hbw.alloc hbw.size (.cells #[] 30)
          rw [hpf]
          clear hp hpf own3 hb2
          go_wp2_with fail
          go_ret2
          rw [HF.out, HG.out]
          exact ⟨_, _, [], rfl, rfl, hl2, hbl⟩
      · obtain rfl : k = ws.length := by omega
        have HXA := Lib.hid (show ds.map Row.xs = ws.map ppG by rw [HX.out, List.take_length])
        have HAA := Lib.hid (show ws.all ppB = true by have := HA.out; rwa [List.take_length] at this)
        have hin : InB wr A1 c1 ds := ⟨by
          have h1 := pb_sum ws
          have h2 := HTOT.out
          rw [sizeR_eq, HXA.out]
          omega, fun r hr => by
          have h1 := map_memX HXA.out hr
          obtain ⟨q, hq, he⟩ := List.mem_map.1 h1
          rw [← he]
          have := (ppG_len q).2
          omega, hO.read⟩
        obtain ⟨bb, hbb⟩ : ∃ bb, basisB (ds.map Row.xs) = bb := ⟨_, rfl⟩
        have HI := Lib.hid (show Calls Tryd.prog 11 #[.slice A1 ds.length c1] wr (Rb wr (.bool bb)) from by rw [← hbb]; exact basis_specB A1 c1 ds wr hin)
        have HF := Lib.hid (show pbOk s = bb by rw [HB0.out, HAA.out, Bool.true_and, ← HXA.out]; exact hbb)
        clear hin hbb hdl
        go_wp2_with fail
        (with_reducible refine HI.out.mono ?_)
        rintro e w2 ⟨rfl, hb2⟩
        have hbw := hb.trans (hb2.mono hsz)
        cases bb with
        | true =>
          have HG := Lib.hid (show pbG s = ws.map ppG by rw [HG0.out, HF.out]; rfl)
          have hO3 := (hO.below hb2).wider (Nat.le_refl _) hb2.size
          go_wp2_with fail
          go_ret2
          rw [HF.out, HG.out]
          exact ⟨A1, c1, ds, rfl, HXA.out, hO3, hbw⟩
        | false =>
          have HG := Lib.hid (show pbG s = [] by rw [HG0.out, HF.out]; rfl)
          have hl2 := Own.lit (lo := w.heap.size) w2 hbw.size
          have hbl := hbw.alloc hbw.size (.cells #[] 30)
          go_wp2_with fail
          go_ret2
          rw [HF.out, HG.out]
          exact ⟨_, _, [], rfl, rfl, hl2, hbl⟩
theorem sizeP (W : List (List UInt8)) : sizeX (W.map ppG) ≤ (W.map ppG).length * 8 := by
  induction W with
  | nil => simp [sizeX]
  | cons a t ih =>
    have h1 := (ppG_len a).2
    simp only [sizeX, List.map_cons, List.sum_cons, List.length_cons, Nat.add_mul, Nat.one_mul] at ih ⊢
    omega
theorem split_any (s : ByteArray) (m : Int) (w : World) (hs : s.size ≤ 1048576) (hm : w.cell? ⟨0, 0, none⟩ = some (.int .i64 m)) :
    Calls Tryd.prog 12 #[.string s, .string { data := #[32] }] w fun e w' => ∃ A k, e = .returned (.slice A (pbW s).length k) ∧ w'.ownsRow w.heap.size 9 1 (.slice A (pbW s).length k) (pbW s).length ((pbW s).map tv) ∧ Below w.heap.size w w' := by
  have hd := Lib.splitB_data { data := #[32] } 0 (Lib.countB s { data := #[32] }) s
  have hc : Lib.countB s { data := #[32] } = Lib.count s.data.toList [32] := rfl
  have hw : (Lib.splitB { data := #[32] } 0 (Lib.countB s { data := #[32] }) s).map (·.data.toList) = pbW s := by
    rw [hd, hc]
    exact split_lib 32 s.data.toList _ rfl
  have hv : (Lib.splitB { data := #[32] } 0 (Lib.countB s { data := #[32] }) s).map Value.string = (pbW s).map tv := by
    rw [← hw, List.map_map]
    apply List.map_congr_left
    intro b _
    show Value.string b = Value.string ⟨b.data.toList.toArray⟩
    simp
  have hlen : Lib.countB s { data := #[32] } + 1 = (pbW s).length := by
    rw [← hw, List.length_map, Lib.splitB_all { data := #[32] } (by decide) 0 _ s rfl]
  refine (Tryd.strings_Split s { data := #[32] } m w (by omega) hm (by decide)).mono ?_
  rintro e w' ⟨rfl, rfl⟩
  rw [hv, hlen]
  have hT := pb_total s
  refine ⟨_, _, rfl, ?_, (Below.refl _ _).alloc (Nat.le_refl _) _⟩
  exact World.ownsRow_lit w ((pbW s).map tv).toArray (pbW s).length (Nat.le_refl _) (by unfold maxLen; omega) (by simp)
theorem basis_big (A : Option Addr) (c n : Nat) (w : World) (h : 8 < n) : Calls Tryd.prog 14 #[.slice A n c] w (Rb w (.bool false)) := by
  have d1 : decide ((n : Int) > 8) = true := decide_eq_true (by omega)
  have d2 : decide ((8 : Int) < (n : Int)) = true := decide_eq_true (by omega)
  clear h
  go_enter Tryd.func14, Tryd.ntmps14
  go_wp2_with fail
  go_ret
  exact ⟨rfl, Below.refl _ _⟩
set_option maxHeartbeats 2000000 in
theorem parseBasis_impl (s : ByteArray) (m : Int) (w : World) (hs : s.size ≤ 1048576) (hm : w.cell? ⟨0, 0, none⟩ = some (.int .i64 m)) :
    Calls Tryd.prog 5 #[.string s] w (RetPb w (pbG s) (pbOk s)) := by
  obtain ⟨j0, hj, hy0, hy1, hy2⟩ := info_parts infoL
  have hlit := Own.lit (lo := w.heap.size) w (Nat.le_refl _)
  have hb0 := (Below.refl w.heap.size w).alloc (Nat.le_refl _) (.cells #[] 30)
  have hTL : s.toList = s.data.toList := ByteArray.toList_eq s
  have hl : s.data.toList.length = s.size := by show s.data.toList.length = s.data.size; simp
  by_cases h0 : s.size = 0
  · have hn : s.data.toList = [] := List.eq_nil_of_length_eq_zero (by rw [hl]; exact h0)
    have d0 : (s.toList == []) = true := by rw [hTL, hn]; rfl
    have HB := Lib.hid (show pbOk s = true by unfold pbOk; rw [decide_eq_true h0]; rfl)
    have HG := Lib.hid (show pbG s = [] by unfold pbG; rw [if_pos h0])
    clear hTL h0 hn
    go_enter Tryd.func5, Tryd.ntmps5
    go_wp2_with fail
    go_ret2
    rw [HB.out, HG.out]
    exact ⟨_, _, [], rfl, rfl, hlit, hb0⟩
  · have d0 : (s.toList == []) = false := by rw [hTL]; simp; intro e; rw [← hl] at h0; exact h0 (by simp [e])
    have HG0 := Lib.hid (show pbG s = if pbOk s = true then (pbW s).map ppG else [] by unfold pbG; rw [if_neg h0])
    have HB0 := Lib.hid (show pbOk s = ((pbW s).all ppB && basisB ((pbW s).map ppG)) by unfold pbOk; rw [decide_eq_false h0, Bool.false_or])
    have hTOT := pb_total s
    have HTOT := Lib.hid hTOT
    have hwl : (pbW s).length ≤ 1048577 := by omega
    obtain ⟨ws, hws⟩ : ∃ ws, ws = pbW s := ⟨_, rfl⟩
    rw [← hws] at HG0 HB0 hwl HTOT
    have HCS := Lib.hid (show ∀ W : World, W.cell? ⟨0, 0, none⟩ = some (.int .i64 m) → Calls Tryd.prog 12 #[.string s, .string { data := #[32] }] W fun e w' => ∃ A k, e = .returned (.slice A ws.length k) ∧ w'.ownsRow W.heap.size 9 1 (.slice A ws.length k) ws.length (ws.map tv) ∧ Below W.heap.size W w' from fun W hW => by rw [hws]; exact split_any s m W hs hW)
    have hm0 : (w.alloc (.cells #[] 30)).cell? ⟨0, 0, none⟩ = some (.int .i64 m) := (World.cell?_alloc_old _ _ _ (Nat.ne_of_lt (World.block_lt_of_cell? _ _ hm))).trans hm
    have HW8 := Lib.hid (show ∀ x ∈ ws, x.length ≤ 1048576 from fun x hx => by
      have h1 : x.length ≤ (ws.map List.length).sum := mem_sum_le hx
      have h2 := HTOT.out
      have h3 : 0 < ws.length := List.length_pos_of_mem hx
      omega)
    clear hTL h0 hTOT hws
    go_enter Tryd.func5, Tryd.ntmps5
    go_wp2_with fail
    (with_reducible refine (HCS.out _ hm0).mono ?_)
    rintro e w1 ⟨Ap, cp, rfl, ownP, hb1⟩
    have hbw := hb0.trans (hb1.mono hb0.size)
    have hO1 := (hlit.below hb1).wider (Nat.le_refl _) hb1.size
    obtain ⟨lp, hlp⟩ : ∃ lp, lp = (w.alloc (.cells #[] 30)).heap.size := ⟨_, rfl⟩
    rw [← hlp] at ownP
    clear hlit hb0 hb1 hlp
    go_wp2_with fail
    go_loopw [4, 16] (fun v i wr => ∃ (k : Nat) (A1 : Option Addr) (c1 : Nat) (ds : List Row), k ≤ ws.length ∧ i = .int .i64 k ∧ v = .slice A1 ds.length c1 ∧ Hid (ds.map Row.xs = (ws.take k).map ppG) ∧ Hid ((ws.take k).all ppB = true) ∧ Own wr w.heap.size wr.heap.size ds [⟨A1, c1, ds.map Row.v⟩] ∧ wr.ownsRow lp 9 1 (.slice Ap ws.length cp) ws.length (ws.map tv) ∧ Below w.heap.size w wr) (fun _ i _ => ws.length - (intOf i).toNat)
    case atStart => exact ⟨0, _, _, [], Nat.zero_le _, rfl, rfl, Lib.hid rfl, Lib.hid rfl, hO1, ownP, hbw⟩
    case round =>
      clear hO1 ownP hbw
      obtain ⟨k, A1, c1, ds, hk, rfl, rfl, HX, HA, hO, ownP, hb⟩ := hrel
      have hsz := hb.size
      have hdl : ds.length = k := by have := congrArg List.length HX.out; simp at this; omega
      rcases Nat.lt_or_ge k ws.length with hlt | hge
      · obtain ⟨bp, op, rfl, _, hc⟩ := (Rd.of_own ownP) (by omega)
        have cc := hc k hlt
        obtain ⟨x, hx⟩ : ∃ x, x = ws[k] := ⟨_, rfl⟩
        rw [← hx] at cc
        have hxm : x ∈ ws := by rw [hx]; exact List.getElem_mem hlt
        have HC := Lib.hid (show Calls Tryd.prog 13 #[tv x] wr (Ret2 (Value.int .i64) 3 wr (ppG x) (ppB x)) from by
          have := parsePerm_impl ⟨x.toArray⟩ wr (by rw [tv_size]; exact HW8.out x hxm)
          rw [tv_data] at this
          exact this)
        have HT := Lib.hid (show ws.take (k + 1) = ws.take k ++ [x] by rw [List.take_succ_eq_append_getElem hlt, hx])
        have HD := Lib.hid hdl
        have HXM := Lib.hid hxm
        have hkd : ds.length ≤ 1048577 := by omega
        clear hc hx hxm hdl
        go_wp2_with fail
        (with_reducible refine HC.out.mono ?_)
        rintro e w2 ⟨A3, c3, rfl, _, _, own3, hb2⟩
        have hbw := hb.trans (hb2.mono hsz)
        by_cases hp : ppB x = true
        · have hs2 := hb2.size
          have hO2 := (hO.below hb2).add (r := ⟨A3, c3, ppG x⟩) own3 hs2 hsz
          have ho2 := hO2.outN (n := ds.length) (by simp)
          have ownP2 := own_below ownP hb2
          have HPP := Lib.hid hp
          rw [hp]
          clear own3 hO hb2 hb hp ownP cc
          go_wp2_with (at_builtin; refine wpList_append_own _ rfl _ _ 22 rfl (w.heap.size) 30 j0 (.slice none 0 0) 1 24 Tryd.underlying22 hj hy0 hy1 hy2 rfl (by decide) _ _ _ rfl (World.ownsRow.alloc ho2 _) ⟨w2.heap.size, 0, none⟩ 1 1 [Value.slice A3 (ppG x).length c3] rfl rfl (cell_one_at _ _ (by simp)) (by intro u hu; simp at hu; subst hu; rfl) (by unfold maxLen; omega) (by omega) (by simp; omega) ?_; intro v9 w9 hown9 hgrow9 _)
          obtain ⟨A5, c5, rfl, hO3, hg3⟩ := hO2.grow (Nat.le_refl _) (by simp) hown9 hgrow9
          have hb3 := hbw.grown hg3 hbw.size (fun g hg => (hO2.olim (by simp) g hg).1)
          have ownP3 := ownP2.kept hg3 (own_types ownP2 ho2 (by decide))
          have K := Lib.hid (And.intro hO3 (And.intro ownP3 hb3))
          clear hO3 hb3 hown9 hgrow9 hg3 hO2 ho2 hbw ownP2 ownP3
          go_wp2_with fail
          go_roundw
          case rel => exact ⟨k + 1, A5, c5, ds ++ [⟨A3, c3, ppG x⟩], by omega, by go_num, by rw [List.length_append]; rfl, Lib.hid (by rw [HT.out, List.map_append, List.map_append, HX.out]; rfl), Lib.hid (by rw [HT.out, List.all_append, HA.out]; simp [HPP.out]), by simpa [Row.v] using K.out.1, K.out.2.1, K.out.2.2⟩
          case measure => simp [intOf]; omega
        · have hpf : ppB x = false := by simpa using hp
          have HF := Lib.hid (show pbOk s = false by rw [HB0.out, show ws.all ppB = false from List.all_eq_false.2 ⟨x, HXM.out, by rw [hpf]; simp⟩, Bool.false_and])
          have HG := Lib.hid (show pbG s = [] by rw [HG0.out, HF.out]; rfl)
          rw [hpf]
          clear hp hpf own3 hb2
          go_wp2_with fail
          go_ret2
          rw [HF.out, HG.out]
          exact ⟨none, 0, [], rfl, rfl, Own.nil_list _ _ _, hbw⟩
      · obtain rfl : k = ws.length := by omega
        have HXA := Lib.hid (show ds.map Row.xs = ws.map ppG by rw [HX.out, List.take_length])
        have HAA := Lib.hid (show ws.all ppB = true by have := HA.out; rwa [List.take_length] at this)
        obtain ⟨bb, hbb⟩ : ∃ bb, basisB (ds.map Row.xs) = bb := ⟨_, rfl⟩
        have HI := Lib.hid (show Calls Tryd.prog 14 #[.slice A1 ds.length c1] wr (Rb wr (.bool bb)) from by
          rcases Nat.lt_or_ge 8 ds.length with h8 | h8
          · have hbf : basisB (ds.map Row.xs) = false := by
              cases hq : basisB (ds.map Row.xs) with
              | false => rfl
              | true => have h1 := basis_len hq; rw [List.length_map] at h1; omega
            rw [← hbb, hbf]
            exact basis_big A1 c1 ds.length wr h8
          · have hin : InL wr A1 c1 ds := hO.read.toL (by
              have h1 : sizeX (ds.map Row.xs) ≤ (ds.map Row.xs).length * 8 := by
                rw [HXA.out]
                exact sizeP ws
              rw [sizeR_eq]
              rw [List.length_map] at h1
              omega) (Nat.le_refl _)
            rw [← hbb]
            exact basis_impl A1 c1 ds wr hin)
        have HF := Lib.hid (show pbOk s = bb by rw [HB0.out, HAA.out, Bool.true_and, ← HXA.out]; exact hbb)
        clear hbb hdl
        go_wp2_with fail
        (with_reducible refine HI.out.mono ?_)
        rintro e w2 ⟨rfl, hb2⟩
        have hbw := hb.trans (hb2.mono hsz)
        cases bb with
        | true =>
          have HG := Lib.hid (show pbG s = ws.map ppG by rw [HG0.out, HF.out]; rfl)
          have hO3 := (hO.below hb2).wider (Nat.le_refl _) hb2.size
          go_wp2_with fail
          go_ret2
          rw [HF.out, HG.out]
          exact ⟨A1, c1, ds, rfl, HXA.out, hO3, hbw⟩
        | false =>
          have HG := Lib.hid (show pbG s = [] by rw [HG0.out, HF.out]; rfl)
          go_wp2_with fail
          go_ret2
          rw [HF.out, HG.out]
          exact ⟨none, 0, [], rfl, rfl, Own.nil_list _ _ _, hbw⟩
end Go.Proofs.YthkggnmfdlggbaaDoor
