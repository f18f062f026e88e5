/- Contracts of the statistics that list places: listed and its closures; DescentsOf, LowsOf, RecordsOf, CountFixed, CountRises, MajorOf; program. -/
import Derived.Test.YthipikllgpnlhaaP1
namespace Go.Proofs.Ythipikllgpnlhaa
set_option maxRecDepth 100000
open Go Go.RowKit

/-- The places, counted from 1, of which H holds, of the first n. -/
def placesL (H : Nat → Bool) (n : Nat) : List Int := ((List.range n).filter H).map fun i : Nat => (i : Int) + 1
theorem placesL_succ (H : Nat → Bool) (n : Nat) : placesL H (n + 1) = if H n then placesL H n ++ [(n : Int) + 1] else placesL H n := by
  unfold placesL
  rw [List.range_succ, List.filter_append]
  by_cases h : H n <;> simp [h]
theorem placesL_length (H : Nat → Bool) (n : Nat) : (placesL H n).length ≤ n := by
  unfold placesL
  rw [List.length_map]
  exact Nat.le_trans (List.length_filter_le _ _) (by simp)
theorem placesL_congr {H K : Nat → Bool} {n : Nat} (h : ∀ i, i < n → H i = K i) : placesL H n = placesL K n := by
  unfold placesL
  congr 1
  exact List.filter_congr fun x hx => h x (List.mem_range.1 hx)

def listG (xs : List Int) (H : Nat → Bool) : List Int := if permB xs = true then placesL H xs.length else []
theorem listG_length (xs : List Int) (H : Nat → Bool) : (listG xs H).length ≤ 8 := by
  unfold listG
  split
  · rename_i h
    have := placesL_length H xs.length
    have := (permB_true h).1
    omega
  · simp

set_option maxHeartbeats 800000 in
theorem listed_impl (A : Option Addr) (c : Nat) (xs : List Int) (F g : Nat) (H : Nat → Bool) (w : World) (h : In w A c xs)
    (hF : ∀ args w', (callFunc F args).run Try.prog w' = .ok (.enter F args) w')
    (hcl : ∀ (w' : World) (i : Nat), Below w.heap.size w w' → i < xs.length → Calls Try.prog F #[.int .i64 i, .pointer (some ⟨g, 0, none⟩)] w' (Rq w' (.bool (H i)))) :
    Calls Try.prog 95 #[.slice A xs.length c, .func (.func F) #[] #[.pointer (some ⟨g, 0, none⟩)]] w (Ret (Value.int .i64) 3 w (listG xs H)) := by
  obtain ⟨i0, hi, hz0, hz1, hz2⟩ := info_parts infoI
  by_cases hp : permB xs = true
  · have HP := Lib.hid (show listG xs H = placesL H xs.length by rw [listG, if_pos hp])
    have h8 := (permB_true hp).1
    go_enter Try.func95, Try.ntmps95
    go_wp2_with fail
    refine (isPerm_impl _ _ _ _ h).mono ?_
    rintro e w1 ⟨rfl, hb1⟩
    rw [hp]
    clear hp
    have hsz1 := hb1.size
    go_wp2_with fail
    have hown0 : (w1.alloc (.cells #[] 3)).ownsRow w.heap.size 3 1 (.slice (some ⟨w1.heap.size, 0, none⟩) 0 0) (placesL H 0).length ((placesL H 0).map (Value.int .i64)) := World.ownsRow_lit w1 #[] 0 hsz1 (by unfold maxLen; omega) rfl
    have hb2 := hb1.alloc hsz1 (.cells #[] 3)
    go_loopw [5, 13] (fun v i wr => ∃ (k : Nat) (A' : Option Addr) (c' : Nat), k ≤ xs.length ∧ i = .int .i64 k ∧ v = .slice A' (placesL H k).length c' ∧ wr.ownsRow w.heap.size 3 1 (.slice A' (placesL H k).length c') (placesL H k).length ((placesL H k).map (Value.int .i64)) ∧ Below w.heap.size w wr) (fun _ i _ => xs.length - (intOf i).toNat)
    case atStart => exact ⟨0, _, _, Nat.zero_le _, rfl, rfl, hown0, hb2⟩
    case round =>
      clear hown0 hb2 hb1 hsz1
      obtain ⟨k, A', c', hk, rfl, rfl, hown, hb⟩ := hrel
      have hpl := placesL_length H k
      have hsz := hb.size
      rcases Nat.lt_or_ge k xs.length with hlt | hge
      · go_wp2_with fail
        refine (hcl _ k hb hlt).mono ?_
        rintro e w2 ⟨rfl, hd⟩
        have hown := hd.own hown
        have hb := below_dr hb hd
        have hsz : w.heap.size ≤ w2.heap.size := hb.size
        by_cases hH : H k = true
        · have HS := Lib.hid (show placesL H (k + 1) = placesL H k ++ [(k : Int) + 1] by rw [placesL_succ, if_pos hH])
          rw [hH]
          go_wp2_with (at_builtin; refine wpList_append_own _ rfl _ _ 24 rfl (w.heap.size) 3 i0 (.int .i64 0) 1 8 Try.underlying24 hi hz0 hz1 hz2 rfl (by decide) _ _ _ rfl (World.ownsRow.alloc hown _) ⟨w2.heap.size, 0, none⟩ 1 1 [.int .i64 ((k : Int) + 1)] rfl rfl (cell_one_new _ _ _) (by intro u hu; simp at hu; subst hu; rfl) (by unfold maxLen; omega) (by omega) (by simp; omega) ?_; intro v1 w1 hown1 hgrow1 _)
          have hb1 := (hb.alloc hsz (Obj.cells #[Value.int .i64 ((k : Int) + 1)] 3)).grown hgrow1 (by simp; omega) (by intro g hg; exact ((hown.lt g hg).1))
          have hS2 : w1.ownsRow w.heap.size 3 1 v1 (placesL H (k + 1)).length ((placesL H (k + 1)).map (Value.int .i64)) := by rw [HS.out]; simpa using hown1
          obtain ⟨A1, cc, rfl, _, _⟩ := own_shape hS2
          have hH1 := Lib.hid hS2
          have hH2 := Lib.hid hb1
          clear hS2 hown1 hgrow1 hb1 hown hb hH
          go_wp2_with fail
          go_roundw
          case rel => exact ⟨k + 1, A1, cc, by omega, by go_num, rfl, hH1.out, hH2.out⟩
          case measure => simp [intOf]; omega
        · have hHf : H k = false := by simpa using hH
          have HS := Lib.hid (show placesL H (k + 1) = placesL H k by rw [placesL_succ, if_neg hH])
          rw [hHf]
          clear hH hHf
          go_wp2_with fail
          go_roundw
          case rel => exact ⟨k + 1, A', c', by omega, by go_num, by rw [HS.out], by rw [HS.out]; exact hown, hb⟩
          case measure => simp [intOf]; omega
      · obtain rfl : k = xs.length := by omega
        go_wp2_with fail
        go_ret
        rw [HP.out]
        exact ⟨A', c', rfl, (own_caps hown).1, (own_caps hown).2, hown, hb⟩
  · have hpf : permB xs = false := by simpa using hp
    have HP := Lib.hid (show listG xs H = [] by rw [listG, if_neg hp])
    go_enter Try.func95, Try.ntmps95
    go_wp2_with fail
    refine (isPerm_impl _ _ _ _ h).mono ?_
    rintro e w1 ⟨rfl, hb1⟩
    rw [hpf]
    clear hp hpf
    go_wp2_with fail
    go_ret
    rw [HP.out]
    exact ⟨none, 0, rfl, Nat.le_refl _, Nat.zero_le _, World.ownsRow_nil _ _ _ _, hb1⟩

theorem alloc_cell (w : World) (v : Value) (t : TypeId) : (w.alloc (.cells #[v] t)).cell? ⟨w.heap.size, 0, none⟩ = some v := by
  rw [World.cell?_alloc_at _ _ _ _ rfl]; rfl

/-- The captured slice and what it reads as, in a later world. -/
theorem cap_in {w w0 w' : World} {A : Option Addr} {c : Nat} {xs : List Int} {t : TypeId} (h : In w A c xs) (e : w0 = w.alloc (.cells #[.slice A xs.length c] t)) (hb : Below w0.heap.size w0 w') :
    In w' A c xs ∧ w'.cell? ⟨w.heap.size, 0, none⟩ = some (.slice A xs.length c) := by
  subst e
  have h1 : In (w.alloc (.cells #[.slice A xs.length c] t)) A c xs := h.next ((Below.refl _ _).alloc (Nat.le_refl _) _)
  exact ⟨h1.next hb, by rw [hb.cell (p := ⟨w.heap.size, 0, none⟩) (by simp)]; exact alloc_cell _ _ _⟩

def descH (xs : List Int) (i : Nat) : Bool := decide (i + 1 < xs.length ∧ xs[i]?.getD 0 > xs[i + 1]?.getD 0)
set_option maxHeartbeats 400000 in
theorem desc_cl (A : Option Addr) (c g i : Nat) (xs : List Int) (w : World) (h : In w A c xs) (hg : w.cell? ⟨g, 0, none⟩ = some (.slice A xs.length c)) (hi : i < xs.length) :
    Calls Try.prog 96 #[.int .i64 i, .pointer (some ⟨g, 0, none⟩)] w (Rq w (.bool (descH xs i))) := by
  obtain ⟨hl, _, hx⟩ := h
  obtain ⟨b, off, rfl, _, hc⟩ := hx (by omega)
  by_cases h1 : i + 1 < xs.length
  · have d1 : decide ((i : Int) + 1 < (xs.length : Int)) = true := by simp; omega
    have c1 := hc i hi
    have c2 := hc (i + 1) h1
    have HH := Lib.hid (show descH xs i = decide (xs[i] > xs[i + 1]) by simp [descH, h1, hi])
    have e1 : IntKind.i64.wrap ((i : Int) + 1) = (i : Int) + 1 := IntWalk.i64_in _ (by omega)
    have e2 : ((i : Int) + 1).toNat = i + 1 := by omega
    have e3 : 0 ≤ (i : Int) + 1 := by omega
    have e4 : (i : Int) + 1 < (xs.length : Int) := by omega
    clear hc
    go_enter Try.func96, Try.ntmps96
    go_wp2
    go_quiet (fail)
    go_wp2
    go_ret
    exact ⟨ret_bool HH.out.symm, (by first | with_reducible exact Dr.of _ _ | with_reducible exact Dr.of2 _ _ _ | with_reducible exact Dr.refl _ | with_reducible exact Dr.of3 _ _ _)⟩
  · have d1 : decide ((i : Int) + 1 < (xs.length : Int)) = false := by simp; omega
    have HH := Lib.hid (show descH xs i = false by simp [descH, h1])
    have e1 : IntKind.i64.wrap ((i : Int) + 1) = (i : Int) + 1 := IntWalk.i64_in _ (by omega)
    clear hc h1
    go_enter Try.func96, Try.ntmps96
    go_wp2
    go_quiet (fail)
    go_wp2
    go_ret
    exact ⟨ret_bool HH.out.symm, (by first | with_reducible exact Dr.of _ _ | with_reducible exact Dr.of2 _ _ _ | with_reducible exact Dr.refl _ | with_reducible exact Dr.of3 _ _ _)⟩
theorem call_96 (args : Array Value) (w : World) : (callFunc 96 args).run Try.prog w = .ok (.enter 96 args) w := by kernel_rfl
theorem descents_impl (A : Option Addr) (c : Nat) (xs : List Int) (w : World) (h : In w A c xs) :
    Calls Try.prog 33 #[.slice A xs.length c] w (Ret (Value.int .i64) 3 w (listG xs (descH xs))) := by
  have hmf : ∀ (fn : Fn) (first cap : Array Value) (w : World), (Instr.makeFunc fn first cap).run Try.prog w = .ok (.func fn first cap) w := fun _ _ _ _ => rfl
  have hb0 := (Below.refl w.heap.size w).alloc (Nat.le_refl _) (.cells #[.slice A xs.length c] 24)
  have h0 := h.next hb0
  have hc0 := alloc_cell w (.slice A xs.length c) 24
  go_enter Try.func33, Try.ntmps33
  go_wp2_with fail
  refine (listed_impl A c xs 96 w.heap.size (descH xs) _ h0 (fun args w' => call_96 args w') (fun w' i hb hi => ?_)).mono ?_
  · exact desc_cl A c _ i xs w' (h0.next hb) (by rw [hb.cell (p := ⟨w.heap.size, 0, none⟩) (by simp)]; exact hc0) hi
  · rintro e w1 ⟨A1, c1, rfl, q1, q2, hown, hb⟩
    go_wp2_with fail
    go_ret
    exact ⟨A1, c1, rfl, q1, q2, own_mono hown (by simp), hb0.trans (hb.mono (by simp))⟩
end Go.Proofs.Ythipikllgpnlhaa
