/- Evenly, LeadOf, TotalOf, CrossTotal, betweenOf: both texts return the same numbers. -/
import Derived.Test.YtmipjhnjlpmidaaShares
namespace Go.Proofs.Ytmipjhnjlpmidaa
open Go.RowKit
set_option linter.unusedVariables false
set_option linter.unusedSimpArgs false

theorem ones_length (k : Nat) : (ones k).length = k := by simp [ones]
theorem ones_succ (k : Nat) : ones (k + 1) = ones k ++ [1] := by simp [ones, List.replicate_succ']
theorem evenly_in {n many : Int} (h : inB many 0 64 = true) : evenly n many = shares n (ones many.toNat) := by
  rw [evenly, if_pos (inB_iff.1 h)]
theorem evenly_out {n many : Int} (h : inB many 0 64 = false) : evenly n many = [] := by
  rw [evenly, if_neg (inB_not.1 h)]
theorem weights_ones {k : Nat} (h : k ≤ 64) : weightsOk (ones k) = true := by
  simp only [weightsOk, Bool.and_eq_true, decide_eq_true_eq, ones_length]
  refine ⟨allIn_true fun j hj => ?_, h⟩
  rw [ones_length] at hj
  simp [at_, ones, List.getD, hj, inB]
theorem evenly_length {n many : Int} (h : inB many 0 64 = true) : (evenly n many).length = many.toNat := by
  have := inB_iff.1 h
  rw [evenly_in h, shares, if_pos (weights_ones (by omega)), sharesTo_length, ones_length]

def elementOf (l : List Int) (i : Int) : Int := if i < 0 ∨ (l.length : Int) ≤ i then 0 else at_ l i.toNat

set_option maxRecDepth 100000 in
set_option maxHeartbeats 2000000 in
theorem iEvenly_c (n many : Int) (w : World) :
    Calls Try.prog 70 #[.int .i64 n, .int .i64 many] w fun r w' => ∃ v, r = .returned v ∧ w'.ownsRow w.heap.size 3 1 v (evenly n many).length (VI (evenly n many)) ∧ Bel w w' := by
  cases hm : inB many 0 64 with
  | false =>
    rw [evenly_out hm]
    go_enter Try.func70, Try.ntmps70
    go_wp2_with (go_at_call 68; refine (in_c _ _ _ _).mono ?_; rintro e w' ⟨rfl, rfl⟩)
    go_ret
    exact ⟨_, rfl, own_nil _ _ _, Bel.refl w⟩
  | true =>
    rw [evenly_in hm]
    obtain ⟨m, rfl⟩ := Int.eq_ofNat_of_zero_le (inB_iff.1 hm).1
    have h64 : m ≤ 64 := by have := (inB_iff.1 hm).2; omega
    simp only [Int.toNat_natCast]
    go_enter Try.func70, Try.ntmps70
    go_wp2_with (go_at_call 68; refine (in_c _ _ _ _).mono ?_; rintro e w' ⟨rfl, rfl⟩)
    clear hm
    go_loopw [5, 10] (fun out i wr => ∃ (k : Nat), k ≤ m ∧ i = .int .i64 k ∧ Bel w wr ∧ wr.ownsRow w.heap.size 3 1 out k (VI (ones k))) (fun _ i _ => m - (intOf i).toNat)
    case atStart => exact ⟨0, Nat.zero_le _, by go_num, Bel.refl w, own_nil _ _ _⟩
    case round =>
      obtain ⟨k, hk, rfl, hb, ho⟩ := hrel
      by_cases hlt : k < m
      · go_wp2_with (at_builtin; refine app1 rfl (.tmp 12) (.tmp 13) rfl w.heap.size _ k _ rfl (ho.alloc _) wr.heap.size _ rfl (World.cell?_alloc_new _ _ _ _) (by omega) (hb.alloc _).sz ?_; intro v' w' ho' hg')
        go_roundw
        case rel =>
          refine ⟨k + 1, by omega, by go_num, (hb.alloc _).own (Nat.le_refl _) (ho.alloc _) hg', ?_⟩
          rw [ones_succ, ← VI_snoc]
          exact ho'
        case measure => simp [intOf]; omega
      · obtain rfl : k = m := by omega
        obtain ⟨A, c, rfl, -, hc1, hc2, hI⟩ := own_open ho
        clear hc1 hc2
        go_wp2_with fail
        refine (iShares_c _ _ _ _ _ hI (by rw [ones_length]; omega)).mono ?_; rintro e w1 ⟨v, rfl, ho1, hb1⟩
        go_wp2_with fail
        go_ret
        exact ⟨_, rfl, own_base ho1 hb.sz, hb.trans hb1⟩
set_option maxRecDepth 100000 in
set_option maxHeartbeats 2000000 in
theorem sEvenly_c (n many : Int) (w : World) :
    Calls Try.prog 76 #[.int .i64 n, .int .i64 many] w fun r w' => ∃ v, r = .returned v ∧ w'.ownsRow w.heap.size 3 1 v (evenly n many).length (VI (evenly n many)) ∧ Bel w w' := by
  have hb0 : Bel w (w.alloc (.cells #[] 3)) := (Bel.refl w).alloc _
  have ho0 : (w.alloc (.cells #[] 3)).ownsRow w.heap.size 3 1 (.slice (some ⟨w.heap.size, 0, none⟩) 0 0) 0 (VI []) := World.ownsRow_lit w #[] 0 (Nat.le_refl _) (by unfold maxLen; omega) rfl
  have hI0 : Ints (w.alloc (.cells #[] 3)) (some ⟨w.heap.size, 0, none⟩) [] := Ints.nil _ _
  have hsh0 := sShares_c n (some ⟨w.heap.size, 0, none⟩) 0 [] (w.alloc (.cells #[] 3)) hI0 (by simp)
  have hs0 : shares n [] = [] := by simp [shares, sharesTo]
  rw [hs0] at hsh0
  have HS0 := hid' hsh0
  clear hsh0 hs0
  by_cases h1 : many ≤ 64
  · by_cases h0 : 0 < many
    · have hm : inB many 0 64 = true := inB_iff.2 ⟨by omega, h1⟩
      rw [evenly_in hm]
      obtain ⟨m, rfl⟩ := Int.eq_ofNat_of_zero_le (show 0 ≤ many by omega)
      simp only [Int.toNat_natCast]
      clear hm
      go_enter Try.func76, Try.ntmps76
      go_wp2_with fail
      go_loopw [5, 6] (fun out i wr => ∃ (k : Nat), k ≤ m ∧ i = .int .i64 k ∧ Bel w wr ∧ wr.ownsRow w.heap.size 3 1 out k (VI (ones k))) (fun _ i _ => m - (intOf i).toNat)
      case atStart => exact ⟨0, Nat.zero_le _, by go_num, hb0, ho0⟩
      case round =>
        obtain ⟨k, hk, rfl, hb, ho⟩ := hrel
        by_cases hlt : k < m
        · go_wp2_with (at_builtin; refine app1 rfl (.tmp 17) (.tmp 18) rfl w.heap.size _ k _ rfl (ho.alloc _) wr.heap.size _ rfl (World.cell?_alloc_new _ _ _ _) (by omega) (hb.alloc _).sz ?_; intro v' w' ho' hg')
          go_roundw
          case rel =>
            refine ⟨k + 1, by omega, by go_num, (hb.alloc _).own (Nat.le_refl _) (ho.alloc _) hg', ?_⟩
            rw [ones_succ, ← VI_snoc]
            exact ho'
          case measure => simp [intOf]; omega
        · obtain rfl : k = m := by omega
          obtain ⟨A, c, rfl, -, hc1, hc2, hI⟩ := own_open ho
          clear hc1 hc2
          go_wp2_with fail
          refine (sShares_c _ _ _ _ _ hI (by rw [ones_length]; omega)).mono ?_; rintro e w1 ⟨v, rfl, ho1, hb1⟩
          go_wp2_with fail
          go_ret
          exact ⟨_, rfl, own_base ho1 hb.sz, hb.trans hb1⟩
    · have he : evenly n many = [] := by
        by_cases hz : many = 0
        · subst hz; simp [evenly, ones, shares, sharesTo]
        · exact evenly_out (inB_not.2 (by omega))
      rw [he]
      go_enter Try.func76, Try.ntmps76
      go_wp2_with fail
      go_loopw [5, 6] (fun out i wr => out = .slice (some ⟨w.heap.size, 0, none⟩) 0 0 ∧ i = .int .i64 0 ∧ wr = w.alloc (.cells #[] 3)) (fun _ i _ => 0)
      case atStart => exact ⟨rfl, rfl, rfl⟩
      case round =>
        obtain ⟨rfl, rfl, rfl⟩ := hrel
        go_wp2_with fail
        refine HS0.out.mono ?_; rintro e w1 ⟨v, rfl, ho1, hb1⟩
        go_wp2_with fail
        go_ret
        exact ⟨_, rfl, own_base ho1 hb0.sz, hb0.trans hb1⟩
  · have he : evenly n many = [] := evenly_out (inB_not.2 (by omega))
    rw [he]
    have h0 : 0 < many := by omega
    go_enter Try.func76, Try.ntmps76
    go_wp2_with fail
    go_loopw [5, 6] (fun out i wr => out = .slice (some ⟨w.heap.size, 0, none⟩) 0 0 ∧ i = .int .i64 0 ∧ wr = w.alloc (.cells #[] 3)) (fun _ i _ => 0)
    case atStart => exact ⟨rfl, rfl, rfl⟩
    case round =>
      obtain ⟨rfl, rfl, rfl⟩ := hrel
      go_wp2_with fail
      refine HS0.out.mono ?_; rintro e w1 ⟨v, rfl, ho1, hb1⟩
      go_wp2_with fail
      go_ret
      exact ⟨_, rfl, own_base ho1 hb0.sz, hb0.trans hb1⟩

/-! ### LeadOf -/
def leadOf (free many justify : Int) : Int :=
  if inB many 1 12 then
    if justify = 2 then free
    else if justify = 3 then floorDiv free 2
    else if justify = 5 then (if free < 0 then floorDiv free 2 else at_ (evenly free (2 * many)) 0)
    else if justify = 6 then (if free < 0 then floorDiv free 2 else at_ (evenly free (many + 1)) 0)
    else 0
  else 0

set_option maxRecDepth 100000 in
set_option maxHeartbeats 400000 in
theorem l15First_c (A : Option Addr) (c : Nat) (zs : List Int) (w : World) (h : Ints w A zs) (hn : zs.length ≤ 1048576) :
    Calls Try.prog 75 #[.slice A zs.length c] w fun r w' => r = .returned (.int .i64 (at_ zs 0)) ∧ Bel w w' := by
  by_cases h0 : 0 < zs.length
  · obtain ⟨b, o, rfl, hbl, hc⟩ := h 0 h0
    have hcA : w.cell? ⟨b, o, none⟩ = some (.int .i64 (at_ zs 0)) := hc 0 h0
    have hne : ((zs.length : Int) == 0) = false := beq_eq_false_iff_ne.2 (by omega)
    have hpos : (0 : Int) < (zs.length : Int) := by omega
    clear hc
    go_enter Try.func75, Try.ntmps75
    go_wp2
    go_ret
    exact ⟨rfl, Bel.refl w⟩
  · have hz : zs = [] := List.eq_nil_of_length_eq_zero (by omega)
    subst hz
    go_enter Try.func75, Try.ntmps75
    go_wp2
    go_ret
    exact ⟨rfl, Bel.refl w⟩

set_option maxRecDepth 100000 in
set_option maxHeartbeats 2000000 in
theorem sLeadOf_c (free many justify : Int) (w : World) (hf : -9223372036854775808 ≤ free ∧ free ≤ 9223372036854775807) :
    Calls Try.prog 28 #[.int .i64 free, .int .i64 many, .int .i64 justify] w fun r w' => r = .returned (.int .i64 (leadOf free many justify)) ∧ Bel w w' := by
  cases hm : inB many 1 12 with
  | false =>
    go_enter Try.func28, Try.ntmps28
    go_wp2_with (go_at_call 73; refine (l01In_c _ _ _ _).mono ?_; rintro e w' ⟨rfl, rfl⟩)
    go_ret
    exact ⟨by simp [leadOf, hm], Bel.refl w⟩
  | true =>
    have hb := inB_iff.1 hm
    by_cases h2 : justify = 2
    · subst h2
      go_enter Try.func28, Try.ntmps28
      go_wp2_with (go_at_call 73; refine (l01In_c _ _ _ _).mono ?_; rintro e w' ⟨rfl, rfl⟩)
      go_ret
      exact ⟨by simp [leadOf, hm], Bel.refl w⟩
    · by_cases h3 : justify = 3
      · subst h3
        go_enter Try.func28, Try.ntmps28
        go_wp2_with (first
          | (go_at_call 73; refine (l01In_c _ _ _ _).mono ?_; rintro e w' ⟨rfl, rfl⟩)
          | (go_at_call 74; refine (sFloorDiv_c _ _ _ hf).mono ?_; rintro e w' ⟨rfl, rfl⟩))
        go_ret
        exact ⟨by simp [leadOf, hm], Bel.refl w⟩
      · by_cases h5 : justify = 5
        · subst h5
          by_cases hneg : free < 0
          · go_enter Try.func28, Try.ntmps28
            go_wp2_with (first
              | (go_at_call 73; refine (l01In_c _ _ _ _).mono ?_; rintro e w' ⟨rfl, rfl⟩)
              | (go_at_call 74; refine (sFloorDiv_c _ _ _ hf).mono ?_; rintro e w' ⟨rfl, rfl⟩))
            go_ret
            exact ⟨by simp [leadOf, hm, hneg], Bel.refl w⟩
          · go_enter Try.func28, Try.ntmps28
            go_wp2_with (go_at_call 73; refine (l01In_c _ _ _ _).mono ?_; rintro e w' ⟨rfl, rfl⟩)
            refine (sEvenly_c _ _ _).mono ?_; rintro e w1 ⟨v, rfl, ho, hb1⟩
            obtain ⟨A, c, rfl, -, -, -, hI⟩ := own_open ho
            go_wp2_with fail
            refine (l15First_c _ _ _ _ hI (by rw [evenly_length (inB_iff.2 (by omega))]; omega)).mono ?_; rintro e w2 ⟨rfl, hb2⟩
            go_wp2_with fail
            go_ret
            exact ⟨by simp [leadOf, hm, show ¬ free < 0 by omega], hb1.trans hb2⟩
        · by_cases h6 : justify = 6
          · subst h6
            by_cases hneg : free < 0
            · go_enter Try.func28, Try.ntmps28
              go_wp2_with (first
                | (go_at_call 73; refine (l01In_c _ _ _ _).mono ?_; rintro e w' ⟨rfl, rfl⟩)
                | (go_at_call 74; refine (sFloorDiv_c _ _ _ hf).mono ?_; rintro e w' ⟨rfl, rfl⟩))
              go_ret
              exact ⟨by simp [leadOf, hm, hneg], Bel.refl w⟩
            · go_enter Try.func28, Try.ntmps28
              go_wp2_with (go_at_call 73; refine (l01In_c _ _ _ _).mono ?_; rintro e w' ⟨rfl, rfl⟩)
              refine (sEvenly_c _ _ _).mono ?_; rintro e w1 ⟨v, rfl, ho, hb1⟩
              obtain ⟨A, c, rfl, -, -, -, hI⟩ := own_open ho
              go_wp2_with fail
              refine (l15First_c _ _ _ _ hI (by rw [evenly_length (inB_iff.2 (by omega))]; omega)).mono ?_; rintro e w2 ⟨rfl, hb2⟩
              go_wp2_with fail
              go_ret
              exact ⟨by simp [leadOf, hm, show ¬ free < 0 by omega], hb1.trans hb2⟩
          · have e2 : (justify == 2) = false := by simp [h2]
            have e3 : (justify == 3) = false := by simp [h3]
            have e5 : (justify == 5) = false := by simp [h5]
            have e6 : (justify == 6) = false := by simp [h6]
            go_enter Try.func28, Try.ntmps28
            go_wp2_with (go_at_call 73; refine (l01In_c _ _ _ _).mono ?_; rintro e w' ⟨rfl, rfl⟩)
            go_ret
            exact ⟨by simp [leadOf, hm, h2, h3, h5, h6], Bel.refl w⟩
set_option maxRecDepth 100000 in
set_option maxHeartbeats 2000000 in
theorem iLeadOf_c (free many justify : Int) (w : World) (hf : -9223372036854775808 ≤ free ∧ free ≤ 9223372036854775807) :
    Calls Try.prog 25 #[.int .i64 free, .int .i64 many, .int .i64 justify] w fun r w' => r = .returned (.int .i64 (leadOf free many justify)) ∧ Bel w w' := by
  cases hm : inB many 1 12 with
  | false =>
    go_enter Try.func25, Try.ntmps25
    go_wp2_with (go_at_call 68; refine (in_c _ _ _ _).mono ?_; rintro e w' ⟨rfl, rfl⟩)
    go_ret
    exact ⟨by simp [leadOf, hm], Bel.refl w⟩
  | true =>
    have hb := inB_iff.1 hm
    by_cases h2 : justify = 2
    · subst h2
      go_enter Try.func25, Try.ntmps25
      go_wp2_with (go_at_call 68; refine (in_c _ _ _ _).mono ?_; rintro e w' ⟨rfl, rfl⟩)
      go_ret
      exact ⟨by simp [leadOf, hm], Bel.refl w⟩
    · by_cases h3 : justify = 3
      · subst h3
        go_enter Try.func25, Try.ntmps25
        go_wp2_with (first
          | (go_at_call 68; refine (in_c _ _ _ _).mono ?_; rintro e w' ⟨rfl, rfl⟩)
          | (go_at_call 69; refine (iFloorDiv_c _ _ _ hf).mono ?_; rintro e w' ⟨rfl, rfl⟩))
        go_ret
        exact ⟨by simp [leadOf, hm], Bel.refl w⟩
      · by_cases h5 : justify = 5
        · subst h5
          by_cases hneg : free < 0
          · go_enter Try.func25, Try.ntmps25
            go_wp2_with (first
              | (go_at_call 68; refine (in_c _ _ _ _).mono ?_; rintro e w' ⟨rfl, rfl⟩)
              | (go_at_call 69; refine (iFloorDiv_c _ _ _ hf).mono ?_; rintro e w' ⟨rfl, rfl⟩))
            go_ret
            exact ⟨by simp [leadOf, hm, hneg], Bel.refl w⟩
          · go_enter Try.func25, Try.ntmps25
            go_wp2_with (go_at_call 68; refine (in_c _ _ _ _).mono ?_; rintro e w' ⟨rfl, rfl⟩)
            refine (iEvenly_c _ _ _).mono ?_; rintro e w1 ⟨v, rfl, ho, hb1⟩
            have hl : 0 < (evenly free (2 * many)).length := by rw [evenly_length (inB_iff.2 (by omega))]; omega
            obtain ⟨A, c, rfl, -, -, -, hI⟩ := own_open ho
            obtain ⟨b, o, rfl, hbl, hc⟩ := hI 0 hl
            have hcA : w1.cell? ⟨b, o, none⟩ = some (.int .i64 (at_ (evenly free (2 * many)) 0)) := hc 0 hl
            have hpos : (0 : Int) < ((evenly free (2 * many)).length : Int) := by omega
            clear hc
            go_wp2_with fail
            go_ret
            exact ⟨by simp [leadOf, hm, show ¬ free < 0 by omega], hb1⟩
        · by_cases h6 : justify = 6
          · subst h6
            by_cases hneg : free < 0
            · go_enter Try.func25, Try.ntmps25
              go_wp2_with (first
                | (go_at_call 68; refine (in_c _ _ _ _).mono ?_; rintro e w' ⟨rfl, rfl⟩)
                | (go_at_call 69; refine (iFloorDiv_c _ _ _ hf).mono ?_; rintro e w' ⟨rfl, rfl⟩))
              go_ret
              exact ⟨by simp [leadOf, hm, hneg], Bel.refl w⟩
            · go_enter Try.func25, Try.ntmps25
              go_wp2_with (go_at_call 68; refine (in_c _ _ _ _).mono ?_; rintro e w' ⟨rfl, rfl⟩)
              refine (iEvenly_c _ _ _).mono ?_; rintro e w1 ⟨v, rfl, ho, hb1⟩
              have hl : 0 < (evenly free (many + 1)).length := by rw [evenly_length (inB_iff.2 (by omega))]; omega
              obtain ⟨A, c, rfl, -, -, -, hI⟩ := own_open ho
              obtain ⟨b, o, rfl, hbl, hc⟩ := hI 0 hl
              have hcA : w1.cell? ⟨b, o, none⟩ = some (.int .i64 (at_ (evenly free (many + 1)) 0)) := hc 0 hl
              have hpos : (0 : Int) < ((evenly free (many + 1)).length : Int) := by omega
              clear hc
              go_wp2_with fail
              go_ret
              exact ⟨by simp [leadOf, hm, show ¬ free < 0 by omega], hb1⟩
          · have e2 : (justify == 2) = false := by simp [h2]
            have e3 : (justify == 3) = false := by simp [h3]
            have e5 : (justify == 5) = false := by simp [h5]
            have e6 : (justify == 6) = false := by simp [h6]
            go_enter Try.func25, Try.ntmps25
            go_wp2_with (go_at_call 68; refine (in_c _ _ _ _).mono ?_; rintro e w' ⟨rfl, rfl⟩)
            all_goals (go_ret; exact ⟨by simp [leadOf, hm, h2, h3, h5, h6], Bel.refl w⟩)

/-! ### totals -/
def totalTo (zs : List Int) : Nat → Int
  | 0 => 0
  | k + 1 => totalTo zs k + signed (at_ zs k)
theorem totalTo_bd (zs : List Int) : ∀ k : Nat, -1048576 * (k : Int) ≤ totalTo zs k ∧ totalTo zs k ≤ 1048576 * (k : Int) := by
  intro k
  induction k with
  | zero => simp [totalTo]
  | succ k ih =>
    have := signed_bd (at_ zs k)
    simp only [totalTo]
    omega
def crossTotal (zs : List Int) (gap : Int) : Int := if zs.length = 0 then 0 else wrap64 (totalTo zs zs.length + wrap64 (gap * ((zs.length : Int) - 1)))

end Go.Proofs.Ytmipjhnjlpmidaa
