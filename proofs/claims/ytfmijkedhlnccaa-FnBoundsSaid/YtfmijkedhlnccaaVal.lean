/- Values (a kind and a number) against a base, both texts: Known, LengthOf, SizeOf, OrElse, pick. -/
import Derived.Test.YtfmijkedhlnccaaLayB
import Derived.Test.YtfmijkedhlnccaaShares
namespace Go.Proofs.Ytfmijkedhlnccaa
open Go.RowKit Go.ChangeShapes Go.WideShapes
set_option linter.unusedVariables false
set_option linter.unusedSimpArgs false

abbrev valV (a b : Int) : Value := .agg #[.int .i64 a, .int .i64 b]
def known (a base : Int) : Bool := a == 1 || (a == 2 && decide (0 ≤ base))
def lenOf (a b base : Int) : Int := if known a base = true then (if a = 1 then b else floorDiv (clamped base * brought b (-1000000) 1000000) 100) else -1
def sizOf (a b base : Int) : Int := if known a base = true then clamped (lenOf a b base) else -1
def orElse (n b : Int) : Int := if n = -1 then b else n
theorem mul_bd2 {c d C D : Int} (hc : 0 ≤ c ∧ c ≤ C) (hd : -D ≤ d ∧ d ≤ D) (hD : 0 ≤ D) : -(C * D) ≤ c * d ∧ c * d ≤ C * D := by
  have h1 : c * d ≤ c * D := Int.mul_le_mul_of_nonneg_left hd.2 hc.1
  have h2 : c * D ≤ C * D := Int.mul_le_mul_of_nonneg_right hc.2 hD
  have h3 : c * (-D) ≤ c * d := Int.mul_le_mul_of_nonneg_left hd.1 hc.1
  have h4 : c * (-D) = -(c * D) := by rw [Int.mul_neg]
  omega
theorem lenMul (b base : Int) : -1048576000000 ≤ clamped base * brought b (-1000000) 1000000 ∧ clamped base * brought b (-1000000) 1000000 ≤ 1048576000000 := by
  have h1 := clamped_bd base
  have h2 := brought_bd b (-1000000) 1000000 (by omega)
  have := mul_bd2 (C := 1048576) (D := 1000000) h1 h2 (by omega)
  omega
theorem iClamped_s (n : Int) (w : World) : Calls Try.prog 25 #[.int .i64 n] w fun r w' => r = .returned (.int .i64 (clamped n)) ∧ w' = w := (iClamped_c n w).mono fun _ _ h => ⟨h.1, h.2.symm⟩
theorem iBrought_s (n a b : Int) (w : World) : Calls Try.prog 48 #[.int .i64 n, .int .i64 a, .int .i64 b] w fun r w' => r = .returned (.int .i64 (brought n a b)) ∧ w' = w := (iBrought_c n a b w).mono fun _ _ h => ⟨h.1, h.2.symm⟩
theorem iFloorDiv_s (a b : Int) (w : World) (ha : -9223372036854775808 ≤ a ∧ a ≤ 9223372036854775807) : Calls Try.prog 59 #[.int .i64 a, .int .i64 b] w fun r w' => r = .returned (.int .i64 (floorDiv a b)) ∧ w' = w := (iFloorDiv_c a b w ha).mono fun _ _ h => ⟨h.1, h.2.symm⟩
theorem sFloorDiv_s (a b : Int) (w : World) (ha : -9223372036854775808 ≤ a ∧ a ≤ 9223372036854775807) : Calls Try.prog 60 #[.int .i64 a, .int .i64 b] w fun r w' => r = .returned (.int .i64 (floorDiv a b)) ∧ w' = w := (sFloorDiv_c a b w ha).mono fun _ _ h => ⟨h.1, h.2.symm⟩
theorem l04N_s (b : Int) (w : World) : Calls Try.prog 65 #[.int .i64 b] w fun r w' => r = .returned (.int .i64 (brought b (-1000000) 1000000)) ∧ w' = w := by
  go_enter Try.func65, Try.ntmps65
  go_wp2_with (go_at_call 51; refine (sBrought_c _ _ _ _).mono ?_; rintro e w' ⟨rfl, rfl⟩)
  go_ret
  exact ⟨rfl, rfl⟩
set_option maxRecDepth 100000 in
set_option maxHeartbeats 400000 in
theorem iKnown_c (a b base : Int) (w : World) : Calls Try.prog 49 #[valV a b, .int .i64 base] w fun r w' => r = .returned (.bool (known a base)) ∧ Bel w w' := by
  go_enter Try.func49, Try.ntmps49
  go_wp2_with (fail)
  all_goals (go_ret; refine ⟨by (first | (simp_all [known]; done) | (simp_all [known]; omega)), ?_⟩)
  all_goals
    repeat (first | exact Bel.refl _ | assumption | refine Bel.alloc ?_ _ | refine Bel.drew ?_ | refine Bel.drewN ?_ _ | refine Bel.trans ?_ (by assumption) | refine Bel.setCell ?_ (by first | (simp; done) | (simp; omega) | (simp at *; omega)) _)
set_option maxRecDepth 100000 in
set_option maxHeartbeats 400000 in
theorem sKnown_c (a b base : Int) (w : World) : Calls Try.prog 52 #[valV a b, .int .i64 base] w fun r w' => r = .returned (.bool (known a base)) ∧ Bel w w' := by
  go_enter Try.func52, Try.ntmps52
  go_wp2_with (fail)
  all_goals (go_ret; refine ⟨by (first | (simp_all [known]; done) | (simp_all [known]; omega)), ?_⟩)
  all_goals
    repeat (first | exact Bel.refl _ | assumption | refine Bel.alloc ?_ _ | refine Bel.drew ?_ | refine Bel.drewN ?_ _ | refine Bel.trans ?_ (by assumption) | refine Bel.setCell ?_ (by first | (simp; done) | (simp; omega) | (simp at *; omega)) _)
theorem iOrElse_s (n b : Int) (w : World) : Calls Try.prog 27 #[.int .i64 n, .int .i64 b] w fun r w' => r = .returned (.int .i64 (orElse n b)) ∧ w' = w := by
  go_enter Try.func27, Try.ntmps27
  go_wp2
  all_goals (go_ret; exact ⟨by simp_all [orElse], rfl⟩)
theorem sOrElse_s (n b : Int) (w : World) : Calls Try.prog 32 #[.int .i64 n, .int .i64 b] w fun r w' => r = .returned (.int .i64 (orElse n b)) ∧ w' = w := by
  go_enter Try.func32, Try.ntmps32
  go_wp2
  all_goals (go_ret; exact ⟨by simp_all [orElse], rfl⟩)
set_option maxRecDepth 100000 in
set_option maxHeartbeats 1000000 in
theorem iLenOf_c (a b base : Int) (w : World) : Calls Try.prog 50 #[valV a b, .int .i64 base] w fun r w' => r = .returned (.int .i64 (lenOf a b base)) ∧ Bel w w' := by
  have hm := lenMul b base
  have hw : IntKind.i64.wrap (clamped base * brought b (-1000000) 1000000) = clamped base * brought b (-1000000) 1000000 := IntWalk.i64_in _ (by omega)
  have HL : Hid (lenOf a b base = if known a base = true then (if a = 1 then b else floorDiv (clamped base * brought b (-1000000) 1000000) 100) else -1) := hid' rfl
  obtain ⟨L, hL⟩ : ∃ v, lenOf a b base = v := ⟨_, rfl⟩
  rw [hL] at HL ⊢
  obtain ⟨kn, hkn⟩ : ∃ v, known a base = v := ⟨_, rfl⟩
  rw [hkn] at HL
  have HK := Lib.hid hkn
  clear hL hkn
  go_enter Try.func50, Try.ntmps50
  go_wp2_with fail
  refine (iKnown_c _ _ _ _).mono ?_; rintro e w1 ⟨rfl, hb1⟩
  rw [HK.out]
  have hB1 : Bel w w1 := Bel.trans (by repeat (first | exact Bel.refl _ | refine Bel.alloc ?_ _)) hb1
  have k0 := hb1.cell w.heap.size 0 (by simp)
  have k1 := hb1.cell w.heap.size 1 (by simp)
  simp at k0 k1
  cases kn
  · go_wp2_with fail
    go_ret
    exact ⟨by rw [HL.out]; rfl, hB1⟩
  · by_cases h1 : a = 1
    · subst h1
      go_wp2_with fail
      go_ret
      exact ⟨by rw [HL.out]; rfl, hB1⟩
    · go_wp2_with fail
      refine wp_region_still_lit (by kernel_rfl) (by kernel_rfl) ?_
      repeat (first | still_step | still_call (iClamped_s _ _) | still_call (iBrought_s _ _ _ _) | still_call (iFloorDiv_s _ _ _ (by omega)))
      (try refine wpStill_nil ?_)
      go_wp2_with fail
      go_ret
      have e := HL.out
      simp only [h1, if_true, if_false] at e
      exact ⟨by rw [e]; rfl, hB1.drew⟩
set_option maxRecDepth 100000 in
set_option maxHeartbeats 1000000 in
theorem sLenOf_c (a b base : Int) (w : World) : Calls Try.prog 53 #[valV a b, .int .i64 base] w fun r w' => r = .returned (.int .i64 (lenOf a b base)) ∧ Bel w w' := by
  have hm := lenMul b base
  have hw : IntKind.i64.wrap (clamped base * brought b (-1000000) 1000000) = clamped base * brought b (-1000000) 1000000 := IntWalk.i64_in _ (by omega)
  have HL : Hid (lenOf a b base = if known a base = true then (if a = 1 then b else floorDiv (clamped base * brought b (-1000000) 1000000) 100) else -1) := hid' rfl
  obtain ⟨L, hL⟩ : ∃ v, lenOf a b base = v := ⟨_, rfl⟩
  rw [hL] at HL ⊢
  obtain ⟨kn, hkn⟩ : ∃ v, known a base = v := ⟨_, rfl⟩
  rw [hkn] at HL
  have HK := Lib.hid hkn
  clear hL hkn
  go_enter Try.func53, Try.ntmps53
  go_wp2_with fail
  refine (sKnown_c _ _ _ _).mono ?_; rintro e w1 ⟨rfl, hb1⟩
  rw [HK.out]
  have hB1 : Bel w w1 := Bel.trans (by repeat (first | exact Bel.refl _ | refine Bel.alloc ?_ _)) hb1
  have k0 := hb1.cell w.heap.size 0 (by simp)
  have k1 := hb1.cell w.heap.size 1 (by simp)
  simp at k0 k1
  cases kn
  · go_wp2_with fail
    go_ret
    exact ⟨by rw [HL.out]; rfl, hB1⟩
  · by_cases h1 : a = 1
    · subst h1
      go_wp2_with fail
      go_ret
      exact ⟨by rw [HL.out]; rfl, hB1⟩
    · go_wp2_with fail
      refine wp_region_still_lit (by kernel_rfl) (by kernel_rfl) ?_
      repeat (first | still_step | still_call (sClamped_s _ _) | still_call (l04N_s _ _) | still_call (sFloorDiv_s _ _ _ (by omega)))
      (try refine wpStill_nil ?_)
      go_wp2_with fail
      go_ret
      have e := HL.out
      simp only [h1, if_true, if_false] at e
      exact ⟨by rw [e]; rfl, hB1.drew⟩
set_option maxRecDepth 100000 in
set_option maxHeartbeats 1000000 in
theorem iSizOf_c (a b base : Int) (w : World) : Calls Try.prog 28 #[valV a b, .int .i64 base] w fun r w' => r = .returned (.int .i64 (sizOf a b base)) ∧ Bel w w' := by
  have HL : Hid (sizOf a b base = if known a base = true then clamped (lenOf a b base) else -1) := hid' rfl
  obtain ⟨L, hL⟩ : ∃ v, sizOf a b base = v := ⟨_, rfl⟩
  rw [hL] at HL ⊢
  obtain ⟨kn, hkn⟩ : ∃ v, known a base = v := ⟨_, rfl⟩
  rw [hkn] at HL
  have HK := Lib.hid hkn
  clear hL hkn
  go_enter Try.func28, Try.ntmps28
  go_wp2_with fail
  refine (iKnown_c _ _ _ _).mono ?_; rintro e w1 ⟨rfl, hb1⟩
  rw [HK.out]
  have hB1 : Bel w w1 := Bel.trans (by repeat (first | exact Bel.refl _ | refine Bel.alloc ?_ _)) hb1
  have k0 := hb1.cell w.heap.size 0 (by simp)
  have k1 := hb1.cell w.heap.size 1 (by simp)
  simp at k0 k1
  cases kn
  · go_wp2_with fail
    go_ret
    exact ⟨by rw [HL.out]; rfl, hB1⟩
  · go_wp2_with fail
    refine (iLenOf_c _ _ _ _).mono ?_; rintro e w2 ⟨rfl, hb2⟩
    go_wp2_with fail
    refine (iClamped_s _ _).mono ?_; rintro e w3 ⟨rfl, rfl⟩
    go_wp2_with fail
    go_ret
    exact ⟨by rw [HL.out]; rfl, hB1.trans hb2⟩
set_option maxRecDepth 100000 in
set_option maxHeartbeats 1000000 in
theorem sSizOf_c (a b base : Int) (w : World) : Calls Try.prog 33 #[valV a b, .int .i64 base] w fun r w' => r = .returned (.int .i64 (sizOf a b base)) ∧ Bel w w' := by
  have HL : Hid (sizOf a b base = if known a base = true then clamped (lenOf a b base) else -1) := hid' rfl
  obtain ⟨L, hL⟩ : ∃ v, sizOf a b base = v := ⟨_, rfl⟩
  rw [hL] at HL ⊢
  obtain ⟨kn, hkn⟩ : ∃ v, known a base = v := ⟨_, rfl⟩
  rw [hkn] at HL
  have HK := Lib.hid hkn
  clear hL hkn
  go_enter Try.func33, Try.ntmps33
  go_wp2_with fail
  refine (sKnown_c _ _ _ _).mono ?_; rintro e w1 ⟨rfl, hb1⟩
  rw [HK.out]
  have hB1 : Bel w w1 := Bel.trans (by repeat (first | exact Bel.refl _ | refine Bel.alloc ?_ _)) hb1
  have k0 := hb1.cell w.heap.size 0 (by simp)
  have k1 := hb1.cell w.heap.size 1 (by simp)
  simp at k0 k1
  cases kn
  · go_wp2_with fail
    go_ret
    exact ⟨by rw [HL.out]; rfl, hB1⟩
  · go_wp2_with fail
    refine (sLenOf_c _ _ _ _).mono ?_; rintro e w2 ⟨rfl, hb2⟩
    go_wp2_with fail
    refine (sClamped_s _ _).mono ?_; rintro e w3 ⟨rfl, rfl⟩
    go_wp2_with fail
    go_ret
    exact ⟨by rw [HL.out]; rfl, hB1.trans hb2⟩
set_option maxRecDepth 100000 in
set_option maxHeartbeats 1000000 in
theorem iPick_c (t : Bool) (a b c d : Int) (w : World) : Calls Try.prog 29 #[.bool t, valV a b, valV c d] w fun r w' => r = .returned (valV (if t = true then a else c) (if t = true then b else d)) ∧ Bel w w' := by
  cases t
  all_goals
    go_enter Try.func29, Try.ntmps29
    go_wp2_with fail
  · refine bodyPost_ret (v := valV c d) (by simp [results, Try.results29, go_sem]) rfl ⟨rfl, ?_⟩
    repeat (first | exact Bel.refl _ | assumption | refine Bel.alloc ?_ _ | refine Bel.drew ?_ | refine Bel.drewN ?_ _ | refine Bel.trans ?_ (by assumption) | refine Bel.setCell ?_ (by first | (simp; done) | (simp; omega) | (simp at *; omega)) _)
  · refine bodyPost_ret (v := valV a b) (by simp [results, Try.results29, go_sem]) rfl ⟨rfl, ?_⟩
    repeat (first | exact Bel.refl _ | assumption | refine Bel.alloc ?_ _ | refine Bel.drew ?_ | refine Bel.drewN ?_ _ | refine Bel.trans ?_ (by assumption) | refine Bel.setCell ?_ (by first | (simp; done) | (simp; omega) | (simp at *; omega)) _)
set_option maxRecDepth 100000 in
set_option maxHeartbeats 1000000 in
theorem sPick_c (t : Bool) (a b c d : Int) (w : World) : Calls Try.prog 34 #[.bool t, valV a b, valV c d] w fun r w' => r = .returned (valV (if t = true then a else c) (if t = true then b else d)) ∧ Bel w w' := by
  cases t
  all_goals
    go_enter Try.func34, Try.ntmps34
    go_wp2_with fail
  · refine bodyPost_ret (v := valV c d) (by simp [results, Try.results34, go_sem]) rfl ⟨rfl, ?_⟩
    repeat (first | exact Bel.refl _ | assumption | refine Bel.alloc ?_ _ | refine Bel.drew ?_ | refine Bel.drewN ?_ _ | refine Bel.trans ?_ (by assumption) | refine Bel.setCell ?_ (by first | (simp; done) | (simp; omega) | (simp at *; omega)) _)
  · refine bodyPost_ret (v := valV a b) (by simp [results, Try.results34, go_sem]) rfl ⟨rfl, ?_⟩
    repeat (first | exact Bel.refl _ | assumption | refine Bel.alloc ?_ _ | refine Bel.drew ?_ | refine Bel.drewN ?_ _ | refine Bel.trans ?_ (by assumption) | refine Bel.setCell ?_ (by first | (simp; done) | (simp; omega) | (simp at *; omega)) _)
end Go.Proofs.Ytfmijkedhlnccaa
