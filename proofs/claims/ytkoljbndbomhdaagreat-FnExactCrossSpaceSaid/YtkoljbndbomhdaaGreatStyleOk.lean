/- ValueOk, sizes, sides, edges and StyleOk, both sides. -/
import Derived.Test.YtkoljbndbomhdaaGreatBox
import Derived.Test.YtkoljbndbomhdaaGreatTreeD
namespace Go.Proofs.YtkoljbndbomhdaaGreat
open Go.RowKit Go.ChangeShapes Go.WideShapes
set_option linter.unusedVariables false
set_option linter.unusedSimpArgs false

set_option maxRecDepth 100000 in
set_option maxHeartbeats 1000000 in
theorem iValueOk_c (r : Rec) (o : Nat) (w : World) : Calls Tryz.prog 93 #[valueV r o] w fun e w' => e = .returned (.bool (vOk r o)) ∧ Bel w w' := by
  unfold valueV vOk
  obtain ⟨k, hk⟩ : ∃ k, k = r.s o := ⟨_, rfl⟩
  obtain ⟨n, hn⟩ : ∃ n, n = r.s (o + 1) := ⟨_, rfl⟩
  rw [← hk, ← hn]
  clear hk hn
  by_cases h0 : k = 0
  · subst h0
    go_enter Tryz.func93, Tryz.ntmps93
    go_wp2_with (go_at_call 58; refine (in_c _ _ _ _).mono ?_; rintro e w' ⟨rfl, rfl⟩)
    go_ret
    refine ⟨by simp [valueOk], ?_⟩
    repeat (first | exact Bel.refl _ | assumption | refine Bel.alloc ?_ _ | refine Bel.drew ?_ | refine Bel.drewN ?_ _ | refine Bel.trans ?_ (by assumption) | refine Bel.setCell ?_ (by first | (simp; done) | (simp; omega) | (simp at *; omega)) _)
  · by_cases h3 : k = 3
    · subst h3
      go_enter Tryz.func93, Tryz.ntmps93
      go_wp2_with (go_at_call 58; refine (in_c _ _ _ _).mono ?_; rintro e w' ⟨rfl, rfl⟩)
      go_ret
      refine ⟨by simp [valueOk], ?_⟩
      repeat (first | exact Bel.refl _ | assumption | refine Bel.alloc ?_ _ | refine Bel.drew ?_ | refine Bel.drewN ?_ _ | refine Bel.trans ?_ (by assumption) | refine Bel.setCell ?_ (by first | (simp; done) | (simp; omega) | (simp at *; omega)) _)
    · by_cases h1 : k = 1
      · subst h1
        go_enter Tryz.func93, Tryz.ntmps93
        go_wp2_with (go_at_call 58; refine (in_c _ _ _ _).mono ?_; rintro e w' ⟨rfl, rfl⟩)
        go_ret
        refine ⟨by simp [valueOk], ?_⟩
        repeat (first | exact Bel.refl _ | assumption | refine Bel.alloc ?_ _ | refine Bel.drew ?_ | refine Bel.drewN ?_ _ | refine Bel.trans ?_ (by assumption) | refine Bel.setCell ?_ (by first | (simp; done) | (simp; omega) | (simp at *; omega)) _)
      · by_cases h2 : k = 2
        · subst h2
          go_enter Tryz.func93, Tryz.ntmps93
          go_wp2_with (go_at_call 58; refine (in_c _ _ _ _).mono ?_; rintro e w' ⟨rfl, rfl⟩)
          go_ret
          refine ⟨by simp [valueOk], ?_⟩
          repeat (first | exact Bel.refl _ | assumption | refine Bel.alloc ?_ _ | refine Bel.drew ?_ | refine Bel.drewN ?_ _ | refine Bel.trans ?_ (by assumption) | refine Bel.setCell ?_ (by first | (simp; done) | (simp; omega) | (simp at *; omega)) _)
        · have e0 : (k == 0) = false := by simp [h0]
          have e3 : (k == 3) = false := by simp [h3]
          have e1 : (k == 1) = false := by simp [h1]
          have e2 : (k == 2) = false := by simp [h2]
          have HR : Hid (false = valueOk k n) := hid' (by simp [valueOk, h0, h1, h2, h3])
          clear h0 h1 h2 h3
          go_enter Tryz.func93, Tryz.ntmps93
          go_wp2_with (go_at_call 58; refine (in_c _ _ _ _).mono ?_; rintro e w' ⟨rfl, rfl⟩)
          go_ret
          refine ⟨by (show Ending.returned (.bool false) = _; rw [HR.out]), ?_⟩
          repeat (first | exact Bel.refl _ | assumption | refine Bel.alloc ?_ _ | refine Bel.drew ?_ | refine Bel.drewN ?_ _ | refine Bel.trans ?_ (by assumption) | refine Bel.setCell ?_ (by first | (simp; done) | (simp; omega) | (simp at *; omega)) _)
set_option maxRecDepth 100000 in
set_option maxHeartbeats 1000000 in
theorem sValueOk_c (r : Rec) (o : Nat) (w : World) : Calls Tryz.prog 91 #[valueV r o] w fun e w' => e = .returned (.bool (vOk r o)) ∧ Bel w w' := by
  unfold valueV vOk
  obtain ⟨k, hk⟩ : ∃ k, k = r.s o := ⟨_, rfl⟩
  obtain ⟨n, hn⟩ : ∃ n, n = r.s (o + 1) := ⟨_, rfl⟩
  rw [← hk, ← hn]
  clear hk hn
  by_cases h0 : k = 0
  · subst h0
    go_enter Tryz.func91, Tryz.ntmps91
    go_wp2_with (go_at_call 46; refine (l01In_c _ _ _ _).mono ?_; rintro e w' ⟨rfl, rfl⟩)
    go_ret
    refine ⟨by simp [valueOk], ?_⟩
    repeat (first | exact Bel.refl _ | assumption | refine Bel.alloc ?_ _ | refine Bel.drew ?_ | refine Bel.drewN ?_ _ | refine Bel.trans ?_ (by assumption) | refine Bel.setCell ?_ (by first | (simp; done) | (simp; omega) | (simp at *; omega)) _)
  · by_cases h3 : k = 3
    · subst h3
      go_enter Tryz.func91, Tryz.ntmps91
      go_wp2_with (go_at_call 46; refine (l01In_c _ _ _ _).mono ?_; rintro e w' ⟨rfl, rfl⟩)
      go_ret
      refine ⟨by simp [valueOk], ?_⟩
      repeat (first | exact Bel.refl _ | assumption | refine Bel.alloc ?_ _ | refine Bel.drew ?_ | refine Bel.drewN ?_ _ | refine Bel.trans ?_ (by assumption) | refine Bel.setCell ?_ (by first | (simp; done) | (simp; omega) | (simp at *; omega)) _)
    · by_cases h1 : k = 1
      · subst h1
        go_enter Tryz.func91, Tryz.ntmps91
        go_wp2_with (go_at_call 46; refine (l01In_c _ _ _ _).mono ?_; rintro e w' ⟨rfl, rfl⟩)
        go_ret
        refine ⟨by simp [valueOk], ?_⟩
        repeat (first | exact Bel.refl _ | assumption | refine Bel.alloc ?_ _ | refine Bel.drew ?_ | refine Bel.drewN ?_ _ | refine Bel.trans ?_ (by assumption) | refine Bel.setCell ?_ (by first | (simp; done) | (simp; omega) | (simp at *; omega)) _)
      · by_cases h2 : k = 2
        · subst h2
          go_enter Tryz.func91, Tryz.ntmps91
          go_wp2_with (go_at_call 46; refine (l01In_c _ _ _ _).mono ?_; rintro e w' ⟨rfl, rfl⟩)
          go_ret
          refine ⟨by simp [valueOk], ?_⟩
          repeat (first | exact Bel.refl _ | assumption | refine Bel.alloc ?_ _ | refine Bel.drew ?_ | refine Bel.drewN ?_ _ | refine Bel.trans ?_ (by assumption) | refine Bel.setCell ?_ (by first | (simp; done) | (simp; omega) | (simp at *; omega)) _)
        · have e0 : (k == 0) = false := by simp [h0]
          have e3 : (k == 3) = false := by simp [h3]
          have e1 : (k == 1) = false := by simp [h1]
          have e2 : (k == 2) = false := by simp [h2]
          have HR : Hid (false = valueOk k n) := hid' (by simp [valueOk, h0, h1, h2, h3])
          clear h0 h1 h2 h3
          go_enter Tryz.func91, Tryz.ntmps91
          go_wp2_with (go_at_call 46; refine (l01In_c _ _ _ _).mono ?_; rintro e w' ⟨rfl, rfl⟩)
          go_ret
          refine ⟨by (show Ending.returned (.bool false) = _; rw [HR.out]), ?_⟩
          repeat (first | exact Bel.refl _ | assumption | refine Bel.alloc ?_ _ | refine Bel.drew ?_ | refine Bel.drewN ?_ _ | refine Bel.trans ?_ (by assumption) | refine Bel.setCell ?_ (by first | (simp; done) | (simp; omega) | (simp at *; omega)) _)
set_option maxRecDepth 100000 in
set_option maxHeartbeats 1000000 in
theorem iSizeOk_c (r : Rec) (o : Nat) (w : World) : Calls Tryz.prog 79 #[valueV r o] w fun e w' => e = .returned (.bool (zOk r o)) ∧ Bel w w' := by
  have hv : valueV r o = .agg #[.int .i64 (r.s o), .int .i64 (r.s (o + 1))] := rfl
  rw [hv]
  have HV := hid' hv
  clear hv
  go_enter Tryz.func79, Tryz.ntmps79
  go_wp2_with fail
  rw [← HV.out]
  refine (iValueOk_c r o _).mono ?_; rintro e w1 ⟨rfl, hb1⟩
  have HB : Hid (Bel w w1) := hid' (((Bel.refl w).alloc _).trans hb1)
  have hc1 : w1.cell? ⟨w.heap.size, 1, none⟩ = some (.int .i64 (r.s (o + 1))) := (hb1.cell _ _ (by simp)).trans (by simp)
  cases hq : vOk r o
  · have HR : Hid (false = zOk r o) := hid' (by simp only [zOk, sizeOk]; unfold vOk at hq; rw [hq]; rfl)
    go_wp2_with fail
    go_ret
    exact ⟨by (show Ending.returned (.bool false) = _; rw [HR.out]), HB.out⟩
  · have HR : Hid (decide (0 ≤ r.s (o + 1)) = zOk r o) := hid' (by simp only [zOk, sizeOk]; unfold vOk at hq; rw [hq]; rfl)
    go_wp2_with fail
    go_ret
    exact ⟨by (show Ending.returned (.bool (decide (0 ≤ r.s (o + 1)))) = _; rw [HR.out]), HB.out⟩
set_option maxRecDepth 100000 in
set_option maxHeartbeats 1000000 in
theorem sSizeOk_c (r : Rec) (o : Nat) (w : World) : Calls Tryz.prog 70 #[valueV r o] w fun e w' => e = .returned (.bool (zOk r o)) ∧ Bel w w' := by
  have hv : valueV r o = .agg #[.int .i64 (r.s o), .int .i64 (r.s (o + 1))] := rfl
  rw [hv]
  have HV := hid' hv
  clear hv
  go_enter Tryz.func70, Tryz.ntmps70
  go_wp2_with fail
  rw [← HV.out]
  refine (sValueOk_c r o _).mono ?_; rintro e w1 ⟨rfl, hb1⟩
  have HB : Hid (Bel w w1) := hid' (((Bel.refl w).alloc _).trans hb1)
  have hc1 : w1.cell? ⟨w.heap.size, 1, none⟩ = some (.int .i64 (r.s (o + 1))) := (hb1.cell _ _ (by simp)).trans (by simp)
  cases hq : vOk r o
  · have HR : Hid (false = zOk r o) := hid' (by simp only [zOk, sizeOk]; unfold vOk at hq; rw [hq]; rfl)
    go_wp2_with fail
    go_ret
    exact ⟨by (show Ending.returned (.bool false) = _; rw [HR.out]), HB.out⟩
  · have HR : Hid (decide (0 ≤ r.s (o + 1)) = zOk r o) := hid' (by simp only [zOk, sizeOk]; unfold vOk at hq; rw [hq]; rfl)
    go_wp2_with fail
    go_ret
    exact ⟨by (show Ending.returned (.bool (decide (0 ≤ r.s (o + 1)))) = _; rw [HR.out]), HB.out⟩
set_option maxRecDepth 100000 in
set_option maxHeartbeats 1000000 in
theorem iEdgesOk_c (r : Rec) (o : Nat) (w : World) : Calls Tryz.prog 81 #[edgesV r o] w fun e w' => e = .returned (.bool (edgesOk r o)) ∧ Bel w w' := by
  unfold edgesV
  go_enter Tryz.func81, Tryz.ntmps81
  go_wp2_with (go_at_call 58; refine (in_c _ _ _ _).mono ?_; rintro e w' ⟨rfl, rfl⟩)
  all_goals (go_ret; refine ⟨by simp [*, edgesOk], ?_⟩)
  all_goals
    repeat (first | exact Bel.refl _ | assumption | refine Bel.alloc ?_ _ | refine Bel.drew ?_ | refine Bel.drewN ?_ _ | refine Bel.trans ?_ (by assumption) | refine Bel.setCell ?_ (by first | (simp; done) | (simp; omega) | (simp at *; omega)) _)
set_option maxRecDepth 100000 in
set_option maxHeartbeats 1000000 in
theorem sEdgesOk_c (r : Rec) (o : Nat) (w : World) : Calls Tryz.prog 72 #[edgesV r o] w fun e w' => e = .returned (.bool (edgesOk r o)) ∧ Bel w w' := by
  unfold edgesV
  go_enter Tryz.func72, Tryz.ntmps72
  go_wp2_with (go_at_call 46; refine (l01In_c _ _ _ _).mono ?_; rintro e w' ⟨rfl, rfl⟩)
  all_goals (go_ret; refine ⟨by simp [*, edgesOk], ?_⟩)
  all_goals
    repeat (first | exact Bel.refl _ | assumption | refine Bel.alloc ?_ _ | refine Bel.drew ?_ | refine Bel.drewN ?_ _ | refine Bel.trans ?_ (by assumption) | refine Bel.setCell ?_ (by first | (simp; done) | (simp; omega) | (simp at *; omega)) _)
set_option maxRecDepth 100000 in
set_option maxHeartbeats 4000000 in
theorem iSidesOk_c (r : Rec) (o : Nat) (w : World) : Calls Tryz.prog 80 #[sidesV r o] w fun e w' => e = .returned (.bool (sidesOk r o)) ∧ Bel w w' := by
  obtain ⟨W, hW⟩ : ∃ W, W = w.alloc (.cells (match sidesV r o with | .agg a => a | _ => #[]) 43) := ⟨_, rfl⟩
  simp only [sidesV] at hW
  have HWB := hid' (show Bel w W from by rw [hW]; exact (Bel.refl w).alloc _)
  have HC : Hid (∀ u, Bel W u → ∀ j, u.cell? ⟨w.heap.size, j, none⟩ = W.cell? ⟨w.heap.size, j, none⟩) := hid' (fun u hu j => hu.cell _ _ (by rw [hW]; simp))
  have HQ : Hid (∀ j v, #[Value.int .i64 (r.s o), .int .i64 (r.s (o + 1)), .int .i64 (r.s (o + 2)), .int .i64 (r.s (o + 3)), .int .i64 (r.s (o + 4)), .int .i64 (r.s (o + 5)), .int .i64 (r.s (o + 6)), .int .i64 (r.s (o + 7)), .int .i64 (r.s (o + 8)), .int .i64 (r.s (o + 9)), .int .i64 (r.s (o + 10)), .int .i64 (r.s (o + 11))][j]? = some v → W.cell? ⟨w.heap.size, j, none⟩ = some v) := hid' (fun j v h => by rw [hW, World.cell?_alloc_new]; exact h)
  have q0 := HQ.out 0 _ rfl
  have q1 := HQ.out 1 _ rfl
  have q2 := HQ.out 2 _ rfl
  have q3 := HQ.out 3 _ rfl
  have q4 := HQ.out 4 _ rfl
  have q5 := HQ.out 5 _ rfl
  have q6 := HQ.out 6 _ rfl
  have q7 := HQ.out 7 _ rfl
  have q8 := HQ.out 8 _ rfl
  have q9 := HQ.out 9 _ rfl
  have q10 := HQ.out 10 _ rfl
  have q11 := HQ.out 11 _ rfl
  have HB := hid' (Bel.refl W)
  unfold sidesV
  go_enter Tryz.func80, Tryz.ntmps80
  go_wp2_with fail
  rw [← hW]
  clear hW
  go_wp2_with (go_at_call 93; refine (iValueOk_c r _ _).mono ?_; rintro e w2 ⟨rfl, hb2⟩; replace HB := hid' (HB.out.trans hb2); have K := HC.out _ HB.out; clear hb2)
  all_goals (go_ret; exact ⟨by simp [*, sidesOk], HWB.out.trans HB.out⟩)
set_option maxRecDepth 100000 in
set_option maxHeartbeats 4000000 in
theorem sSidesOk_c (r : Rec) (o : Nat) (w : World) : Calls Tryz.prog 71 #[sidesV r o] w fun e w' => e = .returned (.bool (sidesOk r o)) ∧ Bel w w' := by
  obtain ⟨W, hW⟩ : ∃ W, W = w.alloc (.cells (match sidesV r o with | .agg a => a | _ => #[]) 43) := ⟨_, rfl⟩
  simp only [sidesV] at hW
  have HWB := hid' (show Bel w W from by rw [hW]; exact (Bel.refl w).alloc _)
  have HC : Hid (∀ u, Bel W u → ∀ j, u.cell? ⟨w.heap.size, j, none⟩ = W.cell? ⟨w.heap.size, j, none⟩) := hid' (fun u hu j => hu.cell _ _ (by rw [hW]; simp))
  have HQ : Hid (∀ j v, #[Value.int .i64 (r.s o), .int .i64 (r.s (o + 1)), .int .i64 (r.s (o + 2)), .int .i64 (r.s (o + 3)), .int .i64 (r.s (o + 4)), .int .i64 (r.s (o + 5)), .int .i64 (r.s (o + 6)), .int .i64 (r.s (o + 7)), .int .i64 (r.s (o + 8)), .int .i64 (r.s (o + 9)), .int .i64 (r.s (o + 10)), .int .i64 (r.s (o + 11))][j]? = some v → W.cell? ⟨w.heap.size, j, none⟩ = some v) := hid' (fun j v h => by rw [hW, World.cell?_alloc_new]; exact h)
  have q0 := HQ.out 0 _ rfl
  have q1 := HQ.out 1 _ rfl
  have q2 := HQ.out 2 _ rfl
  have q3 := HQ.out 3 _ rfl
  have q4 := HQ.out 4 _ rfl
  have q5 := HQ.out 5 _ rfl
  have q6 := HQ.out 6 _ rfl
  have q7 := HQ.out 7 _ rfl
  have q8 := HQ.out 8 _ rfl
  have q9 := HQ.out 9 _ rfl
  have q10 := HQ.out 10 _ rfl
  have q11 := HQ.out 11 _ rfl
  have HB := hid' (Bel.refl W)
  unfold sidesV
  go_enter Tryz.func71, Tryz.ntmps71
  go_wp2_with fail
  rw [← hW]
  clear hW
  go_wp2_with (go_at_call 91; refine (sValueOk_c r _ _).mono ?_; rintro e w2 ⟨rfl, hb2⟩; replace HB := hid' (HB.out.trans hb2); have K := HC.out _ HB.out; clear hb2)
  all_goals (go_ret; exact ⟨by simp [*, sidesOk], HWB.out.trans HB.out⟩)
set_option maxRecDepth 100000 in
set_option maxHeartbeats 16000000 in
theorem sStyleOk_c (r : Rec) (w : World) : Calls Tryz.prog 45 #[styleV r] w fun e w' => e = .returned (.bool (styleOk r)) ∧ Bel w w' := by
  obtain ⟨W, hW⟩ : ∃ W, W = w.alloc (.cells (rcells k_style r).toArray 47) := ⟨_, rfl⟩
  have HWB := hid' (show Bel w W from by rw [hW]; exact (Bel.refl w).alloc _)
  have HC : Hid (∀ u, Bel W u → ∀ j, u.cell? ⟨w.heap.size, j, none⟩ = W.cell? ⟨w.heap.size, j, none⟩) := hid' (fun u hu j => hu.cell _ _ (by rw [hW]; simp))
  have HQ : Hid (∀ j v, (rcells k_style r)[j]? = some v → W.cell? ⟨w.heap.size, j, none⟩ = some v) := hid' (fun j v h => by rw [hW, World.cell?_alloc_new]; simpa using h)
  have hl : (rcells k_style r).length = 60 := rcells_length _ _
  have HB := hid' (Bel.refl W)
  have hS : styleV r = .agg (rcells k_style r).toArray := rfl
  rw [hS]
  clear hS
  have q0 := HQ.out 0 _ (rcells_int r (o := 0) rfl)
  have q1 := HQ.out 1 _ (rcells_int r (o := 1) rfl)
  have q2 := HQ.out 2 _ (rcells_int r (o := 2) rfl)
  have q3 := HQ.out 3 _ (rcells_int r (o := 3) rfl)
  have q4 := HQ.out 4 _ (rcells_int r (o := 4) rfl)
  have q5 := HQ.out 5 _ (rcells_int r (o := 5) rfl)
  have q6 := HQ.out 6 _ (rcells_bool r (o := 6) rfl)
  have q7 := HQ.out 7 _ (rcells_bool r (o := 7) rfl)
  have q8 := HQ.out 8 _ (rcells_int r (o := 8) rfl)
  have q9 := HQ.out 9 _ (rcells_int r (o := 9) rfl)
  have q10 := HQ.out 10 _ (rcells_int r (o := 10) rfl)
  have q11 := HQ.out 11 _ (rcells_int r (o := 11) rfl)
  have q12 := HQ.out 12 _ (rcells_int r (o := 12) rfl)
  have q13 := HQ.out 13 _ (rcells_int r (o := 13) rfl)
  have q14 := HQ.out 14 _ (rcells_int r (o := 14) rfl)
  have q15 := HQ.out 15 _ (rcells_int r (o := 15) rfl)
  have q16 := HQ.out 16 _ (rcells_int r (o := 16) rfl)
  have q17 := HQ.out 17 _ (rcells_int r (o := 17) rfl)
  have q18 := HQ.out 18 _ (rcells_int r (o := 18) rfl)
  have q19 := HQ.out 19 _ (rcells_int r (o := 19) rfl)
  have q20 := HQ.out 20 _ (rcells_int r (o := 20) rfl)
  have q21 := HQ.out 21 _ (rcells_int r (o := 21) rfl)
  have q22 := HQ.out 22 _ (rcells_int r (o := 22) rfl)
  have q23 := HQ.out 23 _ (rcells_int r (o := 23) rfl)
  have q24 := HQ.out 24 _ (rcells_int r (o := 24) rfl)
  have q25 := HQ.out 25 _ (rcells_int r (o := 25) rfl)
  have q26 := HQ.out 26 _ (rcells_int r (o := 26) rfl)
  have q27 := HQ.out 27 _ (rcells_int r (o := 27) rfl)
  have q28 := HQ.out 28 _ (rcells_int r (o := 28) rfl)
  have q29 := HQ.out 29 _ (rcells_int r (o := 29) rfl)
  have q30 := HQ.out 30 _ (rcells_int r (o := 30) rfl)
  have q31 := HQ.out 31 _ (rcells_int r (o := 31) rfl)
  have q32 := HQ.out 32 _ (rcells_int r (o := 32) rfl)
  have q33 := HQ.out 33 _ (rcells_int r (o := 33) rfl)
  have q34 := HQ.out 34 _ (rcells_int r (o := 34) rfl)
  have q35 := HQ.out 35 _ (rcells_int r (o := 35) rfl)
  have q36 := HQ.out 36 _ (rcells_int r (o := 36) rfl)
  have q37 := HQ.out 37 _ (rcells_int r (o := 37) rfl)
  have q38 := HQ.out 38 _ (rcells_int r (o := 38) rfl)
  have q39 := HQ.out 39 _ (rcells_int r (o := 39) rfl)
  have q40 := HQ.out 40 _ (rcells_int r (o := 40) rfl)
  have q41 := HQ.out 41 _ (rcells_int r (o := 41) rfl)
  have q42 := HQ.out 42 _ (rcells_int r (o := 42) rfl)
  have q43 := HQ.out 43 _ (rcells_int r (o := 43) rfl)
  have q44 := HQ.out 44 _ (rcells_int r (o := 44) rfl)
  have q45 := HQ.out 45 _ (rcells_int r (o := 45) rfl)
  have q46 := HQ.out 46 _ (rcells_int r (o := 46) rfl)
  have q47 := HQ.out 47 _ (rcells_int r (o := 47) rfl)
  have q48 := HQ.out 48 _ (rcells_int r (o := 48) rfl)
  have q49 := HQ.out 49 _ (rcells_int r (o := 49) rfl)
  have q50 := HQ.out 50 _ (rcells_int r (o := 50) rfl)
  have q51 := HQ.out 51 _ (rcells_int r (o := 51) rfl)
  have q52 := HQ.out 52 _ (rcells_int r (o := 52) rfl)
  have q53 := HQ.out 53 _ (rcells_int r (o := 53) rfl)
  have q54 := HQ.out 54 _ (rcells_int r (o := 54) rfl)
  have q55 := HQ.out 55 _ (rcells_int r (o := 55) rfl)
  have q56 := HQ.out 56 _ (rcells_int r (o := 56) rfl)
  have q57 := HQ.out 57 _ (rcells_int r (o := 57) rfl)
  have q58 := HQ.out 58 _ (rcells_int r (o := 58) rfl)
  have q59 := HQ.out 59 _ (rcells_int r (o := 59) rfl)
  go_enter Tryz.func45, Tryz.ntmps45
  go_wp2_with fail
  rw [← hW]
  clear hW
  go_wp2_with (first
    | (go_at_call 46; refine (l01In_c _ _ _ _).mono ?_; rintro e w' ⟨rfl, rfl⟩)
    | (go_at_call 70; refine (sSizeOk_c r _ _).mono ?_; rintro e w2 ⟨rfl, hb2⟩; replace HB := hid' (HB.out.trans hb2); have K := HC.out _ HB.out; clear hb2)
    | (go_at_call 71; refine (sSidesOk_c r _ _).mono ?_; rintro e w2 ⟨rfl, hb2⟩; replace HB := hid' (HB.out.trans hb2); have K := HC.out _ HB.out; clear hb2)
    | (go_at_call 72; refine (sEdgesOk_c r _ _).mono ?_; rintro e w2 ⟨rfl, hb2⟩; replace HB := hid' (HB.out.trans hb2); have K := HC.out _ HB.out; clear hb2))
  all_goals ((try simp only [Bool.not_eq_false', Bool.not_eq_true'] at *); go_ret; exact ⟨by simp [*, styleOk], HWB.out.trans HB.out⟩)
set_option maxRecDepth 100000 in
set_option maxHeartbeats 16000000 in
theorem iStyleOk_c (r : Rec) (w : World) : Calls Tryz.prog 57 #[styleV r] w fun e w' => e = .returned (.bool (styleOk r)) ∧ Bel w w' := by
  obtain ⟨W, hW⟩ : ∃ W, W = w.alloc (.cells (rcells k_style r).toArray 47) := ⟨_, rfl⟩
  have HWB := hid' (show Bel w W from by rw [hW]; exact (Bel.refl w).alloc _)
  have HC : Hid (∀ u, Bel W u → ∀ j, u.cell? ⟨w.heap.size, j, none⟩ = W.cell? ⟨w.heap.size, j, none⟩) := hid' (fun u hu j => hu.cell _ _ (by rw [hW]; simp))
  have HQ : Hid (∀ j v, (rcells k_style r)[j]? = some v → W.cell? ⟨w.heap.size, j, none⟩ = some v) := hid' (fun j v h => by rw [hW, World.cell?_alloc_new]; simpa using h)
  have hl : (rcells k_style r).length = 60 := rcells_length _ _
  have HB := hid' (Bel.refl W)
  have hS : styleV r = .agg (rcells k_style r).toArray := rfl
  rw [hS]
  clear hS
  have q0 := HQ.out 0 _ (rcells_int r (o := 0) rfl)
  have q1 := HQ.out 1 _ (rcells_int r (o := 1) rfl)
  have q2 := HQ.out 2 _ (rcells_int r (o := 2) rfl)
  have q3 := HQ.out 3 _ (rcells_int r (o := 3) rfl)
  have q4 := HQ.out 4 _ (rcells_int r (o := 4) rfl)
  have q5 := HQ.out 5 _ (rcells_int r (o := 5) rfl)
  have q6 := HQ.out 6 _ (rcells_bool r (o := 6) rfl)
  have q7 := HQ.out 7 _ (rcells_bool r (o := 7) rfl)
  have q8 := HQ.out 8 _ (rcells_int r (o := 8) rfl)
  have q9 := HQ.out 9 _ (rcells_int r (o := 9) rfl)
  have q10 := HQ.out 10 _ (rcells_int r (o := 10) rfl)
  have q11 := HQ.out 11 _ (rcells_int r (o := 11) rfl)
  have q12 := HQ.out 12 _ (rcells_int r (o := 12) rfl)
  have q13 := HQ.out 13 _ (rcells_int r (o := 13) rfl)
  have q14 := HQ.out 14 _ (rcells_int r (o := 14) rfl)
  have q15 := HQ.out 15 _ (rcells_int r (o := 15) rfl)
  have q16 := HQ.out 16 _ (rcells_int r (o := 16) rfl)
  have q17 := HQ.out 17 _ (rcells_int r (o := 17) rfl)
  have q18 := HQ.out 18 _ (rcells_int r (o := 18) rfl)
  have q19 := HQ.out 19 _ (rcells_int r (o := 19) rfl)
  have q20 := HQ.out 20 _ (rcells_int r (o := 20) rfl)
  have q21 := HQ.out 21 _ (rcells_int r (o := 21) rfl)
  have q22 := HQ.out 22 _ (rcells_int r (o := 22) rfl)
  have q23 := HQ.out 23 _ (rcells_int r (o := 23) rfl)
  have q24 := HQ.out 24 _ (rcells_int r (o := 24) rfl)
  have q25 := HQ.out 25 _ (rcells_int r (o := 25) rfl)
  have q26 := HQ.out 26 _ (rcells_int r (o := 26) rfl)
  have q27 := HQ.out 27 _ (rcells_int r (o := 27) rfl)
  have q28 := HQ.out 28 _ (rcells_int r (o := 28) rfl)
  have q29 := HQ.out 29 _ (rcells_int r (o := 29) rfl)
  have q30 := HQ.out 30 _ (rcells_int r (o := 30) rfl)
  have q31 := HQ.out 31 _ (rcells_int r (o := 31) rfl)
  have q32 := HQ.out 32 _ (rcells_int r (o := 32) rfl)
  have q33 := HQ.out 33 _ (rcells_int r (o := 33) rfl)
  have q34 := HQ.out 34 _ (rcells_int r (o := 34) rfl)
  have q35 := HQ.out 35 _ (rcells_int r (o := 35) rfl)
  have q36 := HQ.out 36 _ (rcells_int r (o := 36) rfl)
  have q37 := HQ.out 37 _ (rcells_int r (o := 37) rfl)
  have q38 := HQ.out 38 _ (rcells_int r (o := 38) rfl)
  have q39 := HQ.out 39 _ (rcells_int r (o := 39) rfl)
  have q40 := HQ.out 40 _ (rcells_int r (o := 40) rfl)
  have q41 := HQ.out 41 _ (rcells_int r (o := 41) rfl)
  have q42 := HQ.out 42 _ (rcells_int r (o := 42) rfl)
  have q43 := HQ.out 43 _ (rcells_int r (o := 43) rfl)
  have q44 := HQ.out 44 _ (rcells_int r (o := 44) rfl)
  have q45 := HQ.out 45 _ (rcells_int r (o := 45) rfl)
  have q46 := HQ.out 46 _ (rcells_int r (o := 46) rfl)
  have q47 := HQ.out 47 _ (rcells_int r (o := 47) rfl)
  have q48 := HQ.out 48 _ (rcells_int r (o := 48) rfl)
  have q49 := HQ.out 49 _ (rcells_int r (o := 49) rfl)
  have q50 := HQ.out 50 _ (rcells_int r (o := 50) rfl)
  have q51 := HQ.out 51 _ (rcells_int r (o := 51) rfl)
  have q52 := HQ.out 52 _ (rcells_int r (o := 52) rfl)
  have q53 := HQ.out 53 _ (rcells_int r (o := 53) rfl)
  have q54 := HQ.out 54 _ (rcells_int r (o := 54) rfl)
  have q55 := HQ.out 55 _ (rcells_int r (o := 55) rfl)
  have q56 := HQ.out 56 _ (rcells_int r (o := 56) rfl)
  have q57 := HQ.out 57 _ (rcells_int r (o := 57) rfl)
  have q58 := HQ.out 58 _ (rcells_int r (o := 58) rfl)
  have q59 := HQ.out 59 _ (rcells_int r (o := 59) rfl)
  go_enter Tryz.func57, Tryz.ntmps57
  have TK := hid' True.intro
  go_wp2_with (first
    | ((with_reducible show wpList _ _ _ (Oper.mk _ (Op.fieldAddr _ _ _) _ _ _ _ :: _) _ _); clear TK; rw [← hW]; clear hW)
    | (go_at_call 58; refine (in_c _ _ _ _).mono ?_; rintro e w' ⟨rfl, rfl⟩))
  all_goals (try simp only [Bool.not_eq_false', Bool.not_eq_true'] at *)
  all_goals first | (go_ret; exact ⟨by simp [*, styleOk], HWB.out.trans HB.out⟩) | skip
  try rw [show inB (r.s 0) 1 4 = true from by assumption]
  try rw [show inB (r.s 1) 1 3 = true from by assumption]
  try rw [show inB (r.s 2) 1 6 = true from by assumption]
  try rw [show inB (r.s 3) 1 5 = true from by assumption]
  try rw [show inB (r.s 4) 0 5 = true from by assumption]
  try rw [show inB (r.s 5) 1 6 = true from by assumption]
  try rw [show inB (r.s 8) (-1000) 1000 = true from by assumption]
  try rw [show inB (r.s 9) 0 1000 = true from by assumption]
  try rw [show inB (r.s 10) 0 1000 = true from by assumption]
  try rw [show inB (r.s 25) 0 6400 = true from by assumption]
  try rw [show inB (r.s 58) 0 1048576 = true from by assumption]
  try rw [show inB (r.s 59) 0 1048576 = true from by assumption]
  try simp only [Bool.not_true]
  have HV0 : Hid (∀ k, k < 7 → (W.alloc (.cells #[.int .i64 (r.s 11), .int .i64 (r.s 12), .int .i64 (r.s 13), .int .i64 (r.s 14), .int .i64 (r.s 15), .int .i64 (r.s 16), .int .i64 (r.s 17), .int .i64 (r.s 18), .int .i64 (r.s 19), .int .i64 (r.s 20), .int .i64 (r.s 21), .int .i64 (r.s 22), .int .i64 (r.s 23), .int .i64 (r.s 24)] 41)).cell? ⟨W.heap.size, k * 2, none⟩ = some (.int .i64 (r.s (11 + 2 * k)))) := hid' (fun k hk => by
    rw [World.cell?_alloc_new]
    match k, hk with
    | 0, _ => rfl
    | 1, _ => rfl
    | 2, _ => rfl
    | 3, _ => rfl
    | 4, _ => rfl
    | 5, _ => rfl
    | 6, _ => rfl)
  have HV1 : Hid (∀ k, k < 7 → (W.alloc (.cells #[.int .i64 (r.s 11), .int .i64 (r.s 12), .int .i64 (r.s 13), .int .i64 (r.s 14), .int .i64 (r.s 15), .int .i64 (r.s 16), .int .i64 (r.s 17), .int .i64 (r.s 18), .int .i64 (r.s 19), .int .i64 (r.s 20), .int .i64 (r.s 21), .int .i64 (r.s 22), .int .i64 (r.s 23), .int .i64 (r.s 24)] 41)).cell? ⟨W.heap.size, k * 2 + 1, none⟩ = some (.int .i64 (r.s (11 + 2 * k + 1)))) := hid' (fun k hk => by
    rw [World.cell?_alloc_new]
    match k, hk with
    | 0, _ => rfl
    | 1, _ => rfl
    | 2, _ => rfl
    | 3, _ => rfl
    | 4, _ => rfl
    | 5, _ => rfl
    | 6, _ => rfl)
  have HW1 : Hid (Bel W (W.alloc (.cells #[.int .i64 (r.s 11), .int .i64 (r.s 12), .int .i64 (r.s 13), .int .i64 (r.s 14), .int .i64 (r.s 15), .int .i64 (r.s 16), .int .i64 (r.s 17), .int .i64 (r.s 18), .int .i64 (r.s 19), .int .i64 (r.s 20), .int .i64 (r.s 21), .int .i64 (r.s 22), .int .i64 (r.s 23), .int .i64 (r.s 24)] 41))) := hid' ((Bel.refl W).alloc _)
  go_loopw [89] (fun i wr => ∃ (k : Nat), k ≤ 7 ∧ i = .int .i64 k ∧ Hid (∀ j, j < k → zOk r (11 + 2 * j) = true) ∧ Bel (W.alloc (.cells #[.int .i64 (r.s 11), .int .i64 (r.s 12), .int .i64 (r.s 13), .int .i64 (r.s 14), .int .i64 (r.s 15), .int .i64 (r.s 16), .int .i64 (r.s 17), .int .i64 (r.s 18), .int .i64 (r.s 19), .int .i64 (r.s 20), .int .i64 (r.s 21), .int .i64 (r.s 22), .int .i64 (r.s 23), .int .i64 (r.s 24)] 41)) wr) (fun i _ => 7 - (intOf i).toNat)
  case atStart => exact ⟨0, Nat.zero_le _, rfl, hid' (fun j hj => absurd hj (Nat.not_lt_zero _)), Bel.refl _⟩
  case round =>
    obtain ⟨k, hk, rfl, HZ, hb⟩ := hrel
    by_cases hlt : k < 7
    · have hlti : (k : Int) < 7 := by omega
      have c0 := (hb.cell _ _ (by simp)).trans (HV0.out k hlt)
      have c1 := (hb.cell _ _ (by simp)).trans (HV1.out k hlt)
      go_wp2_with fail
      refine (iSizeOk_c r (11 + 2 * k) _).mono ?_; rintro e w2 ⟨rfl, hb2⟩
      have hb3 := (hb.alloc (.cells #[.int .i64 (r.s (11 + 2 * k)), .int .i64 (r.s (11 + 2 * k + 1))] 41)).trans hb2
      cases hz : zOk r (11 + 2 * k)
      · have HF : Hid (styleOk r = false) := hid' (by
          have h7 : k = 0 ∨ k = 1 ∨ k = 2 ∨ k = 3 ∨ k = 4 ∨ k = 5 ∨ k = 6 := by omega
          rcases h7 with rfl | rfl | rfl | rfl | rfl | rfl | rfl <;> simp [styleOk, show zOk r _ = false from hz])
        go_wp2_with fail
        go_ret
        exact ⟨by (show Ending.returned (.bool false) = _; rw [HF.out]), HWB.out.trans (HW1.out.trans hb3)⟩
      · have HZ2 : Hid (∀ j, j < k + 1 → zOk r (11 + 2 * j) = true) := hid' (fun j hj => by rcases Nat.lt_succ_iff_lt_or_eq.1 hj with h | h; exact HZ.out j h; subst h; exact hz)
        go_wp2_with fail
        go_roundw
        case rel => exact ⟨k + 1, by omega, by go_num, HZ2, hb3⟩
        case measure => simp [intOf]; omega
    · obtain rfl : k = 7 := by omega
      have z11 : zOk r 11 = true := HZ.out 0 (by omega)
      have z13 : zOk r 13 = true := HZ.out 1 (by omega)
      have z15 : zOk r 15 = true := HZ.out 2 (by omega)
      have z17 : zOk r 17 = true := HZ.out 3 (by omega)
      have z19 : zOk r 19 = true := HZ.out 4 (by omega)
      have z21 : zOk r 21 = true := HZ.out 5 (by omega)
      have z23 : zOk r 23 = true := HZ.out 6 (by omega)
      replace HB := hid' (HW1.out.trans hb)
      have K := HC.out _ HB.out
      go_wp2_with (first
        | (go_at_call 80; refine (iSidesOk_c r _ _).mono ?_; rintro e w2 ⟨rfl, hb2⟩; replace HB := hid' (HB.out.trans hb2); have K := HC.out _ HB.out; clear hb2)
        | (go_at_call 81; refine (iEdgesOk_c r _ _).mono ?_; rintro e w2 ⟨rfl, hb2⟩; replace HB := hid' (HB.out.trans hb2); have K := HC.out _ HB.out; clear hb2))
      all_goals ((try simp only [Bool.not_eq_false', Bool.not_eq_true'] at *); go_ret; exact ⟨by simp [*, styleOk], HWB.out.trans HB.out⟩)
end Go.Proofs.YtkoljbndbomhdaaGreat
