/- DepthOf and IsUnder, both sides. -/
import Derived.Test.YtkoljbndbomhdaaGreatTreeF
namespace Go.Proofs.YtkoljbndbomhdaaGreat
open Go.RowKit Go.ChangeShapes Go.WideShapes
set_option linter.unusedVariables false
set_option linter.unusedSimpArgs false

theorem depth_zero (T : List NodeD) (f : Nat) (k : Int) : depthFrom T (f + 1) 0 k = k := by simp [depthFrom]
theorem depth_no {T : List NodeD} {m : Int} (f : Nat) (k : Int) (h0 : m ≠ 0) (h : isNodeB T m = false) : depthFrom T (f + 1) m k = 0 := by simp [depthFrom, h0, h]
theorem depth_next {T : List NodeD} {m : Int} (f : Nat) (k : Int) (h0 : m ≠ 0) (h : isNodeB T m = true) : depthFrom T (f + 1) m k = depthFrom T f (upOf T m) (k + 1) := by simp [depthFrom, h0, h]
theorem depth_out (T : List NodeD) (m : Int) (k : Int) : depthFrom T 0 m k = 0 := rfl
theorem upOf_eq (T : List NodeD) (j : Nat) : upOf T ((j : Int) + 1) = (node_ T j).up := by
  unfold upOf nd
  congr 2
  omega
theorem isNode_split {T : List NodeD} {m : Int} (h : isNodeB T m = true) : ∃ j : Nat, m = (j : Int) + 1 ∧ j < T.length := by
  have := isNode_iff.1 h
  exact ⟨(m - 1).toNat, by omega, by omega⟩

set_option maxRecDepth 100000 in
set_option maxHeartbeats 4000000 in
theorem iDepthOf_c (A : Option Addr) (c : Nat) (T : List NodeD) (n : Int) (w : World) (h : Nodes w A T) (hn : T.length ≤ 1048576) :
    Calls Tryz.prog 59 #[treeV A T.length c, .int .i64 n] w fun e w' => e = .returned (.int .i64 (depthOf T n)) ∧ Bel w w' := by
  obtain ⟨W, hW⟩ : ∃ W, W = w.alloc (.cells #[.slice A T.length c] 32) := ⟨_, rfl⟩
  have HWB : Hid (Bel w W) := hid' (by rw [hW]; exact (Bel.refl w).alloc _)
  have HK : Hid (∀ u, Bel W u → u.cell? ⟨w.heap.size, 0, none⟩ = some (.slice A T.length c)) := hid' (fun u hu => by rw [hu.cell _ _ (by rw [hW]; simp), hW]; simp)
  go_enter Tryz.func59, Tryz.ntmps59
  go_wp2_with fail
  rw [← hW]
  clear hW
  go_loopw [1, 5] (fun s d wr => ∃ (k : Nat) (m : Int), k ≤ T.length ∧ s = .int .i64 m ∧ d = .int .i64 k ∧ Hid (depthFrom T (T.length + 1 - k) m k = depthOf T n) ∧ Bel W wr) (fun _ d _ => T.length + 1 - (intOf d).toNat)
  case atStart => exact ⟨0, n, Nat.zero_le _, rfl, by go_num, hid' rfl, Bel.refl W⟩
  case round =>
    obtain ⟨k, m, hk, rfl, rfl, HD, hb⟩ := hrel
    have hc0 := HK.out _ hb
    by_cases h0 : m = 0
    · subst h0
      have HR : Hid ((k : Int) = depthOf T n) := hid' (by have := HD.out; rw [show T.length + 1 - k = (T.length - k) + 1 by omega, depth_zero] at this; exact this)
      go_wp2_with fail
      go_ret
      exact ⟨by (show Ending.returned (.int .i64 (k : Int)) = _; rw [HR.out]), HWB.out.trans hb⟩
    · have hne : (m != 0) = true := by simp [h0]
      have H0 := Lib.hid h0
      clear h0
      go_wp2_with fail
      refine (iIsNode_c _ _ _ _ _).mono ?_; rintro e w1 ⟨rfl, hb1⟩
      have hbw1 := hb.trans hb1
      have hc1 := HK.out _ hbw1
      cases hq : isNodeB T m
      · have HR : Hid ((0 : Int) = depthOf T n) := hid' (by have := HD.out; rw [show T.length + 1 - k = (T.length - k) + 1 by omega, depth_no _ _ H0.out hq] at this; exact this)
        go_wp2_with fail
        go_ret
        exact ⟨by (show Ending.returned (.int .i64 0) = _; rw [HR.out]), HWB.out.trans hbw1⟩
      · by_cases hlt : k < T.length
        · have hgt : (k : Int) + 1 ≤ (T.length : Int) := by omega
          have HD2 : Hid (depthFrom T (T.length + 1 - (k + 1)) (upOf T m) ((k : Int) + 1) = depthOf T n) := hid' (by have := HD.out; rw [show T.length + 1 - k = (T.length + 1 - (k + 1)) + 1 by omega, depth_next _ _ H0.out hq] at this; exact this)
          obtain ⟨j, rfl, hj⟩ := isNode_split hq
          rw [upOf_eq] at HD2
          clear hq
          go_wp2_with fail
          refine (iNode_c _ _ _ _ _ (h.keep (HWB.out.trans hbw1)) hj hn).mono ?_; rintro e w2 ⟨L, rfl, hL, hb2⟩
          obtain ⟨K, ck, R, cr, rfl, -⟩ := hL
          have hfu := field_up (node_ T j) (.slice K (node_ T j).kids.length ck) (.slice R (node_ T j).rules.length cr) w2
          go_wp2_with fail
          go_roundw
          case rel => exact ⟨k + 1, _, by omega, rfl, by go_num, HD2, hbw1.trans hb2⟩
          case measure => simp [intOf]; omega
        · have hgt : (T.length : Int) < (k : Int) + 1 := by omega
          have HR : Hid ((0 : Int) = depthOf T n) := hid' (by have := HD.out; rw [show T.length + 1 - k = 0 + 1 by omega, depth_next _ _ H0.out hq, depth_out] at this; exact this)
          go_wp2_with fail
          go_ret
          exact ⟨by (show Ending.returned (.int .i64 0) = _; rw [HR.out]), HWB.out.trans hbw1⟩
set_option maxRecDepth 100000 in
set_option maxHeartbeats 4000000 in
theorem sDepthOf_c (A : Option Addr) (c : Nat) (T : List NodeD) (n : Int) (w : World) (h : Nodes w A T) (hn : T.length ≤ 1048576) :
    Calls Tryz.prog 47 #[treeV A T.length c, .int .i64 n] w fun e w' => e = .returned (.int .i64 (depthOf T n)) ∧ Bel w w' := by
  obtain ⟨W, hW⟩ : ∃ W, W = w.alloc (.cells #[.slice A T.length c] 32) := ⟨_, rfl⟩
  have HWB : Hid (Bel w W) := hid' (by rw [hW]; exact (Bel.refl w).alloc _)
  have HK : Hid (∀ u, Bel W u → u.cell? ⟨w.heap.size, 0, none⟩ = some (.slice A T.length c)) := hid' (fun u hu => by rw [hu.cell _ _ (by rw [hW]; simp), hW]; simp)
  go_enter Tryz.func47, Tryz.ntmps47
  go_wp2_with fail
  rw [← hW]
  clear hW
  go_loopw [1, 5] (fun s d wr => ∃ (k : Nat) (m : Int), k ≤ T.length + 1 ∧ s = .int .i64 m ∧ d = .int .i64 k ∧ Hid (depthFrom T (T.length + 1 - k) m k = depthOf T n) ∧ Bel W wr) (fun _ d _ => T.length + 1 - (intOf d).toNat)
  case atStart => exact ⟨0, n, Nat.zero_le _, rfl, by go_num, hid' rfl, Bel.refl W⟩
  case round =>
    obtain ⟨k, m, hk, rfl, rfl, HD, hb⟩ := hrel
    have hc0 := HK.out _ hb
    by_cases hlt : k ≤ T.length
    · have hle : (k : Int) ≤ (T.length : Int) := by omega
      by_cases h0 : m = 0
      · subst h0
        have HR : Hid ((k : Int) = depthOf T n) := hid' (by have := HD.out; rw [show T.length + 1 - k = (T.length - k) + 1 by omega, depth_zero] at this; exact this)
        go_wp2_with fail
        go_ret
        exact ⟨by (show Ending.returned (.int .i64 (k : Int)) = _; rw [HR.out]), HWB.out.trans hb⟩
      · have hne : (m == 0) = false := by simp [h0]
        have H0 := Lib.hid h0
        clear h0
        go_wp2_with fail
        refine (sIsNode_c _ _ _ _ _).mono ?_; rintro e w1 ⟨rfl, hb1⟩
        have hbw1 := hb.trans hb1
        have hc1 := HK.out _ hbw1
        cases hq : isNodeB T m
        · have HR : Hid ((0 : Int) = depthOf T n) := hid' (by have := HD.out; rw [show T.length + 1 - k = (T.length - k) + 1 by omega, depth_no _ _ H0.out hq] at this; exact this)
          go_wp2_with fail
          go_ret
          exact ⟨by (show Ending.returned (.int .i64 0) = _; rw [HR.out]), HWB.out.trans hbw1⟩
        · have HD2 : Hid (depthFrom T (T.length + 1 - (k + 1)) (upOf T m) ((k : Int) + 1) = depthOf T n) := hid' (by have := HD.out; rw [show T.length + 1 - k = (T.length + 1 - (k + 1)) + 1 by omega, depth_next _ _ H0.out hq] at this; exact this)
          obtain ⟨j, rfl, hj⟩ := isNode_split hq
          rw [upOf_eq] at HD2
          clear hq
          go_wp2_with fail
          refine (sNode_c _ _ _ _ _ (h.keep (HWB.out.trans hbw1)) hj hn).mono ?_; rintro e w2 ⟨L, rfl, hL, hb2⟩
          obtain ⟨K, ck, R, cr, rfl, -⟩ := hL
          have hfu := field_up (node_ T j) (.slice K (node_ T j).kids.length ck) (.slice R (node_ T j).rules.length cr) w2
          go_wp2_with fail
          go_roundw
          case rel => exact ⟨k + 1, _, by omega, rfl, by go_num, HD2, hbw1.trans hb2⟩
          case measure => simp [intOf]; omega
    · have hgt : (T.length : Int) < (k : Int) := by omega
      have HR : Hid ((0 : Int) = depthOf T n) := hid' (by have := HD.out; rw [show T.length + 1 - k = 0 by omega, depth_out] at this; exact this)
      go_wp2_with fail
      go_ret
      exact ⟨by (show Ending.returned (.int .i64 0) = _; rw [HR.out]), HWB.out.trans hb⟩

end Go.Proofs.YtkoljbndbomhdaaGreat
