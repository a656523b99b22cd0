/- Slices of Rule: the law's own helpers. -/
import Derived.Test.YtkoljbndbomhdaaGreatRecs
namespace Go.Proofs.YtkoljbndbomhdaaGreat
open Go.RowKit Go.ChangeShapes Go.WideShapes
set_option linter.unusedVariables false
set_option linter.unusedSimpArgs false

def k_rule : List Bool := [true, true, true]
abbrev ruleV (a b c : Int) : Value := .agg #[.int .i64 a, .int .i64 b, .int .i64 c]
theorem Tryz.info_rule : (Tryz.prog.info? 112).map (fun i => (i.zero, i.size, i.bytes)) = some (some (ruleV 0 0 0), 3, 24) := by kernel_rfl

set_option maxRecDepth 100000 in
set_option maxHeartbeats 400000 in
theorem toRule_c (a : Int) (b : Int) (c : Int) (w : World) :
    Calls Tryz.prog 92 #[ruleV a b c] w fun r w' => r = .returned (ruleV a b c) ∧ Bel w w' := by
  go_enter Tryz.func92, Tryz.ntmps92
  go_wp2
  refine bodyPost_ret (v := ruleV a b c) (by simp [results, Tryz.results92, go_sem]) rfl ⟨rfl, ?_⟩
  repeat (first | exact Bel.refl _ | assumption | refine Bel.alloc ?_ _ | refine Bel.drew ?_ | refine Bel.drewN ?_ _ | refine Bel.trans ?_ (by assumption) | refine Bel.setCell ?_ (by first | (simp; done) | (simp; omega) | (simp at *; omega)) _)
set_option maxRecDepth 100000 in
set_option maxHeartbeats 400000 in
theorem eqRule_c (a : Int) (b : Int) (c : Int) (w : World) :
    Calls Tryz.prog 105 #[ruleV a b c, ruleV a b c] w fun r w' => r = .returned (.bool true) ∧ Bel w w' := by
  go_enter Tryz.func105, Tryz.ntmps105
  go_wp2
  go_ret
  refine ⟨by simp, ?_⟩
  repeat (first | exact Bel.refl _ | assumption | refine Bel.alloc ?_ _ | refine Bel.drew ?_ | refine Bel.drewN ?_ _ | refine Bel.trans ?_ (by assumption) | refine Bel.setCell ?_ (by first | (simp; done) | (simp; omega) | (simp at *; omega)) _)

/-- the cells of the element at k -/
theorem rule_cells {w : World} {b o k : Nat} {L : List Rec} (h : ∀ i', i' < L.length → ∀ j v, (rcells k_rule (rec_ L i'))[j]? = some v → w.cell? ⟨b, o + i' * k_rule.length + j, none⟩ = some v) (hk : k < L.length) :
    w.cell? ⟨b, o + k * 3, none⟩ = some (.int .i64 ((rec_ L k).s 0)) ∧ w.cell? ⟨b, o + k * 3 + 1, none⟩ = some (.int .i64 ((rec_ L k).s 1)) ∧ w.cell? ⟨b, o + k * 3 + 2, none⟩ = some (.int .i64 ((rec_ L k).s 2)) :=
  ⟨h k hk 0 _ rfl, h k hk 1 _ rfl, h k hk 2 _ rfl⟩
set_option maxRecDepth 100000 in
set_option maxHeartbeats 2000000 in
theorem toRuleS_c (A : Option Addr) (c : Nat) (L : List Rec) (w : World) (h : Recs w A k_rule L) (hn : L.length ≤ 1048576) :
    Calls Tryz.prog 78 #[.slice A L.length c] w fun r w' =>
      r = .returned (.slice (some ⟨w.heap.size, 0, none⟩) L.length L.length) ∧ w'.ownsRow w.heap.size 112 3 (.slice (some ⟨w.heap.size, 0, none⟩) L.length L.length) L.length (RV k_rule L) ∧ Bel w w' := by
  obtain ⟨i0, hi, hz0, hz1, hz2⟩ := info_parts Tryz.info_rule
  go_enter Tryz.func78, Tryz.ntmps78
  go_wp2_with (at_make; refine wpList_make_full w rfl (.tmp 6) (.tmp 6) 75 rfl w.heap.size 112 i0 (ruleV 0 0 0) 3 Tryz.underlying75 hi hz0 hz1 .i64 .i64 L.length L.length L.length rfl rfl rfl rfl (by rw [hz2]; omega) (by unfold maxLen; omega) (Nat.le_refl _) ?_; intro w1 hown hg)
  have hb1 : Bel w w1 := (Bel.refl w).grown hg (by simp)
  go_loopw [4] (fun i wr => ∃ (k : Nat) (xs : List Value), k ≤ L.length ∧ i = .int .i64 k ∧ wr.ownsRow w.heap.size 112 3 (.slice (some ⟨w.heap.size, 0, none⟩) L.length L.length) L.length xs ∧ (∀ j, j < k * 3 → xs[j]? = (RV k_rule L)[j]?) ∧ Bel w wr) (fun i _ => L.length - (intOf i).toNat)
  case atStart => exact ⟨0, _, Nat.zero_le _, rfl, hown, fun j hj => absurd hj (by omega), hb1⟩
  case round =>
    obtain ⟨k, xs, hk, rfl, ho, hx, hb⟩ := hrel
    have hX := Lib.hid hx
    clear hx
    by_cases hlt : k < L.length
    · obtain ⟨b, o, rfl, hbl, hc⟩ := h k hlt
      obtain ⟨hc0, hc1, hc2⟩ := rule_cells hc hlt
      have hd0 := (hb.cell _ _ hbl).trans hc0
      have hd1 := (hb.cell _ _ hbl).trans hc1
      have hd2 := (hb.cell _ _ hbl).trans hc2
      clear hc hc0 hc1 hc2
      have e0 : k * 3 < L.length * 3 := by omega
      have e1 : k * 3 + 1 < L.length * 3 := by omega
      have e2 : k * 3 + 2 < L.length * 3 := by omega
      go_wp2_with fail
      refine (toRule_c _ _ _ _).mono ?_; rintro e w2 ⟨rfl, hb2⟩
      have ho2 := own_keep ho hb2
      obtain ⟨u0, hu0⟩ : ∃ u, w2.cell? ⟨w.heap.size, k * 3, none⟩ = some u := ⟨_, by rw [ho2.cellAt _ e0]; exact List.getElem?_eq_getElem (by have := ho2.1; omega)⟩
      obtain ⟨u1, hu1⟩ : ∃ u, w2.cell? ⟨w.heap.size, k * 3 + 1, none⟩ = some u := ⟨_, by rw [ho2.cellAt _ e1]; exact List.getElem?_eq_getElem (by have := ho2.1; omega)⟩
      obtain ⟨u2, hu2⟩ : ∃ u, w2.cell? ⟨w.heap.size, k * 3 + 2, none⟩ = some u := ⟨_, by rw [ho2.cellAt _ e2]; exact List.getElem?_eq_getElem (by have := ho2.1; omega)⟩
      have hf : ∀ j, w2.frozen? ⟨w.heap.size, j, none⟩ = false := fun j => ho2.frozenAt j
      have S0 := ho2.stored (k * 3) (.int .i64 ((rec_ L k).s 0))
      have S1 := S0.1.stored (k * 3 + 1) (.int .i64 ((rec_ L k).s 1))
      have S2 := S1.1.stored (k * 3 + 2) (.int .i64 ((rec_ L k).s 2))
      have SS := Lib.hid S2.1
      clear S0 S1 S2 e0 e1 e2
      go_wp2
      go_roundw
      case rel =>
        exact ⟨k + 1, setRun xs (k * 3) (rcells k_rule (rec_ L k)), by omega, by go_num, SS.out, run_step (ks := k_rule) ho.1 hlt hX.out,
          (((hb.trans hb2).setCell (Nat.le_refl _) _).setCell (Nat.le_refl _) _).setCell (Nat.le_refl _) _⟩
      case measure => simp [intOf]; omega
    · obtain rfl : k = L.length := by omega
      go_wp2
      go_ret
      refine ⟨rfl, ?_, hb⟩
      rw [← run_done (ks := k_rule) ho.1 hX.out]
      exact ho
set_option maxRecDepth 100000 in
set_option maxHeartbeats 2000000 in
theorem eqRuleS_c (A B : Option Addr) (c d : Nat) (L : List Rec) (w : World) (ha : Recs w A k_rule L) (hb : Recs w B k_rule L) (hn : L.length ≤ 1048576) :
    Calls Tryz.prog 90 #[.slice A L.length c, .slice B L.length d] w fun r w' => r = .returned (.bool true) ∧ Bel w w' := by
  go_enter Tryz.func90, Tryz.ntmps90
  go_wp2_with fail
  go_loopw [5] (fun i wr => ∃ (k : Nat), k ≤ L.length ∧ i = .int .i64 k ∧ Bel w wr) (fun i _ => L.length - (intOf i).toNat)
  case atStart => exact ⟨0, Nat.zero_le _, rfl, Bel.refl w⟩
  case round =>
    obtain ⟨k, hk, rfl, hbw⟩ := hrel
    by_cases hlt : k < L.length
    · obtain ⟨b, o, rfl, hbl, hc⟩ := ha k hlt
      obtain ⟨b2, o2, rfl, hbl2, hc2⟩ := hb k hlt
      obtain ⟨hx0, hx1, hx2⟩ := rule_cells hc hlt
      obtain ⟨hy0, hy1, hy2⟩ := rule_cells hc2 hlt
      have hd0 := (hbw.cell _ _ hbl).trans hx0
      have he0 := (hbw.cell _ _ hbl2).trans hy0
      have hd1 := (hbw.cell _ _ hbl).trans hx1
      have he1 := (hbw.cell _ _ hbl2).trans hy1
      have hd2 := (hbw.cell _ _ hbl).trans hx2
      have he2 := (hbw.cell _ _ hbl2).trans hy2
      clear hc hc2 hx0 hy0 hx1 hy1 hx2 hy2
      have hlti : (k : Int) < (L.length : Int) := by omega
      go_wp2_with fail
      go_still_tail 8, (by kernel_rfl)
      change wpList _ _ _ _ _ wr.drew
      have hbw2 := hbw.drew
      generalize wr.drew = w2 at hbw2
      go_wp2_with fail
      refine (eqRule_c _ _ _ _).mono ?_; rintro e w3 ⟨rfl, hb3⟩
      go_wp2_with fail
      go_roundw
      case rel => exact ⟨k + 1, by omega, by go_num, hbw2.trans hb3⟩
      case measure => simp [intOf]; omega
    · go_wp2
      go_ret
      exact ⟨rfl, hbw⟩
set_option maxRecDepth 100000 in
set_option maxHeartbeats 400000 in
theorem szRuleS_c (A : Option Addr) (c n : Nat) (m : Int) (w : World) (hm : 0 ≤ m ∧ m ≤ 1048576) (hn : n ≤ 9223372036854775807) :
    Calls Tryz.prog 69 #[.slice A n c, .int .i64 m] w fun r w' => r = .returned (.int .i64 (if (n : Int) ≤ m then m - n else -1)) ∧ w = w' := by
  by_cases h : (n : Int) ≤ m
  · rw [if_pos h]
    go_enter Tryz.func69, Tryz.ntmps69
    go_wp2
    go_ret
    exact ⟨rfl, rfl⟩
  · rw [if_neg h]
    go_enter Tryz.func69, Tryz.ntmps69
    go_wp2
    go_ret
    exact ⟨rfl, rfl⟩
end Go.Proofs.YtkoljbndbomhdaaGreat
