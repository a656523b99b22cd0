/- markRuleS, heldRuleS: the numbers written, and read back. -/
import Derived.Test.YtcdneamoemmohaaTables
import Derived.Test.YtcdneamoemmohaaMarkR
namespace Go.Proofs.Ytcdneamoemmohaa
open Go.RowKit Go.ChangeShapes Go.WideShapes
set_option linter.unusedVariables false
set_option linter.unusedSimpArgs false

set_option maxRecDepth 100000 in
set_option maxHeartbeats 2000000 in
theorem markRuleS_c (base : Nat) (v : Value) (n : Nat) (L : List Rec) (m : Int) (w : World) (ho : w.ownsRow base 106 3 v n (RV k_rule L)) (hn : n ≤ 1048576) (hL : n = L.length) (hm : 0 ≤ m ∧ m ≤ 4611686018427387904) :
    Calls Try.prog 61 #[v, .int .i64 m] w fun r w' => r = .returned (.int .i64 (m + 3 * (n : Int))) ∧ w'.ownsRow base 106 3 v n (RV k_rule (marksR 3 m n)) ∧ w.grownBy w' v.ownBlock := by
  obtain ⟨A, c, rfl, hc1, hc2, hI⟩ := own_openR hL ho
  rw [← hL]
  rw [← hL] at ho hc1
  have HI := Lib.hid hI
  clear hI
  have hML := marksR_length 3 m n
  have HML := Lib.hid hML
  clear hML
  go_enter Try.func61, Try.ntmps61
  go_wp2_with fail
  go_loopw [1, 5] (fun s i wr => ∃ (k : Nat) (xs : List Value), k ≤ n ∧ i = .int .i64 k ∧ s = .int .i64 (m + 3 * (k : Int)) ∧ wr.ownsRow base 106 3 (.slice A n c) n xs ∧ Hid (∀ j, j < k * 3 → xs[j]? = (RV k_rule (marksR 3 m n))[j]?) ∧ w.grownBy wr (Value.slice A n c).ownBlock) (fun _ i _ => n - (intOf i).toNat)
  case atStart => exact ⟨0, _, Nat.zero_le _, by go_num, by go_num, ho, hid' (fun j hj => absurd hj (by omega)), World.grownBy.refl w _⟩
  case round =>
    obtain ⟨k, xs, hk, rfl, rfl, ho1, HX, hg⟩ := hrel
    have hxl := ho1.1
    have HXL := Lib.hid hxl
    clear hxl
    by_cases hlt : k < n
    · obtain ⟨b, o, rfl, hbl, -⟩ := HI.out k (by omega)
      obtain rfl : o = 0 := own_off ho1 (by omega)
      obtain ⟨u0, hu0⟩ : ∃ u, wr.cell? ⟨b, k * 3, none⟩ = some u := ⟨_, by rw [ho1.cellAt _ (show k * 3 < n * 3 by omega)]; exact List.getElem?_eq_getElem (by have := HXL.out; omega)⟩
      obtain ⟨u1, hu1⟩ : ∃ u, wr.cell? ⟨b, k * 3 + 1, none⟩ = some u := ⟨_, by rw [ho1.cellAt _ (show k * 3 + 1 < n * 3 by omega)]; exact List.getElem?_eq_getElem (by have := HXL.out; omega)⟩
      obtain ⟨u2, hu2⟩ : ∃ u, wr.cell? ⟨b, k * 3 + 2, none⟩ = some u := ⟨_, by rw [ho1.cellAt _ (show k * 3 + 2 < n * 3 by omega)]; exact List.getElem?_eq_getElem (by have := HXL.out; omega)⟩
      have hf : ∀ j, wr.frozen? ⟨b, j, none⟩ = false := fun j => ho1.frozenAt j
      have HG := Lib.hid hg
      clear hg
      go_wp2
      go_roundw
      case rel =>
        refine ⟨k + 1, _, by omega, by go_num, by go_num, ((((((ho1).stored _ _).1).stored _ _).1).stored _ _).1, hid' ?_, (((HG.out).trans ((ho1).stored _ _).2).trans ((((ho1).stored _ _).1).stored _ _).2).trans ((((((ho1).stored _ _).1).stored _ _).1).stored _ _).2⟩
        exact run_step2 (ks := k_rule) (M := marksR 3 m n) (vs := [_, _, _]) (by rw [HML.out]; exact HXL.out) (by rw [HML.out]; exact hlt) HX.out (by rw [marksR_at 3 m hlt]; simp [rcells, mk, k_rule, markR]; try (repeat' apply And.intro); all_goals first | omega | (rw [Bool.eq_iff_iff, beq_iff_eq, decide_eq_true_iff]; omega))
      case measure => simp [intOf]; omega
    · obtain rfl : k = n := by omega
      go_wp2
      go_ret
      refine ⟨rfl, ?_, hg⟩
      rw [← run_done (ks := k_rule) (L := marksR 3 m k) (xs := xs) (by rw [HML.out]; exact HXL.out) (by rw [HML.out]; exact HX.out)]
      exact ho1
set_option maxRecDepth 100000 in
set_option maxHeartbeats 2000000 in
theorem heldRuleS_c (A : Option Addr) (c n : Nat) (m : Int) (w : World) (h : Recs w A k_rule (marksR 3 m n)) (hn : n ≤ 1048576) (hm : 0 ≤ m ∧ m ≤ 4611686018427387904) :
    Calls Try.prog 84 #[.slice A n c, .int .i64 m] w fun r w' => r = .returned (.int .i64 (m + 3 * (n : Int))) ∧ Bel w w' := by
  go_enter Try.func84, Try.ntmps84
  go_wp2_with fail
  go_loopw [1, 5] (fun s i wr => ∃ (k : Nat), k ≤ n ∧ i = .int .i64 k ∧ s = .int .i64 (m + 3 * (k : Int)) ∧ Bel w wr) (fun _ i _ => n - (intOf i).toNat)
  case atStart => exact ⟨0, Nat.zero_le _, by go_num, by go_num, Bel.refl w⟩
  case round =>
    obtain ⟨k, hk, rfl, rfl, hb⟩ := hrel
    by_cases hlt : k < n
    · have hltM : k < (marksR 3 m n).length := by rw [marksR_length]; exact hlt
      obtain ⟨b, o, rfl, hbl, hc⟩ := h k hltM
      obtain ⟨x0, x1, x2⟩ := rule_cells hc hltM
      rw [marksR_at 3 m hlt] at x0 x1 x2
      have d0 := (hb.cell _ _ hbl).trans x0
      have d1 := (hb.cell _ _ hbl).trans x1
      have d2 := (hb.cell _ _ hbl).trans x2
      have e0 : wr.cell? ⟨b, o + k * 3, none⟩ = some (.int .i64 (m + 3 * (k : Int))) := by rw [d0]; simp [markR]; try omega
      have e1 : wr.cell? ⟨b, o + k * 3 + 1, none⟩ = some (.int .i64 (m + 3 * (k : Int) + 1)) := by rw [d1]; simp [markR]; try omega
      have e2 : wr.cell? ⟨b, o + k * 3 + 2, none⟩ = some (.int .i64 (m + 3 * (k : Int) + 1 + 1)) := by rw [d2]; simp [markR]; try omega
      clear hc hltM x0 x1 x2 d0 d1 d2
      go_wp2
      go_roundw
      case rel => exact ⟨k + 1, by omega, by go_num, by go_num, hb⟩
      case measure => simp [intOf]; omega
    · obtain rfl : k = n := by omega
      go_wp2
      go_ret
      exact ⟨rfl, hb⟩
end Go.Proofs.Ytcdneamoemmohaa
