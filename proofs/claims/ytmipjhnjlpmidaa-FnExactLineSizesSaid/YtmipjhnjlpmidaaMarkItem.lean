/- markItemS, heldItemS: the numbers written, and read back. -/
import Derived.Test.YtmipjhnjlpmidaaItemS
import Derived.Test.YtmipjhnjlpmidaaMarkR
namespace Go.Proofs.Ytmipjhnjlpmidaa
open Go.RowKit Go.ChangeShapes Go.WideShapes
set_option linter.unusedVariables false
set_option linter.unusedSimpArgs false

set_option maxRecDepth 100000 in
set_option maxHeartbeats 2000000 in
theorem markItemS_c (base : Nat) (v : Value) (n : Nat) (L : List Rec) (m : Int) (w : World) (ho : w.ownsRow base 48 9 v n (RV k_item L)) (hn : n ≤ 1048576) (hL : n = L.length) (hm : 0 ≤ m ∧ m ≤ 4611686018427387904) :
    Calls Try.prog 18 #[v, .int .i64 m] w fun r w' => r = .returned (.int .i64 (m + 9 * (n : Int))) ∧ w'.ownsRow base 48 9 v n (RV k_item (marksR 9 m n)) ∧ w.grownBy w' v.ownBlock := by
  obtain ⟨A, c, rfl, hc1, hc2, hI⟩ := own_openR hL ho
  rw [← hL]
  rw [← hL] at ho hc1
  have HI := Lib.hid hI
  clear hI
  have hML := marksR_length 9 m n
  have HML := Lib.hid hML
  clear hML
  go_enter Try.func18, Try.ntmps18
  go_wp2_with fail
  go_loopw [1, 5] (fun s i wr => ∃ (k : Nat) (xs : List Value), k ≤ n ∧ i = .int .i64 k ∧ s = .int .i64 (m + 9 * (k : Int)) ∧ wr.ownsRow base 48 9 (.slice A n c) n xs ∧ Hid (∀ j, j < k * 9 → xs[j]? = (RV k_item (marksR 9 m n))[j]?) ∧ w.grownBy wr (Value.slice A n c).ownBlock) (fun _ i _ => n - (intOf i).toNat)
  case atStart => exact ⟨0, _, Nat.zero_le _, by go_num, by go_num, ho, hid' (fun j hj => absurd hj (by omega)), World.grownBy.refl w _⟩
  case round =>
    obtain ⟨k, xs, hk, rfl, rfl, ho1, HX, hg⟩ := hrel
    have hxl := ho1.1
    have HXL := Lib.hid hxl
    clear hxl
    by_cases hlt : k < n
    · obtain ⟨b, o, rfl, hbl, -⟩ := HI.out k (by omega)
      obtain rfl : o = 0 := own_off ho1 (by omega)
      obtain ⟨u0, hu0⟩ : ∃ u, wr.cell? ⟨b, k * 9, none⟩ = some u := ⟨_, by rw [ho1.cellAt _ (show k * 9 < n * 9 by omega)]; exact List.getElem?_eq_getElem (by have := HXL.out; omega)⟩
      obtain ⟨u1, hu1⟩ : ∃ u, wr.cell? ⟨b, k * 9 + 1, none⟩ = some u := ⟨_, by rw [ho1.cellAt _ (show k * 9 + 1 < n * 9 by omega)]; exact List.getElem?_eq_getElem (by have := HXL.out; omega)⟩
      obtain ⟨u2, hu2⟩ : ∃ u, wr.cell? ⟨b, k * 9 + 2, none⟩ = some u := ⟨_, by rw [ho1.cellAt _ (show k * 9 + 2 < n * 9 by omega)]; exact List.getElem?_eq_getElem (by have := HXL.out; omega)⟩
      obtain ⟨u3, hu3⟩ : ∃ u, wr.cell? ⟨b, k * 9 + 3, none⟩ = some u := ⟨_, by rw [ho1.cellAt _ (show k * 9 + 3 < n * 9 by omega)]; exact List.getElem?_eq_getElem (by have := HXL.out; omega)⟩
      obtain ⟨u4, hu4⟩ : ∃ u, wr.cell? ⟨b, k * 9 + 4, none⟩ = some u := ⟨_, by rw [ho1.cellAt _ (show k * 9 + 4 < n * 9 by omega)]; exact List.getElem?_eq_getElem (by have := HXL.out; omega)⟩
      obtain ⟨u5, hu5⟩ : ∃ u, wr.cell? ⟨b, k * 9 + 5, none⟩ = some u := ⟨_, by rw [ho1.cellAt _ (show k * 9 + 5 < n * 9 by omega)]; exact List.getElem?_eq_getElem (by have := HXL.out; omega)⟩
      obtain ⟨u6, hu6⟩ : ∃ u, wr.cell? ⟨b, k * 9 + 6, none⟩ = some u := ⟨_, by rw [ho1.cellAt _ (show k * 9 + 6 < n * 9 by omega)]; exact List.getElem?_eq_getElem (by have := HXL.out; omega)⟩
      obtain ⟨u7, hu7⟩ : ∃ u, wr.cell? ⟨b, k * 9 + 7, none⟩ = some u := ⟨_, by rw [ho1.cellAt _ (show k * 9 + 7 < n * 9 by omega)]; exact List.getElem?_eq_getElem (by have := HXL.out; omega)⟩
      obtain ⟨u8, hu8⟩ : ∃ u, wr.cell? ⟨b, k * 9 + 8, none⟩ = some u := ⟨_, by rw [ho1.cellAt _ (show k * 9 + 8 < n * 9 by omega)]; exact List.getElem?_eq_getElem (by have := HXL.out; omega)⟩
      have hf : ∀ j, wr.frozen? ⟨b, j, none⟩ = false := fun j => ho1.frozenAt j
      have HG := Lib.hid hg
      clear hg
      go_wp2
      go_roundw
      case rel =>
        refine ⟨k + 1, _, by omega, by go_num, by go_num, ((((((((((((((((((ho1).stored _ _).1).stored _ _).1).stored _ _).1).stored _ _).1).stored _ _).1).stored _ _).1).stored _ _).1).stored _ _).1).stored _ _).1, hid' ?_, (((((((((HG.out).trans ((ho1).stored _ _).2).trans ((((ho1).stored _ _).1).stored _ _).2).trans ((((((ho1).stored _ _).1).stored _ _).1).stored _ _).2).trans ((((((((ho1).stored _ _).1).stored _ _).1).stored _ _).1).stored _ _).2).trans ((((((((((ho1).stored _ _).1).stored _ _).1).stored _ _).1).stored _ _).1).stored _ _).2).trans ((((((((((((ho1).stored _ _).1).stored _ _).1).stored _ _).1).stored _ _).1).stored _ _).1).stored _ _).2).trans ((((((((((((((ho1).stored _ _).1).stored _ _).1).stored _ _).1).stored _ _).1).stored _ _).1).stored _ _).1).stored _ _).2).trans ((((((((((((((((ho1).stored _ _).1).stored _ _).1).stored _ _).1).stored _ _).1).stored _ _).1).stored _ _).1).stored _ _).1).stored _ _).2).trans ((((((((((((((((((ho1).stored _ _).1).stored _ _).1).stored _ _).1).stored _ _).1).stored _ _).1).stored _ _).1).stored _ _).1).stored _ _).1).stored _ _).2⟩
        exact run_step2 (ks := k_item) (M := marksR 9 m n) (vs := [_, _, _, _, _, _, _, _, _]) (by rw [HML.out]; exact HXL.out) (by rw [HML.out]; exact hlt) HX.out (by rw [marksR_at 9 m hlt]; simp [rcells, mk, k_item, markR]; try (repeat' apply And.intro); all_goals first | omega | (rw [Bool.eq_iff_iff, beq_iff_eq, decide_eq_true_iff]; omega))
      case measure => simp [intOf]; omega
    · obtain rfl : k = n := by omega
      go_wp2
      go_ret
      refine ⟨rfl, ?_, hg⟩
      rw [← run_done (ks := k_item) (L := marksR 9 m k) (xs := xs) (by rw [HML.out]; exact HXL.out) (by rw [HML.out]; exact HX.out)]
      exact ho1
end Go.Proofs.Ytmipjhnjlpmidaa
