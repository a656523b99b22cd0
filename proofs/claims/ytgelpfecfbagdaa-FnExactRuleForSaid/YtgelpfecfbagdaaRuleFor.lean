/- The law FnExactRuleFor returns true for every argument, and leaves its arguments as they were. No condition. -/
import Derived.Test.YtgelpfecfbagdaaRuleFn
import Derived.OpenShut
import Derived.Deep.RegionWith
namespace Go.Proofs.Ytgelpfecfbagdaa
open Go.ChangeShapes Go.WideShapes Go.ChangeAt Go.RowKit
set_option linter.unusedVariables false
set_option linter.unusedSimpArgs false

theorem own : ownKnob Try.prog.godebug = none := by kernel_rfl
theorem laidOut : laidOutB Try.prog = true := by kernel_rfl

set_option maxHeartbeats 2000000 in
theorem lawRuleFor_c (A : Option Addr) (c : Nat) (L : List Rec) (room : Int) (w : World) (h : Recs w A k_rule L) (hcap : L.length ≤ maxLen) :
    Calls Try.prog 3 #[tableV A L.length c, .int .i64 room] w fun r w' => r = .returned (.bool true) ∧ Bel w w' := by
  unfold maxLen at hcap
  have HW : Bel w (w.alloc (.cells #[.slice A L.length c] 24)) := (Bel.refl w).alloc _
  by_cases hn : (L.length : Int) ≤ 1048576
  · go_enter Try.func3, Try.ntmps3
    go_wp2_with fail
    refine (szTable_c _ _ _ _ _ (by omega) (by omega)).mono ?_; rintro e w1 ⟨rfl, hb1⟩
    rw [if_pos hn]
    have T_1 : Bel (w.alloc (.cells #[.slice A L.length c] 24)) w1 := Bel.trans (by repeat (first | exact T_0 | exact Bel.refl _ | refine Bel.alloc ?_ _ | refine Bel.drew ?_ | refine Bel.drewN ?_ _ | refine Bel.setCell ?_ (by first | (simp; done) | (simp; omega) | (simp at *; omega)) _)) hb1
    have KT_1 : ∀ o, w1.cell? ⟨w.heap.size, o, none⟩ = (w.alloc (.cells #[.slice A L.length c] 24)).cell? ⟨w.heap.size, o, none⟩ := fun o => T_1.cell _ o (by simp)
    have LT_1 : w.heap.size < w1.heap.size := by have := T_1.sz; (try simp at this); omega
    go_wp2_with fail
    refine (toTable_c _ _ _ _ (h.keep (HW.trans T_1)) (by omega)).mono ?_; rintro e w2 ⟨g2, rfl, ho2, hb2⟩
    have T_2 : Bel (w.alloc (.cells #[.slice A L.length c] 24)) w2 := Bel.trans (by repeat (first | exact T_1 | exact Bel.refl _ | refine Bel.alloc ?_ _ | refine Bel.drew ?_ | refine Bel.drewN ?_ _ | refine Bel.setCell ?_ (by first | (simp; done) | (simp; omega) | (simp at *; omega)) _)) hb2
    have KT_2 : ∀ o, w2.cell? ⟨w.heap.size, o, none⟩ = (w.alloc (.cells #[.slice A L.length c] 24)).cell? ⟨w.heap.size, o, none⟩ := fun o => T_2.cell _ o (by simp)
    have LT_2 : w.heap.size < w2.heap.size := by have := T_2.sz; (try simp at this); omega
    go_wp2_with fail
    refine (sRuleFor_c _ _ _ _ _ (Recs.of_own rfl ho2) (by omega)).mono ?_; rintro e w3 ⟨rfl, hb3⟩
    clear ho2
    have T_3 : Bel (w.alloc (.cells #[.slice A L.length c] 24)) w3 := Bel.trans (by repeat (first | exact T_2 | exact Bel.refl _ | refine Bel.alloc ?_ _ | refine Bel.drew ?_ | refine Bel.drewN ?_ _ | refine Bel.setCell ?_ (by first | (simp; done) | (simp; omega) | (simp at *; omega)) _)) hb3
    have KT_3 : ∀ o, w3.cell? ⟨w.heap.size, o, none⟩ = (w.alloc (.cells #[.slice A L.length c] 24)).cell? ⟨w.heap.size, o, none⟩ := fun o => T_3.cell _ o (by simp)
    have LT_3 : w.heap.size < w3.heap.size := by have := T_3.sz; (try simp at this); omega
    go_wp2_with fail
    refine (toTable_c _ _ _ _ (h.keep ((HW.trans T_3).alloc _)) (by omega)).mono ?_; rintro e w4 ⟨g4, rfl, ho4, hb4⟩
    have I4 := Recs.of_own rfl ho4
    clear ho4
    have T_4 : Bel (w.alloc (.cells #[.slice A L.length c] 24)) w4 := Bel.trans (by repeat (first | exact T_3 | exact Bel.refl _ | refine Bel.alloc ?_ _ | refine Bel.drew ?_ | refine Bel.drewN ?_ _ | refine Bel.setCell ?_ (by first | (simp; done) | (simp; omega) | (simp at *; omega)) _)) hb4
    have KT_4 : ∀ o, w4.cell? ⟨w.heap.size, o, none⟩ = (w.alloc (.cells #[.slice A L.length c] 24)).cell? ⟨w.heap.size, o, none⟩ := fun o => T_4.cell _ o (by simp)
    have LT_4 : w.heap.size < w4.heap.size := by have := T_4.sz; (try simp at this); omega
    have R_4 : Bel (w3.alloc (.cells #[.int .i64 ((ruleFor L room).1.s 0), .int .i64 ((ruleFor L room).1.s 1), .int .i64 ((ruleFor L room).1.s 2)] 27)) w4 := Bel.trans (by repeat (first | exact R_3 | exact Bel.refl _ | refine Bel.alloc ?_ _ | refine Bel.drew ?_ | refine Bel.drewN ?_ _ | refine Bel.setCell ?_ (by first | (simp; done) | (simp; omega) | (simp at *; omega)) _)) hb4
    have KR_4 : ∀ o, w4.cell? ⟨w3.heap.size, o, none⟩ = (w3.alloc (.cells #[.int .i64 ((ruleFor L room).1.s 0), .int .i64 ((ruleFor L room).1.s 1), .int .i64 ((ruleFor L room).1.s 2)] 27)).cell? ⟨w3.heap.size, o, none⟩ := fun o => R_4.cell _ o (by simp)
    have LR_4 : w3.heap.size < w4.heap.size := by have := R_4.sz; (try simp at this); omega
    go_wp2_with fail
    refine (iRuleFor_c _ _ _ _ _ (I4.keep ((Bel.refl _).alloc _)) (by omega)).mono ?_; rintro e w5 ⟨rfl, hb5⟩
    have T_5 : Bel (w.alloc (.cells #[.slice A L.length c] 24)) w5 := Bel.trans (by repeat (first | exact T_4 | exact Bel.refl _ | refine Bel.alloc ?_ _ | refine Bel.drew ?_ | refine Bel.drewN ?_ _ | refine Bel.setCell ?_ (by first | (simp; done) | (simp; omega) | (simp at *; omega)) _)) hb5
    have KT_5 : ∀ o, w5.cell? ⟨w.heap.size, o, none⟩ = (w.alloc (.cells #[.slice A L.length c] 24)).cell? ⟨w.heap.size, o, none⟩ := fun o => T_5.cell _ o (by simp)
    have LT_5 : w.heap.size < w5.heap.size := by have := T_5.sz; (try simp at this); omega
    have R_5 : Bel (w3.alloc (.cells #[.int .i64 ((ruleFor L room).1.s 0), .int .i64 ((ruleFor L room).1.s 1), .int .i64 ((ruleFor L room).1.s 2)] 27)) w5 := Bel.trans (by repeat (first | exact R_4 | exact Bel.refl _ | refine Bel.alloc ?_ _ | refine Bel.drew ?_ | refine Bel.drewN ?_ _ | refine Bel.setCell ?_ (by first | (simp; done) | (simp; omega) | (simp at *; omega)) _)) hb5
    have KR_5 : ∀ o, w5.cell? ⟨w3.heap.size, o, none⟩ = (w3.alloc (.cells #[.int .i64 ((ruleFor L room).1.s 0), .int .i64 ((ruleFor L room).1.s 1), .int .i64 ((ruleFor L room).1.s 2)] 27)).cell? ⟨w3.heap.size, o, none⟩ := fun o => R_5.cell _ o (by simp)
    have LR_5 : w3.heap.size < w5.heap.size := by have := R_5.sz; (try simp at this); omega
    have X_5 : Bel (w4.alloc (.cells #[.slice (some ⟨g4, 0, none⟩) L.length L.length] 32)) w5 := Bel.trans (by repeat (first | exact X_4 | exact Bel.refl _ | refine Bel.alloc ?_ _ | refine Bel.drew ?_ | refine Bel.drewN ?_ _ | refine Bel.setCell ?_ (by first | (simp; done) | (simp; omega) | (simp at *; omega)) _)) hb5
    have KX_5 : ∀ o, w5.cell? ⟨w4.heap.size, o, none⟩ = (w4.alloc (.cells #[.slice (some ⟨g4, 0, none⟩) L.length L.length] 32)).cell? ⟨w4.heap.size, o, none⟩ := fun o => X_5.cell _ o (by simp)
    have LX_5 : w4.heap.size < w5.heap.size := by have := X_5.sz; (try simp at this); omega
    go_wp2_with fail
    refine (eqRule_c _ _ _ _).mono ?_; rintro e w6 ⟨rfl, hb6⟩
    have T_6 : Bel (w.alloc (.cells #[.slice A L.length c] 24)) w6 := Bel.trans (by repeat (first | exact T_5 | exact Bel.refl _ | refine Bel.alloc ?_ _ | refine Bel.drew ?_ | refine Bel.drewN ?_ _ | refine Bel.setCell ?_ (by first | (simp; done) | (simp; omega) | (simp at *; omega)) _)) hb6
    have KT_6 : ∀ o, w6.cell? ⟨w.heap.size, o, none⟩ = (w.alloc (.cells #[.slice A L.length c] 24)).cell? ⟨w.heap.size, o, none⟩ := fun o => T_6.cell _ o (by simp)
    have LT_6 : w.heap.size < w6.heap.size := by have := T_6.sz; (try simp at this); omega
    have X_6 : Bel (w4.alloc (.cells #[.slice (some ⟨g4, 0, none⟩) L.length L.length] 32)) w6 := Bel.trans (by repeat (first | exact X_5 | exact Bel.refl _ | refine Bel.alloc ?_ _ | refine Bel.drew ?_ | refine Bel.drewN ?_ _ | refine Bel.setCell ?_ (by first | (simp; done) | (simp; omega) | (simp at *; omega)) _)) hb6
    have KX_6 : ∀ o, w6.cell? ⟨w4.heap.size, o, none⟩ = (w4.alloc (.cells #[.slice (some ⟨g4, 0, none⟩) L.length L.length] 32)).cell? ⟨w4.heap.size, o, none⟩ := fun o => X_6.cell _ o (by simp)
    have LX_6 : w4.heap.size < w6.heap.size := by have := X_6.sz; (try simp at this); omega
    go_wp2_with fail
    have hT5 := h.keep (HW.trans T_6.drew)
    have hX5 := (I4.keep ((Bel.refl _).alloc _)).keep X_6.drew
    go_region_with (first
      | (go_at_call 17
         refine (toTable_c _ _ _ _ hT5 (by omega)).mono ?_; rintro e w7 ⟨g7, rfl, ho7, hb7⟩
         have I7 := Recs.of_own rfl ho7
         have J7 := hX5.keep hb7
         clear ho7
         have X_7 : Bel (w4.alloc (.cells #[.slice (some ⟨g4, 0, none⟩) L.length L.length] 32)) w7 := Bel.trans (by repeat (first | exact X_6 | exact Bel.refl _ | refine Bel.alloc ?_ _ | refine Bel.drew ?_ | refine Bel.drewN ?_ _ | refine Bel.setCell ?_ (by first | (simp; done) | (simp; omega) | (simp at *; omega)) _)) hb7
         have KX_7 : ∀ o, w7.cell? ⟨w4.heap.size, o, none⟩ = (w4.alloc (.cells #[.slice (some ⟨g4, 0, none⟩) L.length L.length] 32)).cell? ⟨w4.heap.size, o, none⟩ := fun o => X_7.cell _ o (by simp)
         have LX_7 : w4.heap.size < w7.heap.size := by have := X_7.sz; (try simp at this); omega
         )
      | (go_at_call 20
         refine (eqTable_c _ _ _ _ _ _ (by assumption) (by assumption) (by omega)).mono ?_; rintro e w8 ⟨rfl, hb8⟩
         have HR := HW.trans ((T_6.drew.trans (by assumption)).trans hb8)))
    all_goals
      go_wp2_with fail
      go_ret
      exact ⟨rfl, by first | exact HR | exact HR.drew | exact HR.drewN _ | exact HR.drew.drew⟩
  · go_enter Try.func3, Try.ntmps3
    go_wp2_with fail
    refine (szTable_c _ _ _ _ _ (by omega) (by omega)).mono ?_; rintro e w1 ⟨rfl, hb1⟩
    rw [if_neg (by omega)]
    go_wp2_with fail
    go_ret
    exact ⟨rfl, HW.trans hb1⟩

set_option maxRecDepth 100000 in
theorem ExactRuleFor_lifted (os : Os) (started : os.Started) (H : Type) (enc : TypeId × Value → H) :
    ReturnsInHanded {} Try.checked os 3 .any (Rows.fnExactRuleForSpec.pre6 enc Try.prog Try.f3 Rows.fnExactRuleForRow.domain false) (Rows.fnExactRuleForSpec.post enc Try.prog Try.f3 false true false false) := by
  refine law_lifted (C := Try.checked) (tb := 4) own started (by kernel_rfl) Try.func3 laidOut rfl rfl Try.underlying4 (by kernel_rfl)
    (fun ds h => match ds, h with | [_, _], _ => rfl)
    (ChangeSpec.witness6 (enc := enc) (C := Try.checked) false ⟨#[], #[tableV none 0 0, .int .i64 0], []⟩ 8 (by kernel_rfl) (by kernel_rfl) (by kernel_rfl) (by kernel_rfl)) ?_
  intro W base args ds ps hval0 hA0
  have hval : ∀ (j : Nat) t v, Try.f3.params[j]? = some t → args[j]? = some v → Value.okWide Try.prog W .any base t v := hval0
  have hA : DataW.TrodAll enc Try.prog W 0 (fun _ => true) true Try.f3.params.toList args.toList ds ps := hA0
  clear hval0 hA0
  rw [Try.params3] at hA hval
  obtain ⟨v0, v1, d0, d1, p0, p1, rfl, rfl, rfl, h0, h1⟩ := trodAll_two hA
  obtain ⟨n1, -, rfl⟩ := open_num Try.underlying3 (hval 1 3 v1 rfl rfl) h1
  obtain ⟨A, c, L, rfl, hc1, hc2, -, hI⟩ := open_table Try.underlying24 Try.underlying22 (ts' := [3, 3, 3]) (ks := k_rule) (by kernel_rfl) rfl (by kernel_rfl) (by kernel_rfl) (by kernel_rfl) (by decide) (hval 0 24 v0 rfl rfl) h0
  exact lawRuleFor_c _ _ _ _ W hI (Nat.le_trans hc1 hc2)

theorem ExactRuleFor_holds : Rows.FnExactRuleForSaid :=
  OpenClaim.holds_of_wide 3 Try.f3 rfl rfl rfl rfl rfl rfl rfl ⟨rfl, rfl, rfl, rfl, rfl⟩ rfl rfl rfl rfl rfl (by kernel_rfl) Try.func3 (by kernel_rfl)
    (of_decide_eq_true (by kernel_rfl)) (by unfold Func.isWrapper; first | (rw [if_pos (by decide +kernel)]; kernel_rfl) | (rw [if_neg (by decide +kernel)]; exact ⟨rfl, rfl⟩))
    (fun os started H enc _ => ExactRuleFor_lifted os started H enc)
#print axioms ExactRuleFor_holds
end Go.Proofs.Ytgelpfecfbagdaa
