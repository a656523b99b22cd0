/- The law FnExactIsGone returns true for every argument, and leaves its arguments as they were. No condition. -/
import Derived.Test.YtdgjiafognbhfaaGone
import Derived.OpenShut
import Derived.Deep.RegionWith
import Derived.Deep.RegionHeld3
namespace Go.Proofs.Ytdgjiafognbhfaa
open Go.ChangeShapes Go.WideShapes Go.ChangeAt Go.RowKit
set_option linter.unusedVariables false
set_option linter.unusedSimpArgs false

theorem own : ownKnob Try.prog.godebug = none := by kernel_rfl
theorem laidOut : laidOutB Try.prog = true := by kernel_rfl

theorem TreeAt.nodes1 {w : World} {base g n : Nat} {T : List NodeD} (h : TreeAt w base (.slice (some ⟨g, 0, none⟩) n n) T) : Nodes w (some ⟨g, 0, none⟩) T := by
  obtain ⟨A, c, e, -, -, -, h1⟩ := h.nodes
  cases e
  exact h1
set_option maxRecDepth 100000 in
set_option maxHeartbeats 4000000 in
theorem lawIsGone_c (A : Option Addr) (c : Nat) (T : List NodeD) (n1 : Int) (w : World) (h : Nodes w A T) (hcap : T.length ≤ maxLen) (i_n1 : In64 n1) :
    Calls Try.prog 7 #[.agg #[.slice A T.length c], .int .i64 n1] w fun r w' => r = .returned (.bool true) ∧ Bel w w' := by
  unfold maxLen at hcap
  have HW : Bel w (w.alloc (.cells #[.slice A T.length c] 24)) := (Bel.refl w).alloc _
  by_cases hn : (treeSz T : Int) ≤ 1048576
  · have hz : treeSz T ≤ 1048576 := by omega
    have hT : T.length ≤ 1048576 := by unfold treeSz at hz; omega
    have hkr : ∀ j, j < T.length → (node_ T j).kids.length ≤ 1048576 ∧ (node_ T j).rules.length ≤ 1048576 := fun j hj => by have h1 := nodeSz_le hj; unfold nodeSz at h1; exact ⟨by omega, by omega⟩
    go_enter Try.func7, Try.ntmps7
    go_wp2_with fail
    refine (szTree_c _ _ _ _ _ (h.keep HW) (by omega) (by omega)).mono ?_; rintro e w1 ⟨rfl, hb1⟩
    rw [if_pos hn]
    have T_1 : Bel (w.alloc (.cells #[.slice A T.length c] 24)) w1 := Bel.trans (by repeat (first | exact T_0 | exact Bel.refl _ | refine Bel.alloc ?_ _ | refine Bel.drew ?_ | refine Bel.drewN ?_ _ | refine Bel.setCell ?_ (by first | (simp; done) | (simp; omega) | (simp at *; omega)) _)) hb1
    have KT_1 : ∀ o, w1.cell? ⟨w.heap.size, o, none⟩ = (w.alloc (.cells #[.slice A T.length c] 24)).cell? ⟨w.heap.size, o, none⟩ := fun o => T_1.cell _ o (by simp)
    have LT_1 : w.heap.size < w1.heap.size := by have := T_1.sz; (try simp at this); omega
    go_wp2_with fail
    refine (toTree_c _ _ _ _ (h.keep (HW.trans T_1)) hz).mono ?_; rintro e w2 ⟨g2, rfl, ho2, hb2⟩
    have T_2 : Bel (w.alloc (.cells #[.slice A T.length c] 24)) w2 := Bel.trans (by repeat (first | exact T_1 | exact Bel.refl _ | refine Bel.alloc ?_ _ | refine Bel.drew ?_ | refine Bel.drewN ?_ _ | refine Bel.setCell ?_ (by first | (simp; done) | (simp; omega) | (simp at *; omega)) _)) hb2
    have KT_2 : ∀ o, w2.cell? ⟨w.heap.size, o, none⟩ = (w.alloc (.cells #[.slice A T.length c] 24)).cell? ⟨w.heap.size, o, none⟩ := fun o => T_2.cell _ o (by simp)
    have LT_2 : w.heap.size < w2.heap.size := by have := T_2.sz; (try simp at this); omega
    go_wp2_with fail
    refine (sIsGone_c _ _ _ _ _ ho2.nodes1 hT hkr).mono ?_; rintro e w3 ⟨rfl, hb3⟩
    clear ho2
    have T_3 : Bel (w.alloc (.cells #[.slice A T.length c] 24)) w3 := Bel.trans (by repeat (first | exact T_2 | exact Bel.refl _ | refine Bel.alloc ?_ _ | refine Bel.drew ?_ | refine Bel.drewN ?_ _ | refine Bel.setCell ?_ (by first | (simp; done) | (simp; omega) | (simp at *; omega)) _)) hb3
    have KT_3 : ∀ o, w3.cell? ⟨w.heap.size, o, none⟩ = (w.alloc (.cells #[.slice A T.length c] 24)).cell? ⟨w.heap.size, o, none⟩ := fun o => T_3.cell _ o (by simp)
    have LT_3 : w.heap.size < w3.heap.size := by have := T_3.sz; (try simp at this); omega
    go_wp2_with fail
    refine (toTree_c _ _ _ _ (h.keep (HW.trans T_3)) hz).mono ?_; rintro e w4 ⟨g4, rfl, ho4, hb4⟩
    have I4 := ho4.nodes1
    clear ho4
    have T_4 : Bel (w.alloc (.cells #[.slice A T.length c] 24)) w4 := Bel.trans (by repeat (first | exact T_3 | exact Bel.refl _ | refine Bel.alloc ?_ _ | refine Bel.drew ?_ | refine Bel.drewN ?_ _ | refine Bel.setCell ?_ (by first | (simp; done) | (simp; omega) | (simp at *; omega)) _)) hb4
    have KT_4 : ∀ o, w4.cell? ⟨w.heap.size, o, none⟩ = (w.alloc (.cells #[.slice A T.length c] 24)).cell? ⟨w.heap.size, o, none⟩ := fun o => T_4.cell _ o (by simp)
    have LT_4 : w.heap.size < w4.heap.size := by have := T_4.sz; (try simp at this); omega
    go_wp2_with fail
    refine (iIsGone_c _ _ _ _ _ (I4.keep ((Bel.refl _).alloc _)) hT hkr).mono ?_; rintro e w5 ⟨rfl, hb5⟩
    have T_5 : Bel (w.alloc (.cells #[.slice A T.length c] 24)) w5 := Bel.trans (by repeat (first | exact T_4 | exact Bel.refl _ | refine Bel.alloc ?_ _ | refine Bel.drew ?_ | refine Bel.drewN ?_ _ | refine Bel.setCell ?_ (by first | (simp; done) | (simp; omega) | (simp at *; omega)) _)) hb5
    have KT_5 : ∀ o, w5.cell? ⟨w.heap.size, o, none⟩ = (w.alloc (.cells #[.slice A T.length c] 24)).cell? ⟨w.heap.size, o, none⟩ := fun o => T_5.cell _ o (by simp)
    have LT_5 : w.heap.size < w5.heap.size := by have := T_5.sz; (try simp at this); omega
    have X_5 : Bel (w4.alloc (.cells #[.slice (some ⟨g4, 0, none⟩) T.length T.length] 29)) w5 := Bel.trans (by repeat (first | exact X_4 | exact Bel.refl _ | refine Bel.alloc ?_ _ | refine Bel.drew ?_ | refine Bel.drewN ?_ _ | refine Bel.setCell ?_ (by first | (simp; done) | (simp; omega) | (simp at *; omega)) _)) hb5
    have KX_5 : ∀ o, w5.cell? ⟨w4.heap.size, o, none⟩ = (w4.alloc (.cells #[.slice (some ⟨g4, 0, none⟩) T.length T.length] 29)).cell? ⟨w4.heap.size, o, none⟩ := fun o => X_5.cell _ o (by simp)
    have LX_5 : w4.heap.size < w5.heap.size := by have := X_5.sz; (try simp at this); omega
    go_wp2_with fail
    have hT5 := h.keep (HW.trans T_5.drew)
    have hX5 := (I4.keep ((Bel.refl _).alloc _)).keep X_5.drew
    go_region_with (first
      | (go_at_call 12
         refine (toTree_c _ _ _ _ hT5 hz).mono ?_; rintro e w6 ⟨g6, rfl, ho6, hb6⟩
         have I6 := ho6.nodes1
         have J6 := hX5.keep hb6
         clear ho6
         have X_6 : Bel (w4.alloc (.cells #[.slice (some ⟨g4, 0, none⟩) T.length T.length] 29)) w6 := Bel.trans (by repeat (first | exact X_5 | exact Bel.refl _ | refine Bel.alloc ?_ _ | refine Bel.drew ?_ | refine Bel.drewN ?_ _ | refine Bel.setCell ?_ (by first | (simp; done) | (simp; omega) | (simp at *; omega)) _)) hb6
         have KX_6 : ∀ o, w6.cell? ⟨w4.heap.size, o, none⟩ = (w4.alloc (.cells #[.slice (some ⟨g4, 0, none⟩) T.length T.length] 29)).cell? ⟨w4.heap.size, o, none⟩ := fun o => X_6.cell _ o (by simp)
         have LX_6 : w4.heap.size < w6.heap.size := by have := X_6.sz; (try simp at this); omega
         )
      | (go_at_call 14
         refine (eqTree_c _ _ _ _ _ _ (by assumption) (by assumption) hz).mono ?_; rintro e w7 ⟨rfl, hb7⟩
         have HR := HW.trans ((T_5.drew.trans (by assumption)).trans hb7)))
    all_goals
      go_wp2_with fail
      go_ret
      exact ⟨rfl, by first | exact HR | exact HR.drew | exact HR.drewN _ | exact HR.drew.drew⟩
  · go_enter Try.func7, Try.ntmps7
    go_wp2_with fail
    refine (szTree_c _ _ _ _ _ (h.keep HW) (by omega) (by omega)).mono ?_; rintro e w1 ⟨rfl, hb1⟩
    rw [if_neg (by omega)]
    go_wp2_with fail
    go_ret
    exact ⟨rfl, HW.trans hb1⟩

set_option maxRecDepth 100000 in
theorem ExactIsGone_lifted (os : Os) (started : os.Started) (H : Type) (enc : TypeId × Value → H) :
    ReturnsInHanded {} Try.checked os 7 .any (Rows.fnExactIsGoneSpec.pre6 enc Try.prog Try.f7 Rows.fnExactIsGoneRow.domain false) (Rows.fnExactIsGoneSpec.post enc Try.prog Try.f7 false true false false) := by
  refine law_lifted (C := Try.checked) (tb := 4) own started (by kernel_rfl) Try.func7 laidOut rfl rfl Try.underlying4 (by kernel_rfl)
    (fun ds h => match ds, h with | [_, _], _ => rfl)
    (ChangeSpec.witness6 (enc := enc) (C := Try.checked) false ⟨#[], #[.agg #[.slice none 0 0], .int .i64 0], []⟩ 8 (by kernel_rfl) (by kernel_rfl) (by kernel_rfl) (by kernel_rfl)) ?_
  intro W base args ds ps hval0 hA0
  have hval : ∀ (j : Nat) t v, Try.f7.params[j]? = some t → args[j]? = some v → Value.okWide Try.prog W .any base t v := hval0
  have hA : DataW.TrodAll enc Try.prog W 0 (fun _ => true) true Try.f7.params.toList args.toList ds ps := hA0
  clear hval0 hA0
  rw [Try.params7] at hA hval
  obtain ⟨v0, v1, d0, d1, p0, p1, rfl, rfl, rfl, g0, g1⟩ := trodAll_two hA
  obtain ⟨A, c, T, rfl, hc1, hc2, -, -, hI⟩ := open_tree (ti := 3) (tk := 38) (tb := 4) (tr := 71) (er := 101) (tst := [3, 3, 3, 3, 3, 3, 4, 4, 3, 3, 3, 3, 3, 3, 3, 3, 3, 3, 3, 3, 3, 3, 3, 3, 3, 3, 3, 3, 3, 3, 3, 3, 3, 3, 3, 3, 3, 3, 3, 3, 3, 3, 3, 3, 3, 3, 3, 3, 3, 3, 3, 3, 3, 3, 3, 3, 3, 3, 3, 3]) (rts := [3, 3, 3]) (ts := 3 :: 38 :: ([3, 3, 3, 3, 3, 3, 4, 4, 3, 3, 3, 3, 3, 3, 3, 3, 3, 3, 3, 3, 3, 3, 3, 3, 3, 3, 3, 3, 3, 3, 3, 3, 3, 3, 3, 3, 3, 3, 3, 3, 3, 3, 3, 3, 3, 3, 3, 3, 3, 3, 3, 3, 3, 3, 3, 3, 3, 3, 3, 3] ++ [4, 71])) Try.underlying24 (by kernel_rfl) Try.underlying22 (by kernel_rfl) rfl (by kernel_rfl) Try.underlying3 (by kernel_rfl) Try.underlying38 (by kernel_rfl) Try.underlying4 Try.underlying71 (by kernel_rfl) (by kernel_rfl) (by kernel_rfl) (hval 0 24 v0 rfl rfl) g0
  obtain ⟨n1, i1, rfl⟩ := open_num Try.underlying3 (hval 1 3 v1 rfl rfl) g1
  exact lawIsGone_c _ _ _ _ W hI (Nat.le_trans hc1 hc2) i1

theorem ExactIsGone_holds : Rows.FnExactIsGoneSaid :=
  OpenClaim.holds_of_wide 7 Try.f7 rfl rfl rfl rfl rfl rfl rfl ⟨rfl, rfl, rfl, rfl, rfl⟩ rfl rfl rfl rfl rfl (by kernel_rfl) Try.func7 (by kernel_rfl)
    (of_decide_eq_true (by kernel_rfl)) (by unfold Func.isWrapper; first | (rw [if_pos (by decide +kernel)]; kernel_rfl) | (rw [if_neg (by decide +kernel)]; exact ⟨rfl, rfl⟩))
    (fun os started H enc _ => ExactIsGone_lifted os started H enc)
#print axioms ExactIsGone_holds
end Go.Proofs.Ytdgjiafognbhfaa
