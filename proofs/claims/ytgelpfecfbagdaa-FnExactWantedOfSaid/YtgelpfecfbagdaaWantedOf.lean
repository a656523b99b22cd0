/- The law FnExactWantedOf returns true for every argument, and leaves its arguments as they were. No condition. -/
import Derived.Test.YtgelpfecfbagdaaWanted
import Derived.OpenShut
import Derived.Deep.RegionWith
namespace Go.Proofs.Ytgelpfecfbagdaa
open Go.ChangeShapes Go.WideShapes Go.ChangeAt Go.RowKit
set_option linter.unusedVariables false
set_option linter.unusedSimpArgs false

theorem own : ownKnob Try.prog.godebug = none := by kernel_rfl
theorem laidOut : laidOutB Try.prog = true := by kernel_rfl

set_option maxHeartbeats 8000000 in
theorem lawWantedOf_c (A0 : Option Addr) (c0 : Nat) (z0 : List Rec) (n1 : Int) (w : World) (h0 : Recs w A0 k_rule z0) (hcap0 : z0.length ≤ 9223372036854775807) (i1 : In64 n1) :
    Calls Try.prog 6 #[tableV A0 z0.length c0, .int .i64 n1] w fun r w' => r = .returned (.bool true) ∧ Bel w w' := by
  by_cases s0 : (z0.length : Int) ≤ 1048576
  rotate_left
  ·
    go_enter Try.func6, Try.ntmps6
    go_wp2_with fail
    refine (szTable_c _ _ _ _ _ (by omega) (by omega)).mono ?_
    rintro e w1 ⟨rfl, hb1⟩
    have B1 : Bel w w1 := Bel.trans (by repeat (first | exact Bel.refl _ | refine Bel.alloc ?_ _ | refine Bel.drew ?_ | refine Bel.drewN ?_ _)) hb1
    have T1 : Bel w w1 := B1
    have xb0 : w1.cell? ⟨w.heap.size, 0, none⟩ = some (.slice A0 z0.length c0) := (hb1.cell _ _ (by simp)).trans (by simp)
    have lb0 : w.heap.size < w1.heap.size := by have := hb1.sz; simp at this; omega
    replace h0 := h0.keep B1
    rw [if_neg (by omega)]
    go_wp2_with fail
    go_ret
    exact ⟨rfl, T1⟩
  have m0 : z0.length ≤ 1048576 := by omega
  go_enter Try.func6, Try.ntmps6
  go_wp2_with fail
  refine (szTable_c _ _ _ _ _ (by omega) (by omega)).mono ?_
  rintro e w1 ⟨rfl, hb1⟩
  have B1 : Bel w w1 := Bel.trans (by repeat (first | exact Bel.refl _ | refine Bel.alloc ?_ _ | refine Bel.drew ?_ | refine Bel.drewN ?_ _)) hb1
  have T1 : Bel w w1 := B1
  have xb0 : w1.cell? ⟨w.heap.size, 0, none⟩ = some (.slice A0 z0.length c0) := (hb1.cell _ _ (by simp)).trans (by simp)
  have lb0 : w.heap.size < w1.heap.size := by have := hb1.sz; simp at this; omega
  replace h0 := h0.keep B1
  rw [if_pos s0]
  go_wp2_with fail
  refine (toTable_c _ _ _ _ (h0.keep (by repeat (first | exact Bel.refl _ | refine Bel.alloc ?_ _ | refine Bel.drew ?_))) m0).mono ?_
  rintro e w2 ⟨g_S0, rfl, o_S0, hb2⟩
  have B2 : Bel w1 w2 := Bel.trans (by repeat (first | exact Bel.refl _ | refine Bel.alloc ?_ _ | refine Bel.drew ?_ | refine Bel.drewN ?_ _)) hb2
  have T2 : Bel w w2 := T1.trans B2
  replace xb0 := (B2.cell _ _ lb0).trans xb0
  replace lb0 := Nat.lt_of_lt_of_le lb0 B2.sz
  replace h0 := h0.keep B2
  have S0 := Recs.of_own rfl o_S0
  go_wp2_with fail
  refine (sWantedOf_c _ _ _ _ _ (S0.keep (by repeat (first | exact Bel.refl _ | refine Bel.alloc ?_ _))) m0).mono ?_
  rintro e w3 ⟨rfl, hb3⟩
  have B3 : Bel w2 w3 := Bel.trans (by repeat (first | exact Bel.refl _ | refine Bel.alloc ?_ _ | refine Bel.drew ?_ | refine Bel.drewN ?_ _)) hb3
  have T3 : Bel w w3 := T2.trans B3
  replace xb0 := (B3.cell _ _ lb0).trans xb0
  replace lb0 := Nat.lt_of_lt_of_le lb0 B3.sz
  replace h0 := h0.keep B3
  replace S0 := S0.keep B3
  go_wp2_with fail
  refine (toTable_c _ _ _ _ (h0.keep (by repeat (first | exact Bel.refl _ | refine Bel.alloc ?_ _ | refine Bel.drew ?_))) m0).mono ?_
  rintro e w4 ⟨g_X0, rfl, o_X0, hb4⟩
  have B4 : Bel w3 w4 := Bel.trans (by repeat (first | exact Bel.refl _ | refine Bel.alloc ?_ _ | refine Bel.drew ?_ | refine Bel.drewN ?_ _)) hb4
  have T4 : Bel w w4 := T3.trans B4
  replace xb0 := (B4.cell _ _ lb0).trans xb0
  replace lb0 := Nat.lt_of_lt_of_le lb0 B4.sz
  replace h0 := h0.keep B4
  replace S0 := S0.keep B4
  have X0 := Recs.of_own rfl o_X0
  go_wp2_with fail
  refine (iWantedOf_c _ _ _ _ _ (X0.keep (by repeat (first | exact Bel.refl _ | refine Bel.alloc ?_ _))) m0).mono ?_
  rintro e w5 ⟨rfl, hb5⟩
  have B5 : Bel w4 w5 := Bel.trans (by repeat (first | exact Bel.refl _ | refine Bel.alloc ?_ _ | refine Bel.drew ?_ | refine Bel.drewN ?_ _)) hb5
  have T5 : Bel w w5 := T4.trans B5
  replace xb0 := (B5.cell _ _ lb0).trans xb0
  replace lb0 := Nat.lt_of_lt_of_le lb0 B5.sz
  have xx0 : w5.cell? ⟨w4.heap.size, 0, none⟩ = some (.slice (some ⟨g_X0, 0, none⟩) z0.length z0.length) := (hb5.cell _ _ (by simp)).trans (by simp)
  have lx0 : w4.heap.size < w5.heap.size := by have := hb5.sz; simp at this; omega
  replace h0 := h0.keep B5
  replace S0 := S0.keep B5
  replace X0 := X0.keep B5
  go_wp2_with fail
  have hA0 := h0.keep (Bel.refl _).drew
  have hX0 := X0.keep (Bel.refl _).drew
  go_region_with (first
    | (go_at_call 17
       refine (toTable_c _ _ _ _ hA0 m0).mono ?_; rintro e u1 ⟨gq, rfl, oq, hq1⟩
       have Iq := Recs.of_own rfl oq
       have Jq := hX0.keep hq1
       clear oq
       have yb0 := (hq1.cell _ _ (by simpa using lb0)).trans ((by simpa using xb0 : (w5.drew).cell? _ = _))
       have kb0 := Nat.lt_of_lt_of_le lb0 hq1.sz
       have yx0 := (hq1.cell _ _ (by simpa using lx0)).trans ((by simpa using xx0 : (w5.drew).cell? _ = _))
       have kx0 := Nat.lt_of_lt_of_le lx0 hq1.sz
       )
    | (go_at_call 20
       refine (eqTable_c _ _ _ _ _ _ Jq Iq m0).mono ?_; rintro e u2 ⟨rfl, hq2⟩
       have HR := (Bel.refl w5).drew.trans (hq1.trans hq2)))
  all_goals
    go_wp2_with fail
    go_ret
    exact ⟨rfl, T5.trans (by first | exact HR | exact HR.drew | exact HR.drewN _ | exact HR.drew.drew)⟩

set_option maxRecDepth 100000 in
theorem ExactWantedOf_lifted (os : Os) (started : os.Started) (H : Type) (enc : TypeId × Value → H) :
    ReturnsInHanded {} Try.checked os 6 .any (Rows.fnExactWantedOfSpec.pre6 enc Try.prog Try.f6 Rows.fnExactWantedOfRow.domain false) (Rows.fnExactWantedOfSpec.post enc Try.prog Try.f6 false true false false) := by
  refine law_lifted (C := Try.checked) (tb := 4) own started (by kernel_rfl) Try.func6 laidOut rfl rfl Try.underlying4 (by kernel_rfl)
    (fun ds h => match ds, h with | [_, _], _ => rfl)
    (ChangeSpec.witness6 (enc := enc) (C := Try.checked) false ⟨#[], #[tableV none 0 0, .int .i64 0], []⟩ 8 (by kernel_rfl) (by kernel_rfl) (by kernel_rfl) (by kernel_rfl)) ?_
  intro W base args ds ps hval0 hA0
  have hval : ∀ (j : Nat) t v, Try.f6.params[j]? = some t → args[j]? = some v → Value.okWide Try.prog W .any base t v := hval0
  have hA : DataW.TrodAll enc Try.prog W 0 (fun _ => true) true Try.f6.params.toList args.toList ds ps := hA0
  clear hval0 hA0
  rw [Try.params6] at hA hval
  obtain ⟨v0, v1, d0, d1, p0, p1, rfl, rfl, rfl, g0, g1⟩ := trodAll_two hA
  obtain ⟨A0, c0, z0, rfl, k0, k0', -, h0⟩ := open_table Try.underlying24 Try.underlying22 (ts' := [3, 3, 3]) (ks := k_rule) (by kernel_rfl) rfl (by kernel_rfl) (by kernel_rfl) (by kernel_rfl) (by decide) (hval 0 24 v0 rfl rfl) g0
  obtain ⟨n1, i1, rfl⟩ := open_num Try.underlying3 (hval 1 3 v1 rfl rfl) g1
  exact lawWantedOf_c _ _ _ _ W h0 (by unfold maxLen at k0'; omega) i1

theorem ExactWantedOf_holds : Rows.FnExactWantedOfSaid :=
  OpenClaim.holds_of_wide 6 Try.f6 rfl rfl rfl rfl rfl rfl rfl ⟨rfl, rfl, rfl, rfl, rfl⟩ rfl rfl rfl rfl rfl (by kernel_rfl) Try.func6 (by kernel_rfl)
    (of_decide_eq_true (by kernel_rfl)) (by unfold Func.isWrapper; first | (rw [if_pos (by decide +kernel)]; kernel_rfl) | (rw [if_neg (by decide +kernel)]; exact ⟨rfl, rfl⟩))
    (fun os started H enc _ => ExactWantedOf_lifted os started H enc)
#print axioms ExactWantedOf_holds
end Go.Proofs.Ytgelpfecfbagdaa
