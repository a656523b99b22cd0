/- The law FnExactLineSizes returns true for every argument, and leaves its arguments as they were. No condition. -/
import Derived.Test.YtmipjhnjlpmidaaLineSz
import Derived.OpenShut
import Derived.Deep.RegionWith
import Derived.Deep.RegionHeld3
namespace Go.Proofs.Ytmipjhnjlpmidaa
open Go.ChangeShapes Go.WideShapes Go.ChangeAt Go.RowKit
set_option linter.unusedVariables false
set_option linter.unusedSimpArgs false

theorem own : ownKnob Try.prog.godebug = none := by kernel_rfl
theorem laidOut : laidOutB Try.prog = true := by kernel_rfl

set_option maxRecDepth 100000 in
set_option maxHeartbeats 16000000 in
theorem lawLineSizes_c (A0 : Option Addr) (c0 : Nat) (z0 : List Rec) (n1 : Int) (n2 : Int) (b3 : Bool) (n4 : Int) (w : World) (h0 : Recs w A0 k_item z0) (hcap0 : z0.length ≤ 9223372036854775807) (i1 : In64 n1) (i2 : In64 n2)  (i4 : In64 n4) :
    Calls Try.prog 5 #[.slice A0 z0.length c0, .int .i64 n1, .int .i64 n2, .bool b3, .int .i64 n4] w fun r w' => r = .returned (.bool true) ∧ Bel w w' := by
  by_cases n0 : (z0.length : Int) ≤ 1048576
  rotate_left
  · go_enter Try.func5, Try.ntmps5
    go_wp2_with fail
    refine (szItemS_c _ _ _ _ _ (by omega) (by omega)).mono ?_; rintro e w1 ⟨rfl, rfl⟩
    rw [if_neg (by omega)]
    go_wp2_with fail
    go_ret
    exact ⟨rfl, Bel.refl w⟩
  have m0 : z0.length ≤ 1048576 := by omega
  have hle : (lineSizes z0 n1 n2 b3 n4).length ≤ 1048576 := Nat.le_trans (lineSizes_le z0 n1 n2 b3 n4) m0
  go_enter Try.func5, Try.ntmps5
  have h00 := h0
  go_wp2_with fail
  refine (szItemS_c _ _ _ _ _ (by omega) (by omega)).mono ?_; rintro e w1 ⟨rfl, rfl⟩
  rw [if_pos n0]
  have HF : Fam w w.heap.size [] := Fam.nil _ _
  have hs : w.heap.size ≤ w.heap.size := Nat.le_refl _
  go_wp2_with fail
  refine (toItemS_c _ _ _ _ h0 m0).mono ?_
  rintro e w1 ⟨rfl, o_S0, hb1⟩
  have T1 : Bel w w1 := hb1
  replace h0 := h0.keep hb1
  replace HF := HF.more hb1 (show Fam w1 w.heap.size (itemF (.slice (some ⟨w.heap.size, 0, none⟩) z0.length z0.length) z0.length z0) from itemF_of o_S0) hs
  replace hs := Nat.le_trans hs hb1.sz
  clear o_S0
  go_wp2_with fail
  refine (sLineSizes_c _ _ _ _ _ _ _ _ (own_recs (ks := k_item) rfl (itemF_own HF)) m0).mono ?_
  rintro e w2 ⟨v2, rfl, o_w0, hb2⟩
  have T2 : Bel w w2 := T1.trans hb2
  replace h0 := h0.keep hb2
  obtain ⟨A_w0, c_w0, rfl, -, -, -, -⟩ := own_openN o_w0
  replace HF := HF.more hb2 (show Fam w2 w1.heap.size (intF (.slice A_w0 (lineSizes z0 n1 n2 b3 n4).length c_w0) (lineSizes z0 n1 n2 b3 n4).length (lineSizes z0 n1 n2 b3 n4)) from intF_of o_w0) hs
  replace hs := Nat.le_trans hs hb2.sz
  clear o_w0
  replace HF := Fam.f1 HF
  replace HF := HF.tail1
  go_wp2_with fail
  refine (toItemS_c _ _ _ _ h0 m0).mono ?_
  rintro e w3 ⟨rfl, o_X0, hb3⟩
  have T3 : Bel w w3 := T2.trans hb3
  replace h0 := h0.keep hb3
  replace HF := HF.more hb3 (show Fam w3 w2.heap.size (itemF (.slice (some ⟨w2.heap.size, 0, none⟩) z0.length z0.length) z0.length z0) from itemF_of o_X0) hs
  replace hs := Nat.le_trans hs hb3.sz
  clear o_X0
  go_wp2_with fail
  refine (iLineSizes_c _ _ _ _ _ _ _ _ (own_recs (ks := k_item) rfl (itemF_own HF)) m0).mono ?_
  rintro e w4 ⟨v4, rfl, o_g0, hb4⟩
  have T4 : Bel w w4 := T3.trans hb4
  replace h0 := h0.keep hb4
  obtain ⟨A_g0, c_g0, rfl, -, -, -, -⟩ := own_openN o_g0
  replace HF := HF.more hb4 (show Fam w4 w3.heap.size (intF (.slice A_g0 (lineSizes z0 n1 n2 b3 n4).length c_g0) (lineSizes z0 n1 n2 b3 n4).length (lineSizes z0 n1 n2 b3 n4)) from intF_of o_g0) hs
  replace hs := Nat.le_trans hs hb4.sz
  clear o_g0
  go_wp2_with fail
  refine (eqIntS_same _ _ _ _ _ _ _ (own_ints (intF_own HF)) (own_ints (intF_own (Fam.f2 HF))) rfl hle).mono ?_
  rintro e w5 ⟨rfl, hb5⟩
  have T5 : Bel w w5 := T4.trans hb5
  replace h0 := h0.keep hb5
  replace HF := HF.keep hb5
  replace hs := Nat.le_trans hs hb5.sz
  go_wp2_with fail
  refine (toItemS_c _ _ _ _ h0 m0).mono ?_
  rintro e w6 ⟨rfl, o_Y0, hb6⟩
  have T6 : Bel w w6 := T5.trans hb6
  replace h0 := h0.keep hb6
  replace HF := HF.more hb6 (show Fam w6 w5.heap.size (itemF (.slice (some ⟨w5.heap.size, 0, none⟩) z0.length z0.length) z0.length z0) from itemF_of o_Y0) hs
  replace hs := Nat.le_trans hs hb6.sz
  clear o_Y0
  go_wp2_with fail
  refine (eqItemS_c _ _ _ _ _ _ ((own_recs (ks := k_item) rfl (itemF_own (Fam.f2 HF)))) ((own_recs (ks := k_item) rfl (itemF_own HF))) m0).mono ?_
  rintro e w7 ⟨rfl, hb7⟩
  have T7 : Bel w w7 := T6.trans hb7
  replace h0 := h0.keep hb7
  replace HF := HF.keep hb7
  replace hs := Nat.le_trans hs hb7.sz
  replace HF := HF.tail1
  replace HF := Fam.f1 HF
  go_wp2_with fail
  refine (markItemF_c _ _ _ _ _ _ _ HF hs m0 rfl (by omega)).mono ?_
  rintro e w8 ⟨rfl, HF', hlow⟩
  replace HF := HF'
  clear HF'
  have T8 : Bel w w8 := T7.belowT hlow (Nat.le_refl _)
  replace h0 := h00.keep T8
  replace hs := Nat.le_trans hs hlow.size
  clear hlow
  replace HF := HF.tail1
  go_wp2_with fail
  refine (eqIntS_same _ _ _ _ _ _ _ (own_ints (intF_own HF)) (own_ints (intF_own (Fam.f1 HF))) rfl hle).mono ?_
  rintro e w9 ⟨rfl, hb9⟩
  have T9 : Bel w w9 := T8.trans hb9
  replace h0 := h0.keep hb9
  replace HF := HF.keep hb9
  replace hs := Nat.le_trans hs hb9.sz
  go_wp2_with fail
  refine (markIntF_c _ _ _ _ _ _ _ HF hs (by omega) (by omega)).mono ?_
  rintro e w10 ⟨rfl, HF', hlow⟩
  replace HF := HF'
  clear HF'
  have T10 : Bel w w10 := T9.belowT hlow (Nat.le_refl _)
  replace h0 := h00.keep T10
  replace hs := Nat.le_trans hs hlow.size
  clear hlow
  go_wp2_with fail
  refine (heldIntS_c _ _ _ _ _ (own_ints (intF_own HF)) (by omega) (by omega)).mono ?_
  rintro e w11 ⟨rfl, hb11⟩
  have T11 : Bel w w11 := T10.trans hb11
  replace h0 := h0.keep hb11
  replace HF := HF.keep hb11
  replace hs := Nat.le_trans hs hb11.sz
  go_wp2_with fail
  refine (toItemS_c _ _ _ _ h0 m0).mono ?_
  rintro e w12 ⟨rfl, o_Z0, hb12⟩
  have T12 : Bel w w12 := T11.trans hb12
  replace h0 := h0.keep hb12
  replace HF := HF.more hb12 (show Fam w12 w11.heap.size (itemF (.slice (some ⟨w11.heap.size, 0, none⟩) z0.length z0.length) z0.length z0) from itemF_of o_Z0) hs
  replace hs := Nat.le_trans hs hb12.sz
  clear o_Z0
  go_wp2_with fail
  refine (iLineSizes_c _ _ _ _ _ _ _ _ (own_recs (ks := k_item) rfl (itemF_own HF)) m0).mono ?_
  rintro e w13 ⟨v13, rfl, o_h0r, hb13⟩
  have T13 : Bel w w13 := T12.trans hb13
  replace h0 := h0.keep hb13
  obtain ⟨A_h0r, c_h0r, rfl, -, -, -, -⟩ := own_openN o_h0r
  replace HF := HF.more hb13 (show Fam w13 w12.heap.size (intF (.slice A_h0r (lineSizes z0 n1 n2 b3 n4).length c_h0r) (lineSizes z0 n1 n2 b3 n4).length (lineSizes z0 n1 n2 b3 n4)) from intF_of o_h0r) hs
  replace hs := Nat.le_trans hs hb13.sz
  clear o_h0r
  go_wp2_with fail
  refine (eqIntS_same _ _ _ _ _ _ _ (own_ints (intF_own HF)) (own_ints (intF_own (Fam.f3 HF))) rfl hle).mono ?_
  rintro e w14 ⟨rfl, hb14⟩
  have T14 : Bel w w14 := T13.trans hb14
  replace h0 := h0.keep hb14
  replace HF := HF.keep hb14
  replace hs := Nat.le_trans hs hb14.sz
  go_wp2_with fail
  refine (heldIntS_c _ _ _ _ _ (own_ints (intF_own (Fam.f2 HF))) (by omega) (by omega)).mono ?_
  rintro e w15 ⟨rfl, hb15⟩
  have T15 : Bel w w15 := T14.trans hb15
  replace h0 := h0.keep hb15
  replace HF := HF.keep hb15
  replace hs := Nat.le_trans hs hb15.sz
  go_wp2_with fail
  go_ret
  exact ⟨rfl, T15⟩

set_option maxRecDepth 100000 in
theorem ExactLineSizes_lifted (os : Os) (started : os.Started) (H : Type) (enc : TypeId × Value → H) :
    ReturnsInHanded {} Try.checked os 5 .any (Rows.fnExactLineSizesSpec.pre6 enc Try.prog Try.f5 Rows.fnExactLineSizesRow.domain false) (Rows.fnExactLineSizesSpec.post enc Try.prog Try.f5 false true false false) := by
  refine law_lifted (C := Try.checked) (tb := 4) own started (by kernel_rfl) Try.func5 laidOut rfl rfl Try.underlying4 (by kernel_rfl)
    (fun ds h => match ds, h with | [_, _, _, _, _], _ => rfl)
    (ChangeSpec.witness6 (enc := enc) (C := Try.checked) false ⟨#[], #[.slice none 0 0, .int .i64 0, .int .i64 0, .bool false, .int .i64 0], []⟩ 8 (by kernel_rfl) (by kernel_rfl) (by kernel_rfl) (by kernel_rfl)) ?_
  intro W base args ds ps hval0 hA0
  have hval : ∀ (j : Nat) t v, Try.f5.params[j]? = some t → args[j]? = some v → Value.okWide Try.prog W .any base t v := hval0
  have hA : DataW.TrodAll enc Try.prog W 0 (fun _ => true) true Try.f5.params.toList args.toList ds ps := hA0
  clear hval0 hA0
  rw [Try.params5] at hA hval
  obtain ⟨v0, vs0, d0, ds0, p0, q0, hargs, rfl, rfl, g0, r0⟩ := trodAll_cons hA
  obtain ⟨v1, vs1, d1, ds1, p1, q1, rfl, rfl, rfl, g1, r1⟩ := trodAll_cons r0
  obtain ⟨v2, vs2, d2, ds2, p2, q2, rfl, rfl, rfl, g2, r2⟩ := trodAll_cons r1
  obtain ⟨v3, vs3, d3, ds3, p3, q3, rfl, rfl, rfl, g3, r3⟩ := trodAll_cons r2
  obtain ⟨v4, vs4, d4, ds4, p4, q4, rfl, rfl, rfl, g4, r4⟩ := trodAll_cons r3
  obtain ⟨rfl, rfl, rfl⟩ := trodAll_nil r4
  obtain rfl : args = #[v0, v1, v2, v3, v4] := by cases args; simp_all
  obtain ⟨A0, c0, z0, rfl, k0, k0', -, h0⟩ := open_recsV Try.underlying22 (ts := [3, 3, 3, 3, 3, 3, 3, 4, 4]) (ks := k_item) (by kernel_rfl) (by kernel_rfl) (by kernel_rfl) (by decide) (hval 0 22 v0 rfl rfl) g0
  obtain ⟨n1, i1, rfl⟩ := open_num Try.underlying3 (hval 1 3 v1 rfl rfl) g1
  obtain ⟨n2, i2, rfl⟩ := open_num Try.underlying3 (hval 2 3 v2 rfl rfl) g2
  obtain ⟨b3, rfl⟩ := open_flag Try.underlying4 (hval 3 4 v3 rfl rfl)
  obtain ⟨n4, i4, rfl⟩ := open_num Try.underlying3 (hval 4 3 v4 rfl rfl) g4
  exact lawLineSizes_c _ _ _ _ _ _ _ W h0 (by unfold maxLen at k0'; omega) i1 i2 i4

theorem ExactLineSizes_holds : Rows.FnExactLineSizesSaid :=
  OpenClaim.holds_of_wide 5 Try.f5 rfl rfl rfl rfl rfl rfl rfl ⟨rfl, rfl, rfl, rfl, rfl⟩ rfl rfl rfl rfl rfl (by kernel_rfl) Try.func5 (by kernel_rfl)
    (of_decide_eq_true (by kernel_rfl)) (by unfold Func.isWrapper; first | (rw [if_pos (by decide +kernel)]; kernel_rfl) | (rw [if_neg (by decide +kernel)]; exact ⟨rfl, rfl⟩))
    (fun os started H enc _ => ExactLineSizes_lifted os started H enc)
#print axioms ExactLineSizes_holds
end Go.Proofs.Ytmipjhnjlpmidaa
