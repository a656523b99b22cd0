/- The law FnExactPlacesAlong returns true for every argument, and leaves its arguments as they were. No condition. -/
import Derived.Test.YtknccikdoabgfaaAlongK
import Derived.OpenShut
import Derived.Deep.RegionWith
import Derived.Deep.RegionHeld3
namespace Go.Proofs.Ytknccikdoabgfaa
open Go.ChangeShapes Go.WideShapes Go.ChangeAt Go.RowKit
set_option linter.unusedVariables false
set_option linter.unusedSimpArgs false

theorem own : ownKnob Try.prog.godebug = none := by kernel_rfl
theorem laidOut : laidOutB Try.prog = true := by kernel_rfl

set_option maxRecDepth 100000 in
set_option maxHeartbeats 16000000 in
theorem lawPlacesAlong_c (A0 : Option Addr) (c0 : Nat) (z0 : List Rec) (A1 : Option Addr) (c1 : Nat) (z1 : List Int) (n2 : Int) (n3 : Int) (n4 : Int) (w : World) (h0 : Recs w A0 k_item z0) (hcap0 : z0.length ≤ 9223372036854775807) (h1 : Ints w A1 z1) (i2 : In64 n2) (i3 : In64 n3) (i4 : In64 n4) :
    Calls Try.prog 13 #[.slice A0 z0.length c0, .slice A1 z1.length c1, .int .i64 n2, .int .i64 n3, .int .i64 n4] w fun r w' => r = .returned (.bool true) ∧ Bel w w' := by
  by_cases m1 : z1.length ≤ 1048576
  rotate_left
  · have hgt : (1048576 : Int) < (z1.length : Int) := by omega
    go_enter Try.func13, Try.ntmps13
    go_wp2_with fail
    go_ret
    exact ⟨rfl, Bel.refl w⟩
  by_cases n0 : (z0.length : Int) ≤ 1048576
  rotate_left
  · go_enter Try.func13, Try.ntmps13
    go_wp2_with fail
    refine (szItemS_c _ _ _ _ _ (by omega) (by omega)).mono ?_; rintro e w1 ⟨rfl, rfl⟩
    rw [if_neg (by omega)]
    go_wp2_with fail
    go_ret
    exact ⟨rfl, Bel.refl w⟩
  have m0 : z0.length ≤ 1048576 := by omega
  have hle : (alongL z0 z1 n2 n3 n4).length ≤ 1048576 := Nat.le_trans (alongL_le z0 z1 n2 n3 n4) m0
  go_enter Try.func13, Try.ntmps13
  have h00 := h0
  have h10 := h1
  go_wp2_with fail
  refine (szItemS_c _ _ _ _ _ (by omega) (by omega)).mono ?_; rintro e w1 ⟨rfl, rfl⟩
  rw [if_pos n0]
  have HF : Fam w w.heap.size [] := Fam.nil _ _
  have hs : w.heap.size ≤ w.heap.size := Nat.le_refl _
  go_wp2_with fail
  refine (toItemS_c _ _ _ _ h0 m0).mono ?_
  rintro e w1 ⟨rfl, o_S0, hb1⟩
  have T1 : Bel w w1 := hb1
  replace h0 := h0.keep hb1
  replace h1 := h1.keep hb1
  replace HF := HF.more hb1 (show Fam w1 w.heap.size (itemF (.slice (some ⟨w.heap.size, 0, none⟩) z0.length z0.length) z0.length z0) from itemF_of o_S0) hs
  replace hs := Nat.le_trans hs hb1.sz
  clear o_S0
  go_wp2_with fail
  refine (toIntS_c _ _ _ _ h1 m1).mono ?_
  rintro e w2 ⟨rfl, o_S1, hb2⟩
  have T2 : Bel w w2 := T1.trans hb2
  replace h0 := h0.keep hb2
  replace h1 := h1.keep hb2
  replace HF := HF.more hb2 (show Fam w2 w1.heap.size (intF (.slice (some ⟨w1.heap.size, 0, none⟩) z1.length z1.length) z1.length z1) from intF_of o_S1) hs
  replace hs := Nat.le_trans hs hb2.sz
  clear o_S1
  go_wp2_with fail
  refine (sPlacesAlong_c _ _ _ _ _ _ _ _ _ _ (own_recs (ks := k_item) rfl (itemF_own (Fam.f1 HF))) (own_ints (intF_own HF)) m0 m1).mono ?_
  rintro e w3 ⟨v3, rfl, o_w0, hb3⟩
  have T3 : Bel w w3 := T2.trans hb3
  replace h0 := h0.keep hb3
  replace h1 := h1.keep hb3
  obtain ⟨A_w0, c_w0, rfl, -, -, -, -⟩ := own_openN o_w0
  replace HF := HF.more hb3 (show Fam w3 w2.heap.size (intF (.slice A_w0 (alongL z0 z1 n2 n3 n4).length c_w0) (alongL z0 z1 n2 n3 n4).length (alongL z0 z1 n2 n3 n4)) from intF_of o_w0) hs
  replace hs := Nat.le_trans hs hb3.sz
  clear o_w0
  replace HF := Fam.f2 HF
  replace HF := HF.tail1
  replace HF := Fam.f1 HF
  replace HF := HF.tail1
  go_wp2_with fail
  refine (toItemS_c _ _ _ _ h0 m0).mono ?_
  rintro e w4 ⟨rfl, o_X0, hb4⟩
  have T4 : Bel w w4 := T3.trans hb4
  replace h0 := h0.keep hb4
  replace h1 := h1.keep hb4
  replace HF := HF.more hb4 (show Fam w4 w3.heap.size (itemF (.slice (some ⟨w3.heap.size, 0, none⟩) z0.length z0.length) z0.length z0) from itemF_of o_X0) hs
  replace hs := Nat.le_trans hs hb4.sz
  clear o_X0
  go_wp2_with fail
  refine (toIntS_c _ _ _ _ h1 m1).mono ?_
  rintro e w5 ⟨rfl, o_X1, hb5⟩
  have T5 : Bel w w5 := T4.trans hb5
  replace h0 := h0.keep hb5
  replace h1 := h1.keep hb5
  replace HF := HF.more hb5 (show Fam w5 w4.heap.size (intF (.slice (some ⟨w4.heap.size, 0, none⟩) z1.length z1.length) z1.length z1) from intF_of o_X1) hs
  replace hs := Nat.le_trans hs hb5.sz
  clear o_X1
  go_wp2_with fail
  refine (iPlacesAlong_c _ _ _ _ _ _ _ _ _ _ (own_recs (ks := k_item) rfl (itemF_own (Fam.f1 HF))) (own_ints (intF_own HF)) m0 m1).mono ?_
  rintro e w6 ⟨v6, rfl, o_g0, hb6⟩
  have T6 : Bel w w6 := T5.trans hb6
  replace h0 := h0.keep hb6
  replace h1 := h1.keep hb6
  obtain ⟨A_g0, c_g0, rfl, -, -, -, -⟩ := own_openN o_g0
  replace HF := HF.more hb6 (show Fam w6 w5.heap.size (intF (.slice A_g0 (alongL z0 z1 n2 n3 n4).length c_g0) (alongL z0 z1 n2 n3 n4).length (alongL z0 z1 n2 n3 n4)) from intF_of o_g0) hs
  replace hs := Nat.le_trans hs hb6.sz
  clear o_g0
  go_wp2_with fail
  refine (eqIntS_same _ _ _ _ _ _ _ (own_ints (intF_own HF)) (own_ints (intF_own (Fam.f3 HF))) rfl hle).mono ?_
  rintro e w7 ⟨rfl, hb7⟩
  have T7 : Bel w w7 := T6.trans hb7
  replace h0 := h0.keep hb7
  replace h1 := h1.keep hb7
  replace HF := HF.keep hb7
  replace hs := Nat.le_trans hs hb7.sz
  go_wp2_with fail
  refine (toItemS_c _ _ _ _ h0 m0).mono ?_
  rintro e w8 ⟨rfl, o_Y0, hb8⟩
  have T8 : Bel w w8 := T7.trans hb8
  replace h0 := h0.keep hb8
  replace h1 := h1.keep hb8
  replace HF := HF.more hb8 (show Fam w8 w7.heap.size (itemF (.slice (some ⟨w7.heap.size, 0, none⟩) z0.length z0.length) z0.length z0) from itemF_of o_Y0) hs
  replace hs := Nat.le_trans hs hb8.sz
  clear o_Y0
  go_wp2_with fail
  refine (eqItemS_c _ _ _ _ _ _ ((own_recs (ks := k_item) rfl (itemF_own (Fam.f3 HF)))) ((own_recs (ks := k_item) rfl (itemF_own HF))) m0).mono ?_
  rintro e w9 ⟨rfl, hb9⟩
  have T9 : Bel w w9 := T8.trans hb9
  replace h0 := h0.keep hb9
  replace h1 := h1.keep hb9
  replace HF := HF.keep hb9
  replace hs := Nat.le_trans hs hb9.sz
  replace HF := HF.tail1
  go_wp2_with fail
  refine (toIntS_c _ _ _ _ h1 m1).mono ?_
  rintro e w10 ⟨rfl, o_Y1, hb10⟩
  have T10 : Bel w w10 := T9.trans hb10
  replace h0 := h0.keep hb10
  replace h1 := h1.keep hb10
  replace HF := HF.more hb10 (show Fam w10 w9.heap.size (intF (.slice (some ⟨w9.heap.size, 0, none⟩) z1.length z1.length) z1.length z1) from intF_of o_Y1) hs
  replace hs := Nat.le_trans hs hb10.sz
  clear o_Y1
  go_wp2_with fail
  refine (eqIntS_c _ _ _ _ _ _ _ ((own_ints (intF_own (Fam.f2 HF)))) ((own_ints (intF_own HF))) m1 m1).mono ?_
  rintro e w11 ⟨rfl, hb11⟩
  have T11 : Bel w w11 := T10.trans hb11
  replace h0 := h0.keep hb11
  replace h1 := h1.keep hb11
  replace HF := HF.keep hb11
  replace hs := Nat.le_trans hs hb11.sz
  replace HF := HF.tail1
  replace HF := Fam.f2 HF
  go_wp2_with fail
  refine (markItemF_c _ _ _ _ _ _ _ HF hs m0 rfl (by omega)).mono ?_
  rintro e w12 ⟨rfl, HF', hlow⟩
  replace HF := HF'
  clear HF'
  have T12 : Bel w w12 := T11.belowT hlow (Nat.le_refl _)
  replace h0 := h00.keep T12
  replace h1 := h10.keep T12
  replace hs := Nat.le_trans hs hlow.size
  clear hlow
  replace HF := HF.tail1
  replace HF := Fam.f1 HF
  go_wp2_with fail
  refine (markIntF_c _ _ _ _ _ _ _ HF hs (by omega) (by omega)).mono ?_
  rintro e w13 ⟨rfl, HF', hlow⟩
  replace HF := HF'
  clear HF'
  have T13 : Bel w w13 := T12.belowT hlow (Nat.le_refl _)
  replace h0 := h00.keep T13
  replace h1 := h10.keep T13
  replace hs := Nat.le_trans hs hlow.size
  clear hlow
  replace HF := HF.tail1
  go_wp2_with fail
  refine (eqIntS_same _ _ _ _ _ _ _ (own_ints (intF_own HF)) (own_ints (intF_own (Fam.f1 HF))) rfl hle).mono ?_
  rintro e w14 ⟨rfl, hb14⟩
  have T14 : Bel w w14 := T13.trans hb14
  replace h0 := h0.keep hb14
  replace h1 := h1.keep hb14
  replace HF := HF.keep hb14
  replace hs := Nat.le_trans hs hb14.sz
  go_wp2_with fail
  refine (markIntF_c _ _ _ _ _ _ _ HF hs (by omega) (by omega)).mono ?_
  rintro e w15 ⟨rfl, HF', hlow⟩
  replace HF := HF'
  clear HF'
  have T15 : Bel w w15 := T14.belowT hlow (Nat.le_refl _)
  replace h0 := h00.keep T15
  replace h1 := h10.keep T15
  replace hs := Nat.le_trans hs hlow.size
  clear hlow
  go_wp2_with fail
  refine (heldIntS_c _ _ _ _ _ (own_ints (intF_own HF)) (by omega) (by omega)).mono ?_
  rintro e w16 ⟨rfl, hb16⟩
  have T16 : Bel w w16 := T15.trans hb16
  replace h0 := h0.keep hb16
  replace h1 := h1.keep hb16
  replace HF := HF.keep hb16
  replace hs := Nat.le_trans hs hb16.sz
  go_wp2_with fail
  refine (toItemS_c _ _ _ _ h0 m0).mono ?_
  rintro e w17 ⟨rfl, o_Z0, hb17⟩
  have T17 : Bel w w17 := T16.trans hb17
  replace h0 := h0.keep hb17
  replace h1 := h1.keep hb17
  replace HF := HF.more hb17 (show Fam w17 w16.heap.size (itemF (.slice (some ⟨w16.heap.size, 0, none⟩) z0.length z0.length) z0.length z0) from itemF_of o_Z0) hs
  replace hs := Nat.le_trans hs hb17.sz
  clear o_Z0
  go_wp2_with fail
  refine (toIntS_c _ _ _ _ h1 m1).mono ?_
  rintro e w18 ⟨rfl, o_Z1, hb18⟩
  have T18 : Bel w w18 := T17.trans hb18
  replace h0 := h0.keep hb18
  replace h1 := h1.keep hb18
  replace HF := HF.more hb18 (show Fam w18 w17.heap.size (intF (.slice (some ⟨w17.heap.size, 0, none⟩) z1.length z1.length) z1.length z1) from intF_of o_Z1) hs
  replace hs := Nat.le_trans hs hb18.sz
  clear o_Z1
  go_wp2_with fail
  refine (iPlacesAlong_c _ _ _ _ _ _ _ _ _ _ (own_recs (ks := k_item) rfl (itemF_own (Fam.f1 HF))) (own_ints (intF_own HF)) m0 m1).mono ?_
  rintro e w19 ⟨v19, rfl, o_h0r, hb19⟩
  have T19 : Bel w w19 := T18.trans hb19
  replace h0 := h0.keep hb19
  replace h1 := h1.keep hb19
  obtain ⟨A_h0r, c_h0r, rfl, -, -, -, -⟩ := own_openN o_h0r
  replace HF := HF.more hb19 (show Fam w19 w18.heap.size (intF (.slice A_h0r (alongL z0 z1 n2 n3 n4).length c_h0r) (alongL z0 z1 n2 n3 n4).length (alongL z0 z1 n2 n3 n4)) from intF_of o_h0r) hs
  replace hs := Nat.le_trans hs hb19.sz
  clear o_h0r
  go_wp2_with fail
  refine (eqIntS_same _ _ _ _ _ _ _ (own_ints (intF_own HF)) (own_ints (intF_own (Fam.f4 HF))) rfl hle).mono ?_
  rintro e w20 ⟨rfl, hb20⟩
  have T20 : Bel w w20 := T19.trans hb20
  replace h0 := h0.keep hb20
  replace h1 := h1.keep hb20
  replace HF := HF.keep hb20
  replace hs := Nat.le_trans hs hb20.sz
  go_wp2_with fail
  refine (heldIntS_c _ _ _ _ _ (own_ints (intF_own (Fam.f3 HF))) (by omega) (by omega)).mono ?_
  rintro e w21 ⟨rfl, hb21⟩
  have T21 : Bel w w21 := T20.trans hb21
  replace h0 := h0.keep hb21
  replace h1 := h1.keep hb21
  replace HF := HF.keep hb21
  replace hs := Nat.le_trans hs hb21.sz
  go_wp2_with fail
  go_ret
  exact ⟨rfl, T21⟩

set_option maxRecDepth 100000 in
theorem ExactPlacesAlong_lifted (os : Os) (started : os.Started) (H : Type) (enc : TypeId × Value → H) :
    ReturnsInHanded {} Try.checked os 13 .any (Rows.fnExactPlacesAlongSpec.pre6 enc Try.prog Try.f13 Rows.fnExactPlacesAlongRow.domain false) (Rows.fnExactPlacesAlongSpec.post enc Try.prog Try.f13 false true false false) := by
  refine law_lifted (C := Try.checked) (tb := 4) own started (by kernel_rfl) Try.func13 laidOut rfl rfl Try.underlying4 (by kernel_rfl)
    (fun ds h => match ds, h with | [_, _, _, _, _], _ => rfl)
    (ChangeSpec.witness6 (enc := enc) (C := Try.checked) false ⟨#[], #[.slice none 0 0, .slice none 0 0, .int .i64 0, .int .i64 0, .int .i64 0], []⟩ 8 (by kernel_rfl) (by kernel_rfl) (by kernel_rfl) (by kernel_rfl)) ?_
  intro W base args ds ps hval0 hA0
  have hval : ∀ (j : Nat) t v, Try.f13.params[j]? = some t → args[j]? = some v → Value.okWide Try.prog W .any base t v := hval0
  have hA : DataW.TrodAll enc Try.prog W 0 (fun _ => true) true Try.f13.params.toList args.toList ds ps := hA0
  clear hval0 hA0
  rw [Try.params13] at hA hval
  obtain ⟨v0, vs0, d0, ds0, p0, q0, hargs, rfl, rfl, g0, r0⟩ := trodAll_cons hA
  obtain ⟨v1, vs1, d1, ds1, p1, q1, rfl, rfl, rfl, g1, r1⟩ := trodAll_cons r0
  obtain ⟨v2, vs2, d2, ds2, p2, q2, rfl, rfl, rfl, g2, r2⟩ := trodAll_cons r1
  obtain ⟨v3, vs3, d3, ds3, p3, q3, rfl, rfl, rfl, g3, r3⟩ := trodAll_cons r2
  obtain ⟨v4, vs4, d4, ds4, p4, q4, rfl, rfl, rfl, g4, r4⟩ := trodAll_cons r3
  obtain ⟨rfl, rfl, rfl⟩ := trodAll_nil r4
  obtain rfl : args = #[v0, v1, v2, v3, v4] := by cases args; simp_all
  obtain ⟨A0, c0, z0, rfl, k0, k0', -, h0⟩ := open_recsV Try.underlying27 (ts := [3, 3, 3, 3, 3, 3, 3, 4, 4]) (ks := k_item) (by kernel_rfl) (by kernel_rfl) (by kernel_rfl) (by decide) (hval 0 27 v0 rfl rfl) g0
  obtain ⟨A1, c1, z1, rfl, -, -, -, h1⟩ := open_intS Try.underlying35 Try.underlying3 (by kernel_rfl) (hval 1 35 v1 rfl rfl) g1
  obtain ⟨n2, i2, rfl⟩ := open_num Try.underlying3 (hval 2 3 v2 rfl rfl) g2
  obtain ⟨n3, i3, rfl⟩ := open_num Try.underlying3 (hval 3 3 v3 rfl rfl) g3
  obtain ⟨n4, i4, rfl⟩ := open_num Try.underlying3 (hval 4 3 v4 rfl rfl) g4
  exact lawPlacesAlong_c _ _ _ _ _ _ _ _ _ W h0 (by unfold maxLen at k0'; omega) h1 i2 i3 i4

theorem ExactPlacesAlong_holds : Rows.FnExactPlacesAlongSaid :=
  OpenClaim.holds_of_wide 13 Try.f13 rfl rfl rfl rfl rfl rfl rfl ⟨rfl, rfl, rfl, rfl, rfl⟩ rfl rfl rfl rfl rfl (by kernel_rfl) Try.func13 (by kernel_rfl)
    (of_decide_eq_true (by kernel_rfl)) (by unfold Func.isWrapper; first | (rw [if_pos (by decide +kernel)]; kernel_rfl) | (rw [if_neg (by decide +kernel)]; exact ⟨rfl, rfl⟩))
    (fun os started H enc _ => ExactPlacesAlong_lifted os started H enc)
#print axioms ExactPlacesAlong_holds
end Go.Proofs.Ytknccikdoabgfaa
