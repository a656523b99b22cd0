/- The law FnExactFlowKids returns true for every argument, and leaves its arguments as they were. No condition. -/
import Derived.Test.YtcdneamoemmohaaFlowLaw
import Derived.OpenShut
import Derived.Deep.RegionWith
import Derived.Deep.RegionHeld3
namespace Go.Proofs.Ytcdneamoemmohaa
open Go.ChangeShapes Go.WideShapes Go.ChangeAt Go.RowKit
set_option linter.unusedVariables false
set_option linter.unusedSimpArgs false

theorem own : ownKnob Try.prog.godebug = none := by kernel_rfl
theorem laidOut : laidOutB Try.prog = true := by kernel_rfl

set_option maxRecDepth 100000 in
set_option maxHeartbeats 16000000 in
theorem lawFlowKids_c (A0 : Option Addr) (c0 : Nat) (z0 : List NodeD) (n1 : Int) (w : World) (h0 : Nodes w A0 z0) (hcap0 : z0.length ≤ 9223372036854775807) (i1 : In64 n1) :
    Calls Try.prog 5 #[.agg #[.slice A0 z0.length c0], .int .i64 n1] w fun r w' => r = .returned (.bool true) ∧ Bel w w' := by
  by_cases s0 : (treeSz z0 : Int) ≤ 1048576
  rotate_left
  ·
    go_enter Try.func5, Try.ntmps5
    go_wp2_with fail
    refine (szTree_c _ _ _ _ _ (h0.keep (by repeat (first | exact Bel.refl _ | refine Bel.alloc ?_ _))) (by omega) (by omega)).mono ?_
    rintro e w1 ⟨rfl, hb1⟩
    have B1 : Bel w w1 := Bel.trans (by repeat (first | exact Bel.refl _ | refine Bel.alloc ?_ _ | refine Bel.drew ?_ | refine Bel.drewN ?_ _)) hb1
    have T1 : Bel w w1 := B1
    have xb0 : w1.cell? ⟨w.heap.size, 0, none⟩ = some (.slice A0 z0.length c0) := (hb1.cell _ _ (by first | (simp; done) | (simp; omega))).trans (by simp)
    have lb0 : w.heap.size < w1.heap.size := by have := hb1.sz; simp at this; omega
    replace h0 := h0.keep B1
    rw [if_neg (by omega)]
    go_wp2_with fail
    go_ret
    exact ⟨rfl, T1⟩
  have m0 : treeSz z0 ≤ 1048576 := by omega
  go_enter Try.func5, Try.ntmps5
  have h00 := h0
  go_wp2_with fail
  refine (szTree_c _ _ _ _ _ (h0.keep (by repeat (first | exact Bel.refl _ | refine Bel.alloc ?_ _))) (by omega) (by omega)).mono ?_
  rintro e w1 ⟨rfl, hb1⟩
  have B1 : Bel w w1 := Bel.trans (by repeat (first | exact Bel.refl _ | refine Bel.alloc ?_ _ | refine Bel.drew ?_ | refine Bel.drewN ?_ _)) hb1
  have T1 : Bel w w1 := B1
  have xb0 : w1.cell? ⟨w.heap.size, 0, none⟩ = some (.slice A0 z0.length c0) := (hb1.cell _ _ (by first | (simp; done) | (simp; omega))).trans (by simp)
  have lb0 : w.heap.size < w1.heap.size := by have := hb1.sz; simp at this; omega
  replace h0 := h0.keep B1
  rw [if_pos s0]
  have hBS : w.heap.size ≤ w1.heap.size := T1.sz
  have HF : Fam w1 w1.heap.size [] := Fam.nil _ _
  have hs : w1.heap.size ≤ w1.heap.size := Nat.le_refl _
  have lbb0 := lb0
  have hT0 := len_of m0
  have hkr0 := kr_of m0
  have hle : (flowKids z0 n1).length ≤ 1048576 := Nat.le_trans (flowKids_len z0 n1) (by omega)
  go_wp2_with fail
  refine (toTree_c _ _ _ _ (h0.keep (by repeat (first | exact Bel.refl _ | refine Bel.alloc ?_ _ | refine Bel.drew ?_))) m0).mono ?_
  rintro e w2 ⟨g_S0, rfl, o_S0, hb2⟩
  obtain ⟨KS_S0, RS_S0, k1_S0, k2_S0, f_S0⟩ := o_S0
  have B2 : Bel w1 w2 := Bel.trans (by repeat (first | exact Bel.refl _ | refine Bel.alloc ?_ _ | refine Bel.drew ?_ | refine Bel.drewN ?_ _)) hb2
  have T2 : Bel w w2 := T1.trans B2
  replace xb0 := (B2.cell _ _ lb0).trans xb0
  replace lb0 := Nat.lt_of_lt_of_le lb0 B2.sz
  replace h0 := h0.keep B2
  have HN : Fam w2 w1.heap.size (treeF (.slice (some ⟨g_S0, 0, none⟩) z0.length z0.length) z0 KS_S0 RS_S0) := (f_S0).base (by repeat (first | exact Nat.le_refl _ | (simp; done) | (simp; omega)))
  replace HF := HF.more B2 HN hs
  clear HN
  replace hs := Nat.le_trans hs B2.sz
  clear f_S0
  go_wp2_with fail
  refine (sFlowKids_c _ _ _ _ _ ((treeF_nodes k1_S0 k2_S0 HF).keep (by repeat (first | exact Bel.refl _ | refine Bel.alloc ?_ _))) hT0 hkr0).mono ?_
  rintro e w3 ⟨v3, rfl, o_w0, hb3⟩
  obtain ⟨A_w0, c_w0, rfl, -, -, -, l_w0⟩ := own_openN o_w0
  have H_w0 := Lib.hid l_w0
  clear l_w0
  have B3 : Bel w2 w3 := Bel.trans (by repeat (first | exact Bel.refl _ | refine Bel.alloc ?_ _ | refine Bel.drew ?_ | refine Bel.drewN ?_ _)) hb3
  have T3 : Bel w w3 := T2.trans B3
  replace xb0 := (B3.cell _ _ lb0).trans xb0
  replace lb0 := Nat.lt_of_lt_of_le lb0 B3.sz
  replace h0 := h0.keep B3
  have HN : Fam w3 w2.heap.size (intF (.slice A_w0 (flowKids z0 n1).length c_w0) (flowKids z0 n1).length (flowKids z0 n1)) := (intF_of o_w0).base (by repeat (first | exact Nat.le_refl _ | (simp; done) | (simp; omega)))
  replace HF := HF.more B3 HN hs
  clear HN
  replace hs := Nat.le_trans hs B3.sz
  clear o_w0
  replace HF := Fam.f1 HF
  replace HF := HF.tail1
  go_wp2_with fail
  refine (toTree_c _ _ _ _ (h0.keep (by repeat (first | exact Bel.refl _ | refine Bel.alloc ?_ _ | refine Bel.drew ?_))) m0).mono ?_
  rintro e w4 ⟨g_X0, rfl, o_X0, hb4⟩
  obtain ⟨KS_X0, RS_X0, k1_X0, k2_X0, f_X0⟩ := o_X0
  have B4 : Bel w3 w4 := Bel.trans (by repeat (first | exact Bel.refl _ | refine Bel.alloc ?_ _ | refine Bel.drew ?_ | refine Bel.drewN ?_ _)) hb4
  have T4 : Bel w w4 := T3.trans B4
  replace xb0 := (B4.cell _ _ lb0).trans xb0
  replace lb0 := Nat.lt_of_lt_of_le lb0 B4.sz
  replace h0 := h0.keep B4
  have HN : Fam w4 w3.heap.size (treeF (.slice (some ⟨g_X0, 0, none⟩) z0.length z0.length) z0 KS_X0 RS_X0) := (f_X0).base (by repeat (first | exact Nat.le_refl _ | (simp; done) | (simp; omega)))
  replace HF := HF.more B4 HN hs
  clear HN
  replace hs := Nat.le_trans hs B4.sz
  clear f_X0
  go_wp2_with fail
  refine (iFlowKids_c _ _ _ _ _ ((treeF_nodes k1_X0 k2_X0 HF).keep (by repeat (first | exact Bel.refl _ | refine Bel.alloc ?_ _))) hT0 hkr0).mono ?_
  rintro e w5 ⟨v5, rfl, o_g0, hb5⟩
  obtain ⟨A_g0, c_g0, rfl, -, -, -, l_g0⟩ := own_openN o_g0
  have H_g0 := Lib.hid l_g0
  clear l_g0
  have B5 : Bel w4 w5 := Bel.trans (by repeat (first | exact Bel.refl _ | refine Bel.alloc ?_ _ | refine Bel.drew ?_ | refine Bel.drewN ?_ _)) hb5
  have T5 : Bel w w5 := T4.trans B5
  replace xb0 := (B5.cell _ _ lb0).trans xb0
  replace lb0 := Nat.lt_of_lt_of_le lb0 B5.sz
  have xx0 : w5.cell? ⟨w4.heap.size, 0, none⟩ = some (.slice (some ⟨g_X0, 0, none⟩) z0.length z0.length) := (hb5.cell _ _ (by first | (simp; done) | (simp; omega))).trans (by simp)
  have lx0 : w4.heap.size < w5.heap.size := by have := hb5.sz; simp at this; omega
  replace h0 := h0.keep B5
  have HN : Fam w5 w4.heap.size (intF (.slice A_g0 (flowKids z0 n1).length c_g0) (flowKids z0 n1).length (flowKids z0 n1)) := (intF_of o_g0).base (by repeat (first | exact Nat.le_refl _ | (simp; done) | (simp; omega)))
  replace HF := HF.more B5 HN hs
  clear HN
  replace hs := Nat.le_trans hs B5.sz
  clear o_g0
  go_wp2_with fail
  refine (eqIntS_same _ _ _ _ _ _ _ (own_ints (intF_own HF)) (own_ints (intF_own (Fam.f2 HF))) rfl hle).mono ?_
  rintro e w6 ⟨rfl, hb6⟩
  have B6 : Bel w5 w6 := Bel.trans (by repeat (first | exact Bel.refl _ | refine Bel.alloc ?_ _ | refine Bel.drew ?_ | refine Bel.drewN ?_ _)) hb6
  have T6 : Bel w w6 := T5.trans B6
  replace xb0 := (B6.cell _ _ lb0).trans xb0
  replace lb0 := Nat.lt_of_lt_of_le lb0 B6.sz
  replace xx0 := (B6.cell _ _ lx0).trans xx0
  replace lx0 := Nat.lt_of_lt_of_le lx0 B6.sz
  replace h0 := h0.keep B6
  replace HF := HF.keep B6
  replace hs := Nat.le_trans hs B6.sz
  have VX0 := (treeF_nodes k1_X0 k2_X0 (Fam.f1 HF))
  go_wp2_with fail
  have hd0 : Bel w6 (w6).drew := by repeat (first | exact Bel.refl _ | refine Bel.drew ?_ | refine Bel.alloc ?_ _)
  have xdb0 : ((w6).drew).cell? ⟨w.heap.size, 0, none⟩ = some (.slice A0 z0.length c0) := (hd0.cell _ _ lb0).trans xb0
  have ldb0 : w.heap.size < ((w6).drew).heap.size := Nat.lt_of_lt_of_le lb0 hd0.sz
  have xdx0 : ((w6).drew).cell? ⟨w4.heap.size, 0, none⟩ = some (.slice (some ⟨g_X0, 0, none⟩) z0.length z0.length) := (hd0.cell _ _ lx0).trans xx0
  have ldx0 : w4.heap.size < ((w6).drew).heap.size := Nat.lt_of_lt_of_le lx0 hd0.sz
  have tok0 : True := trivial
  have tok1 : True := trivial
  go_region_held3 (fun u => Bel w6 u ∧ u.cell? ⟨w.heap.size, 0, none⟩ = some (.slice A0 z0.length c0) ∧ u.cell? ⟨w4.heap.size, 0, none⟩ = some (.slice (some ⟨g_X0, 0, none⟩) z0.length z0.length))
    ((first | exact ⟨bq1, yb0_1, yx0_1⟩ | exact ⟨bq0, yb0_0, yx0_0⟩ | exact ⟨hd0, xdb0, xdx0⟩))
    (first | (go_at_call 13; have _t := tok0; refine (toTree_c _ _ _ _ (h0.keep hd0) m0).mono ?_; rintro e u0 ⟨g_Q, rfl, o_Q, hq0⟩; have bq0 : Bel w6 u0 := hd0.trans hq0; have yb0_0 := (hq0.cell _ _ ldb0).trans xdb0; have nb0_0 : w.heap.size < u0.heap.size := Nat.lt_of_lt_of_le ldb0 hq0.sz; have yx0_0 := (hq0.cell _ _ ldx0).trans xdx0; have nx0_0 : w4.heap.size < u0.heap.size := Nat.lt_of_lt_of_le ldx0 hq0.sz; have Q0 := (o_Q).nodes1; clear o_Q; clear tok0 _t) | (go_at_call 16; have _t := tok1; refine (eqTree_c _ _ _ _ _ _ (VX0.keep bq0) Q0 m0).mono ?_; rintro e w7 ⟨rfl, hq1⟩; have bq1 : Bel w6 w7 := bq0.trans hq1; have yb0_1 := (hq1.cell _ _ nb0_0).trans yb0_0; have nb0_1 : w.heap.size < w7.heap.size := Nat.lt_of_lt_of_le nb0_0 hq1.sz; have yx0_1 := (hq1.cell _ _ nx0_0).trans yx0_0; have nx0_1 : w4.heap.size < w7.heap.size := Nat.lt_of_lt_of_le nx0_0 hq1.sz; clear Q0 VX0; clear tok1 _t))
  have B7 : Bel w6 w7 := bq1
  have T7 : Bel w w7 := T6.trans B7
  replace xb0 := yb0_1
  replace lb0 := nb0_1
  replace xx0 := yx0_1
  replace lx0 := nx0_1
  replace h0 := h0.keep B7
  clear bq0 hq0 yb0_0 nb0_0 yx0_0 nx0_0
  clear bq1 hq1 hd0 yb0_1 nb0_1 xdb0 ldb0 yx0_1 nx0_1 xdx0 ldx0
  replace HF := HF.keep B7
  replace hs := Nat.le_trans hs B7.sz
  replace HF := Fam.f1 HF
  go_wp2_with fail
  refine (markTree_c _ _ _ _ _ _ _ _ _ k1_X0 k2_X0 HF hs m0 (by omega)).mono ?_
  rintro e w8 ⟨rfl, HF', hlow⟩
  replace HF := HF'
  clear HF'
  have B8 : Below w1.heap.size w7 w8 := hlow
  have T8 : Bel w w8 := T7.belowT hlow hBS
  replace xb0 := (Below.cell (p := ⟨w.heap.size, 0, none⟩) hlow lbb0).trans xb0
  replace lb0 := Nat.lt_of_lt_of_le lb0 hlow.size
  replace h0 := h00.keep T8
  replace hs := Nat.le_trans hs hlow.size
  clear hlow
  replace HF := HF.tail1
  go_wp2_with fail
  refine (eqIntS_same _ _ _ _ _ _ _ (own_ints (intF_own HF)) (own_ints (intF_own (Fam.f1 HF))) rfl hle).mono ?_
  rintro e w9 ⟨rfl, hb9⟩
  have B9 : Bel w8 w9 := Bel.trans (by repeat (first | exact Bel.refl _ | refine Bel.alloc ?_ _ | refine Bel.drew ?_ | refine Bel.drewN ?_ _)) hb9
  have T9 : Bel w w9 := T8.trans B9
  replace xb0 := (B9.cell _ _ lb0).trans xb0
  replace lb0 := Nat.lt_of_lt_of_le lb0 B9.sz
  replace h0 := h0.keep B9
  replace HF := HF.keep B9
  replace hs := Nat.le_trans hs B9.sz
  go_wp2_with fail
  refine (markIntF_c _ _ _ _ _ _ _ HF hs (by omega) (by omega)).mono ?_
  rintro e w10 ⟨rfl, HF', hlow⟩
  replace HF := HF'
  clear HF'
  have B10 : Below w1.heap.size w9 w10 := hlow
  have T10 : Bel w w10 := T9.belowT hlow hBS
  replace xb0 := (Below.cell (p := ⟨w.heap.size, 0, none⟩) hlow lbb0).trans xb0
  replace lb0 := Nat.lt_of_lt_of_le lb0 hlow.size
  replace h0 := h00.keep T10
  replace hs := Nat.le_trans hs hlow.size
  clear hlow
  go_wp2_with fail
  refine (heldIntS_c _ _ _ _ _ (own_ints (intF_own HF)) (by omega) (by omega)).mono ?_
  rintro e w11 ⟨rfl, hb11⟩
  have B11 : Bel w10 w11 := Bel.trans (by repeat (first | exact Bel.refl _ | refine Bel.alloc ?_ _ | refine Bel.drew ?_ | refine Bel.drewN ?_ _)) hb11
  have T11 : Bel w w11 := T10.trans B11
  replace xb0 := (B11.cell _ _ lb0).trans xb0
  replace lb0 := Nat.lt_of_lt_of_le lb0 B11.sz
  replace h0 := h0.keep B11
  replace HF := HF.keep B11
  replace hs := Nat.le_trans hs B11.sz
  go_wp2_with fail
  refine (toTree_c _ _ _ _ (h0.keep (by repeat (first | exact Bel.refl _ | refine Bel.alloc ?_ _ | refine Bel.drew ?_))) m0).mono ?_
  rintro e w12 ⟨g_Y0, rfl, o_Y0, hb12⟩
  obtain ⟨KS_Y0, RS_Y0, k1_Y0, k2_Y0, f_Y0⟩ := o_Y0
  have B12 : Bel w11 w12 := Bel.trans (by repeat (first | exact Bel.refl _ | refine Bel.alloc ?_ _ | refine Bel.drew ?_ | refine Bel.drewN ?_ _)) hb12
  have T12 : Bel w w12 := T11.trans B12
  replace xb0 := (B12.cell _ _ lb0).trans xb0
  replace lb0 := Nat.lt_of_lt_of_le lb0 B12.sz
  replace h0 := h0.keep B12
  have HN : Fam w12 w11.heap.size (treeF (.slice (some ⟨g_Y0, 0, none⟩) z0.length z0.length) z0 KS_Y0 RS_Y0) := (f_Y0).base (by repeat (first | exact Nat.le_refl _ | (simp; done) | (simp; omega)))
  replace HF := HF.more B12 HN hs
  clear HN
  replace hs := Nat.le_trans hs B12.sz
  clear f_Y0
  go_wp2_with fail
  refine (iFlowKids_c _ _ _ _ _ ((treeF_nodes k1_Y0 k2_Y0 HF).keep (by repeat (first | exact Bel.refl _ | refine Bel.alloc ?_ _))) hT0 hkr0).mono ?_
  rintro e w13 ⟨v13, rfl, o_h0r, hb13⟩
  obtain ⟨A_h0r, c_h0r, rfl, -, -, -, l_h0r⟩ := own_openN o_h0r
  have H_h0r := Lib.hid l_h0r
  clear l_h0r
  have B13 : Bel w12 w13 := Bel.trans (by repeat (first | exact Bel.refl _ | refine Bel.alloc ?_ _ | refine Bel.drew ?_ | refine Bel.drewN ?_ _)) hb13
  have T13 : Bel w w13 := T12.trans B13
  replace xb0 := (B13.cell _ _ lb0).trans xb0
  replace lb0 := Nat.lt_of_lt_of_le lb0 B13.sz
  replace h0 := h0.keep B13
  have HN : Fam w13 w12.heap.size (intF (.slice A_h0r (flowKids z0 n1).length c_h0r) (flowKids z0 n1).length (flowKids z0 n1)) := (intF_of o_h0r).base (by repeat (first | exact Nat.le_refl _ | (simp; done) | (simp; omega)))
  replace HF := HF.more B13 HN hs
  clear HN
  replace hs := Nat.le_trans hs B13.sz
  clear o_h0r
  go_wp2_with fail
  refine (eqIntS_same _ _ _ _ _ _ _ (own_ints (intF_own HF)) (own_ints (intF_own (Fam.f3 HF))) rfl hle).mono ?_
  rintro e w14 ⟨rfl, hb14⟩
  have B14 : Bel w13 w14 := Bel.trans (by repeat (first | exact Bel.refl _ | refine Bel.alloc ?_ _ | refine Bel.drew ?_ | refine Bel.drewN ?_ _)) hb14
  have T14 : Bel w w14 := T13.trans B14
  replace xb0 := (B14.cell _ _ lb0).trans xb0
  replace lb0 := Nat.lt_of_lt_of_le lb0 B14.sz
  replace h0 := h0.keep B14
  replace HF := HF.keep B14
  replace hs := Nat.le_trans hs B14.sz
  go_wp2_with fail
  refine (heldIntS_c _ _ _ _ _ (own_ints (intF_own (Fam.f2 HF))) (by omega) (by omega)).mono ?_
  rintro e w15 ⟨rfl, hb15⟩
  have B15 : Bel w14 w15 := Bel.trans (by repeat (first | exact Bel.refl _ | refine Bel.alloc ?_ _ | refine Bel.drew ?_ | refine Bel.drewN ?_ _)) hb15
  have T15 : Bel w w15 := T14.trans B15
  replace xb0 := (B15.cell _ _ lb0).trans xb0
  replace lb0 := Nat.lt_of_lt_of_le lb0 B15.sz
  replace h0 := h0.keep B15
  replace HF := HF.keep B15
  replace hs := Nat.le_trans hs B15.sz
  go_wp2_with fail
  go_ret
  exact ⟨rfl, T15⟩

set_option maxRecDepth 100000 in
theorem ExactFlowKids_lifted (os : Os) (started : os.Started) (H : Type) (enc : TypeId × Value → H) :
    ReturnsInHanded {} Try.checked os 5 .any (Rows.fnExactFlowKidsSpec.pre6 enc Try.prog Try.f5 Rows.fnExactFlowKidsRow.domain false) (Rows.fnExactFlowKidsSpec.post enc Try.prog Try.f5 false true false false) := by
  refine law_lifted (C := Try.checked) (tb := 4) own started (by kernel_rfl) Try.func5 laidOut rfl rfl Try.underlying4 (by kernel_rfl)
    (fun ds h => match ds, h with | [_, _], _ => rfl)
    (ChangeSpec.witness6 (enc := enc) (C := Try.checked) false ⟨#[], #[.agg #[.slice none 0 0], .int .i64 0], []⟩ 8 (by kernel_rfl) (by kernel_rfl) (by kernel_rfl) (by kernel_rfl)) ?_
  intro W base args ds ps hval0 hA0
  have hval : ∀ (j : Nat) t v, Try.f5.params[j]? = some t → args[j]? = some v → Value.okWide Try.prog W .any base t v := hval0
  have hA : DataW.TrodAll enc Try.prog W 0 (fun _ => true) true Try.f5.params.toList args.toList ds ps := hA0
  clear hval0 hA0
  rw [Try.params5] at hA hval
  obtain ⟨v0, v1, d0, d1, p0, p1, rfl, rfl, rfl, g0, g1⟩ := trodAll_two hA
  obtain ⟨A0, c0, z0, rfl, k0, k0', -, -, h0⟩ := open_tree (ti := 3) (tk := 26) (tb := 4) (tr := 37) (er := 108) (tst := [3, 3, 3, 3, 3, 3, 4, 4, 3, 3, 3, 3, 3, 3, 3, 3, 3, 3, 3, 3, 3, 3, 3, 3, 3, 3, 3, 3, 3, 3, 3, 3, 3, 3, 3, 3, 3, 3, 3, 3, 3, 3, 3, 3, 3, 3, 3, 3, 3, 3, 3, 3, 3, 3, 3, 3, 3, 3, 3, 3]) (rts := [3, 3, 3]) (ts := 3 :: 26 :: ([3, 3, 3, 3, 3, 3, 4, 4, 3, 3, 3, 3, 3, 3, 3, 3, 3, 3, 3, 3, 3, 3, 3, 3, 3, 3, 3, 3, 3, 3, 3, 3, 3, 3, 3, 3, 3, 3, 3, 3, 3, 3, 3, 3, 3, 3, 3, 3, 3, 3, 3, 3, 3, 3, 3, 3, 3, 3, 3, 3] ++ [4, 37])) Try.underlying24 (by kernel_rfl) Try.underlying22 (by kernel_rfl) rfl (by kernel_rfl) Try.underlying3 (by kernel_rfl) Try.underlying26 (by kernel_rfl) Try.underlying4 Try.underlying37 (by kernel_rfl) (by kernel_rfl) (by kernel_rfl) (hval 0 24 v0 rfl rfl) g0
  obtain ⟨n1, i1, rfl⟩ := open_num Try.underlying3 (hval 1 3 v1 rfl rfl) g1
  exact lawFlowKids_c _ _ _ _ W h0 (by unfold maxLen at k0'; omega) i1

theorem ExactFlowKids_holds : Rows.FnExactFlowKidsSaid :=
  OpenClaim.holds_of_wide 5 Try.f5 rfl rfl rfl rfl rfl rfl rfl ⟨rfl, rfl, rfl, rfl, rfl⟩ rfl rfl rfl rfl rfl (by kernel_rfl) Try.func5 (by kernel_rfl)
    (of_decide_eq_true (by kernel_rfl)) (by unfold Func.isWrapper; first | (rw [if_pos (by decide +kernel)]; kernel_rfl) | (rw [if_neg (by decide +kernel)]; exact ⟨rfl, rfl⟩))
    (fun os started H enc _ => ExactFlowKids_lifted os started H enc)
#print axioms ExactFlowKids_holds
end Go.Proofs.Ytcdneamoemmohaa
