/- The law FnExactInsertKid returns true for every argument, and leaves its arguments as they were. No condition. -/
import Derived.Test.YtcdneamoemmohaaInsKid
import Derived.OpenShut
import Derived.Deep.RegionWith
import Derived.Deep.RegionHeld3
namespace Go.Proofs.Ytcdneamoemmohaa
open Go.ChangeShapes Go.WideShapes Go.ChangeAt Go.RowKit
set_option linter.unusedVariables false
set_option linter.unusedSimpArgs false

theorem own : ownKnob Try.prog.godebug = none := by kernel_rfl
theorem laidOut : laidOutB Try.prog = true := by kernel_rfl

set_option maxRecDepth 100000 in
set_option maxHeartbeats 32000000 in
theorem lawInsertKid_c (A0 : Option Addr) (c0 : Nat) (z0 : List NodeD) (n1 : Int) (n2 : Int) (n3 : Int) (w : World) (h0 : Nodes w A0 z0) (hcap0 : z0.length ≤ 9223372036854775807) (i1 : In64 n1) (i2 : In64 n2) (i3 : In64 n3) :
    Calls Try.prog 8 #[.agg #[.slice A0 z0.length c0], .int .i64 n1, .int .i64 n2, .int .i64 n3] w fun r w' => r = .returned (.bool true) ∧ Bel w w' := by
  by_cases s0 : (treeSz z0 : Int) ≤ 1048576
  rotate_left
  ·
    go_enter Try.func8, Try.ntmps8
    go_wp2_with fail
    refine (szTree_c _ _ _ _ _ (h0.keep (by repeat (first | exact Bel.refl _ | refine Bel.alloc ?_ _))) (by omega) (by omega)).mono ?_
    rintro e w1 ⟨rfl, hb1⟩
    have B1 : Bel w w1 := Bel.trans (by repeat (first | exact Bel.refl _ | refine Bel.alloc ?_ _ | refine Bel.drew ?_ | refine Bel.drewN ?_ _)) hb1
    have T1 : Bel w w1 := B1
    have xb0 : w1.cell? ⟨w.heap.size, 0, none⟩ = some (.slice A0 z0.length c0) := (hb1.cell _ _ (by first | (simp; done) | (simp; omega))).trans (by simp)
    have lb0 : w.heap.size < w1.heap.size := by have := hb1.sz; simp at this; omega
    replace h0 := h0.keep B1
    rw [if_neg (by omega)]
    go_wp2_with fail
    go_ret
    exact ⟨rfl, T1⟩
  have m0 : treeSz z0 ≤ 1048576 := by omega
  go_enter Try.func8, Try.ntmps8
  have h00 := h0
  go_wp2_with fail
  refine (szTree_c _ _ _ _ _ (h0.keep (by repeat (first | exact Bel.refl _ | refine Bel.alloc ?_ _))) (by omega) (by omega)).mono ?_
  rintro e w1 ⟨rfl, hb1⟩
  have B1 : Bel w w1 := Bel.trans (by repeat (first | exact Bel.refl _ | refine Bel.alloc ?_ _ | refine Bel.drew ?_ | refine Bel.drewN ?_ _)) hb1
  have T1 : Bel w w1 := B1
  have xb0 : w1.cell? ⟨w.heap.size, 0, none⟩ = some (.slice A0 z0.length c0) := (hb1.cell _ _ (by first | (simp; done) | (simp; omega))).trans (by simp)
  have lb0 : w.heap.size < w1.heap.size := by have := hb1.sz; simp at this; omega
  replace h0 := h0.keep B1
  rw [if_pos s0]
  have hBS : w.heap.size ≤ w1.heap.size := T1.sz
  have HF : Fam w1 w1.heap.size [] := Fam.nil _ _
  have hs : w1.heap.size ≤ w1.heap.size := Nat.le_refl _
  have lbb0 := lb0
  have hzR : treeSz ((insertKidT z0 n1 n2 n3).1) ≤ 1048576 := insertKidT_sz m0
  go_wp2_with fail
  refine (toTree_c _ _ _ _ (h0.keep (by repeat (first | exact Bel.refl _ | refine Bel.alloc ?_ _ | refine Bel.drew ?_))) m0).mono ?_
  rintro e w2 ⟨g_S0, rfl, o_S0, hb2⟩
  obtain ⟨KS_S0, RS_S0, k1_S0, k2_S0, f_S0⟩ := o_S0
  have B2 : Bel w1 w2 := Bel.trans (by repeat (first | exact Bel.refl _ | refine Bel.alloc ?_ _ | refine Bel.drew ?_ | refine Bel.drewN ?_ _)) hb2
  have T2 : Bel w w2 := T1.trans B2
  replace xb0 := (B2.cell _ _ lb0).trans xb0
  replace lb0 := Nat.lt_of_lt_of_le lb0 B2.sz
  replace h0 := h0.keep B2
  have HN : Fam w2 w1.heap.size (treeF (.slice (some ⟨g_S0, 0, none⟩) z0.length z0.length) z0 KS_S0 RS_S0) := (f_S0).base (by repeat (first | exact Nat.le_refl _ | (simp; done) | (simp; omega)))
  replace HF := HF.more B2 HN hs
  clear HN
  replace hs := Nat.le_trans hs B2.sz
  clear f_S0
  go_wp2_with fail
  refine (sInsertKid_c _ _ _ _ _ _ _ ((treeF_nodesK k1_S0 k2_S0 HF).keep (by repeat (first | exact Bel.refl _ | refine Bel.alloc ?_ _))) m0).mono ?_
  rintro e w3 ⟨A_w0, c_w0, rfl, t_w0, hb3⟩
  obtain ⟨KS_w0, RS_w0, k1_w0, k2_w0, f_w0⟩ := t_w0
  have B3 : Bel w2 w3 := Bel.trans (by repeat (first | exact Bel.refl _ | refine Bel.alloc ?_ _ | refine Bel.drew ?_ | refine Bel.drewN ?_ _)) hb3
  have T3 : Bel w w3 := T2.trans B3
  replace xb0 := (B3.cell _ _ lb0).trans xb0
  replace lb0 := Nat.lt_of_lt_of_le lb0 B3.sz
  replace h0 := h0.keep B3
  have HN : Fam w3 w2.heap.size (treeF (.slice A_w0 ((insertKidT z0 n1 n2 n3).1).length c_w0) ((insertKidT z0 n1 n2 n3).1) KS_w0 RS_w0) := (f_w0).base (by repeat (first | exact Nat.le_refl _ | (simp; done) | (simp; omega)))
  replace HF := HF.more B3 HN hs
  clear HN
  replace hs := Nat.le_trans hs B3.sz
  clear f_w0
  replace HF := Fam.f1 HF
  replace HF := HF.tail1
  have xab0 := (((Bel.refl w3).alloc (.cells #[.slice A_w0 ((insertKidT z0 n1 n2 n3).1).length c_w0] 30)).cell _ _ lb0).trans xb0
  go_wp2_with fail
  clear xab0
  obtain ⟨w4, hwB⟩ : ∃ u, u = (w3.alloc (.cells #[.slice A_w0 ((insertKidT z0 n1 n2 n3).1).length c_w0] 30)) := ⟨_, rfl⟩
  rw [← hwB]
  have hb4 : Bel w3 w4 := by rw [hwB]; exact (Bel.refl _).alloc _
  have HN0 : Fam w4 w3.heap.size (boxF w3.heap.size (.slice A_w0 ((insertKidT z0 n1 n2 n3).1).length c_w0)) := by rw [hwB]; exact boxF_new _ _
  have xw0b : w4.cell? ⟨w3.heap.size, 0, none⟩ = some (.slice A_w0 ((insertKidT z0 n1 n2 n3).1).length c_w0) := by rw [hwB]; exact (new_cell1 _ _ _).1
  have lw0b : w3.heap.size < w4.heap.size := by rw [hwB]; simp
  clear hwB
  have B4 : Bel w3 w4 := Bel.trans (by repeat (first | exact Bel.refl _ | refine Bel.alloc ?_ _ | refine Bel.drew ?_ | refine Bel.drewN ?_ _)) hb4
  have T4 : Bel w w4 := T3.trans B4
  replace xb0 := (B4.cell _ _ lb0).trans xb0
  replace lb0 := Nat.lt_of_lt_of_le lb0 B4.sz
  replace h0 := h0.keep B4
  have HN : Fam w4 w3.heap.size (boxF w3.heap.size (.slice A_w0 ((insertKidT z0 n1 n2 n3).1).length c_w0)) := (HN0).base (by repeat (first | exact Nat.le_refl _ | (simp; done) | (simp; omega)))
  replace HF := HF.more B4 HN hs
  clear HN
  replace hs := Nat.le_trans hs B4.sz
  clear HN0
  refine (toTree_c _ _ _ _ (h0.keep (by repeat (first | exact Bel.refl _ | refine Bel.alloc ?_ _ | refine Bel.drew ?_))) m0).mono ?_
  rintro e w5 ⟨g_X0, rfl, o_X0, hb5⟩
  obtain ⟨KS_X0, RS_X0, k1_X0, k2_X0, f_X0⟩ := o_X0
  have B5 : Bel w4 w5 := Bel.trans (by repeat (first | exact Bel.refl _ | refine Bel.alloc ?_ _ | refine Bel.drew ?_ | refine Bel.drewN ?_ _)) hb5
  have T5 : Bel w w5 := T4.trans B5
  replace xb0 := (B5.cell _ _ lb0).trans xb0
  replace lb0 := Nat.lt_of_lt_of_le lb0 B5.sz
  replace xw0b := (B5.cell _ _ lw0b).trans xw0b
  replace lw0b := Nat.lt_of_lt_of_le lw0b B5.sz
  replace h0 := h0.keep B5
  have HN : Fam w5 w4.heap.size (treeF (.slice (some ⟨g_X0, 0, none⟩) z0.length z0.length) z0 KS_X0 RS_X0) := (f_X0).base (by repeat (first | exact Nat.le_refl _ | (simp; done) | (simp; omega)))
  replace HF := HF.more B5 HN hs
  clear HN
  replace hs := Nat.le_trans hs B5.sz
  clear f_X0
  go_wp2_with fail
  refine (iInsertKid_c _ _ _ _ _ _ _ ((treeF_nodesK k1_X0 k2_X0 HF).keep (by repeat (first | exact Bel.refl _ | refine Bel.alloc ?_ _))) m0).mono ?_
  rintro e w6 ⟨A_g0, c_g0, rfl, t_g0, hb6⟩
  obtain ⟨KS_g0, RS_g0, k1_g0, k2_g0, f_g0⟩ := t_g0
  have B6 : Bel w5 w6 := Bel.trans (by repeat (first | exact Bel.refl _ | refine Bel.alloc ?_ _ | refine Bel.drew ?_ | refine Bel.drewN ?_ _)) hb6
  have T6 : Bel w w6 := T5.trans B6
  replace xb0 := (B6.cell _ _ lb0).trans xb0
  replace lb0 := Nat.lt_of_lt_of_le lb0 B6.sz
  replace xw0b := (B6.cell _ _ lw0b).trans xw0b
  replace lw0b := Nat.lt_of_lt_of_le lw0b B6.sz
  have xx0 : w6.cell? ⟨w5.heap.size, 0, none⟩ = some (.slice (some ⟨g_X0, 0, none⟩) z0.length z0.length) := (hb6.cell _ _ (by first | (simp; done) | (simp; omega))).trans (by simp)
  have lx0 : w5.heap.size < w6.heap.size := by have := hb6.sz; simp at this; omega
  replace h0 := h0.keep B6
  have HN : Fam w6 w5.heap.size (treeF (.slice A_g0 ((insertKidT z0 n1 n2 n3).1).length c_g0) ((insertKidT z0 n1 n2 n3).1) KS_g0 RS_g0) := (f_g0).base (by repeat (first | exact Nat.le_refl _ | (simp; done) | (simp; omega)))
  replace HF := HF.more B6 HN hs
  clear HN
  replace hs := Nat.le_trans hs B6.sz
  clear f_g0
  have xab0 := (((Bel.refl w6).alloc (.cells #[.slice A_g0 ((insertKidT z0 n1 n2 n3).1).length c_g0] 30)).cell _ _ lb0).trans xb0
  have xaw0b := (((Bel.refl w6).alloc (.cells #[.slice A_g0 ((insertKidT z0 n1 n2 n3).1).length c_g0] 30)).cell _ _ lw0b).trans xw0b
  have xax0 := (((Bel.refl w6).alloc (.cells #[.slice A_g0 ((insertKidT z0 n1 n2 n3).1).length c_g0] 30)).cell _ _ lx0).trans xx0
  go_wp2_with fail
  clear xab0
  clear xaw0b
  clear xax0
  obtain ⟨w7, hwB⟩ : ∃ u, u = (w6.alloc (.cells #[.slice A_g0 ((insertKidT z0 n1 n2 n3).1).length c_g0] 30)) := ⟨_, rfl⟩
  rw [← hwB]
  have hb7 : Bel w6 w7 := by rw [hwB]; exact (Bel.refl _).alloc _
  have HN0 : Fam w7 w6.heap.size (boxF w6.heap.size (.slice A_g0 ((insertKidT z0 n1 n2 n3).1).length c_g0)) := by rw [hwB]; exact boxF_new _ _
  have xg0b : w7.cell? ⟨w6.heap.size, 0, none⟩ = some (.slice A_g0 ((insertKidT z0 n1 n2 n3).1).length c_g0) := by rw [hwB]; exact (new_cell1 _ _ _).1
  have lg0b : w6.heap.size < w7.heap.size := by rw [hwB]; simp
  clear hwB
  have B7 : Bel w6 w7 := Bel.trans (by repeat (first | exact Bel.refl _ | refine Bel.alloc ?_ _ | refine Bel.drew ?_ | refine Bel.drewN ?_ _)) hb7
  have T7 : Bel w w7 := T6.trans B7
  replace xb0 := (B7.cell _ _ lb0).trans xb0
  replace lb0 := Nat.lt_of_lt_of_le lb0 B7.sz
  replace xw0b := (B7.cell _ _ lw0b).trans xw0b
  replace lw0b := Nat.lt_of_lt_of_le lw0b B7.sz
  replace xx0 := (B7.cell _ _ lx0).trans xx0
  replace lx0 := Nat.lt_of_lt_of_le lx0 B7.sz
  replace h0 := h0.keep B7
  have HN : Fam w7 w6.heap.size (boxF w6.heap.size (.slice A_g0 ((insertKidT z0 n1 n2 n3).1).length c_g0)) := (HN0).base (by repeat (first | exact Nat.le_refl _ | (simp; done) | (simp; omega)))
  replace HF := HF.more B7 HN hs
  clear HN
  replace hs := Nat.le_trans hs B7.sz
  clear HN0
  refine (eqTree_c _ _ _ _ _ _ (treeF_nodesA k1_g0 k2_g0 (Fam.f1 HF)) (treeF_nodesA k1_w0 k2_w0 (Fam.f4 HF)) hzR).mono ?_
  rintro e w8 ⟨rfl, hb8⟩
  have B8 : Bel w7 w8 := Bel.trans (by repeat (first | exact Bel.refl _ | refine Bel.alloc ?_ _ | refine Bel.drew ?_ | refine Bel.drewN ?_ _)) hb8
  have T8 : Bel w w8 := T7.trans B8
  replace xb0 := (B8.cell _ _ lb0).trans xb0
  replace lb0 := Nat.lt_of_lt_of_le lb0 B8.sz
  replace xw0b := (B8.cell _ _ lw0b).trans xw0b
  replace lw0b := Nat.lt_of_lt_of_le lw0b B8.sz
  replace xx0 := (B8.cell _ _ lx0).trans xx0
  replace lx0 := Nat.lt_of_lt_of_le lx0 B8.sz
  replace xg0b := (B8.cell _ _ lg0b).trans xg0b
  replace lg0b := Nat.lt_of_lt_of_le lg0b B8.sz
  replace h0 := h0.keep B8
  replace HF := HF.keep B8
  replace hs := Nat.le_trans hs B8.sz
  have VX0 := (treeF_nodesK k1_X0 k2_X0 (Fam.f2 HF))
  go_wp2_with fail
  have hd0 : Bel w8 (w8).drew := by repeat (first | exact Bel.refl _ | refine Bel.drew ?_ | refine Bel.alloc ?_ _)
  have xdb0 : ((w8).drew).cell? ⟨w.heap.size, 0, none⟩ = some (.slice A0 z0.length c0) := (hd0.cell _ _ lb0).trans xb0
  have ldb0 : w.heap.size < ((w8).drew).heap.size := Nat.lt_of_lt_of_le lb0 hd0.sz
  have xdw0b : ((w8).drew).cell? ⟨w3.heap.size, 0, none⟩ = some (.slice A_w0 ((insertKidT z0 n1 n2 n3).1).length c_w0) := (hd0.cell _ _ lw0b).trans xw0b
  have ldw0b : w3.heap.size < ((w8).drew).heap.size := Nat.lt_of_lt_of_le lw0b hd0.sz
  have xdx0 : ((w8).drew).cell? ⟨w5.heap.size, 0, none⟩ = some (.slice (some ⟨g_X0, 0, none⟩) z0.length z0.length) := (hd0.cell _ _ lx0).trans xx0
  have ldx0 : w5.heap.size < ((w8).drew).heap.size := Nat.lt_of_lt_of_le lx0 hd0.sz
  have xdg0b : ((w8).drew).cell? ⟨w6.heap.size, 0, none⟩ = some (.slice A_g0 ((insertKidT z0 n1 n2 n3).1).length c_g0) := (hd0.cell _ _ lg0b).trans xg0b
  have ldg0b : w6.heap.size < ((w8).drew).heap.size := Nat.lt_of_lt_of_le lg0b hd0.sz
  have tok0 : True := trivial
  have tok1 : True := trivial
  go_region_held3 (fun u => Bel w8 u ∧ u.cell? ⟨w.heap.size, 0, none⟩ = some (.slice A0 z0.length c0) ∧ u.cell? ⟨w3.heap.size, 0, none⟩ = some (.slice A_w0 ((insertKidT z0 n1 n2 n3).1).length c_w0) ∧ u.cell? ⟨w5.heap.size, 0, none⟩ = some (.slice (some ⟨g_X0, 0, none⟩) z0.length z0.length) ∧ u.cell? ⟨w6.heap.size, 0, none⟩ = some (.slice A_g0 ((insertKidT z0 n1 n2 n3).1).length c_g0))
    ((first | exact ⟨bq1, yb0_1, yw0b_1, yx0_1, yg0b_1⟩ | exact ⟨bq0, yb0_0, yw0b_0, yx0_0, yg0b_0⟩ | exact ⟨hd0, xdb0, xdw0b, xdx0, xdg0b⟩))
    (first | (go_at_call 13; have _t := tok0; refine (toTree_c _ _ _ _ (h0.keep hd0) m0).mono ?_; rintro e u0 ⟨g_Q, rfl, o_Q, hq0⟩; have bq0 : Bel w8 u0 := hd0.trans hq0; have yb0_0 := (hq0.cell _ _ ldb0).trans xdb0; have nb0_0 : w.heap.size < u0.heap.size := Nat.lt_of_lt_of_le ldb0 hq0.sz; have yw0b_0 := (hq0.cell _ _ ldw0b).trans xdw0b; have nw0b_0 : w3.heap.size < u0.heap.size := Nat.lt_of_lt_of_le ldw0b hq0.sz; have yx0_0 := (hq0.cell _ _ ldx0).trans xdx0; have nx0_0 : w5.heap.size < u0.heap.size := Nat.lt_of_lt_of_le ldx0 hq0.sz; have yg0b_0 := (hq0.cell _ _ ldg0b).trans xdg0b; have ng0b_0 : w6.heap.size < u0.heap.size := Nat.lt_of_lt_of_le ldg0b hq0.sz; have Q0 := (o_Q).nodes1; clear o_Q; clear tok0 _t) | (go_at_call 16; have _t := tok1; refine (eqTree_c _ _ _ _ _ _ (VX0.keep bq0).nodes Q0 m0).mono ?_; rintro e w9 ⟨rfl, hq1⟩; have bq1 : Bel w8 w9 := bq0.trans hq1; have yb0_1 := (hq1.cell _ _ nb0_0).trans yb0_0; have nb0_1 : w.heap.size < w9.heap.size := Nat.lt_of_lt_of_le nb0_0 hq1.sz; have yw0b_1 := (hq1.cell _ _ nw0b_0).trans yw0b_0; have nw0b_1 : w3.heap.size < w9.heap.size := Nat.lt_of_lt_of_le nw0b_0 hq1.sz; have yx0_1 := (hq1.cell _ _ nx0_0).trans yx0_0; have nx0_1 : w5.heap.size < w9.heap.size := Nat.lt_of_lt_of_le nx0_0 hq1.sz; have yg0b_1 := (hq1.cell _ _ ng0b_0).trans yg0b_0; have ng0b_1 : w6.heap.size < w9.heap.size := Nat.lt_of_lt_of_le ng0b_0 hq1.sz; clear Q0 VX0; clear tok1 _t))
  have B9 : Bel w8 w9 := bq1
  have T9 : Bel w w9 := T8.trans B9
  replace xb0 := yb0_1
  replace lb0 := nb0_1
  replace xw0b := yw0b_1
  replace lw0b := nw0b_1
  replace xx0 := yx0_1
  replace lx0 := nx0_1
  replace xg0b := yg0b_1
  replace lg0b := ng0b_1
  replace h0 := h0.keep B9
  clear bq0 hq0 yb0_0 nb0_0 yw0b_0 nw0b_0 yx0_0 nx0_0 yg0b_0 ng0b_0
  clear bq1 hq1 hd0 yb0_1 nb0_1 xdb0 ldb0 yw0b_1 nw0b_1 xdw0b ldw0b yx0_1 nx0_1 xdx0 ldx0 yg0b_1 ng0b_1 xdg0b ldg0b
  replace HF := HF.keep B9
  replace hs := Nat.le_trans hs B9.sz
  go_wp2_with fail
  clear xw0b lw0b
  clear xg0b lg0b
  replace HF := Fam.f2 HF
  refine (markTree_c _ _ _ _ _ _ _ _ _ k1_X0 k2_X0 HF hs m0 (by omega)).mono ?_
  rintro e w10 ⟨rfl, HF', hlow⟩
  replace HF := HF'
  clear HF'
  have B10 : Below w1.heap.size w9 w10 := hlow
  have T10 : Bel w w10 := T9.belowT hlow hBS
  replace xb0 := (Below.cell (p := ⟨w.heap.size, 0, none⟩) hlow lbb0).trans xb0
  replace lb0 := Nat.lt_of_lt_of_le lb0 hlow.size
  replace h0 := h00.keep T10
  replace hs := Nat.le_trans hs hlow.size
  clear hlow
  have xw0b := boxF_cell (Fam.f3 HF)
  have lw0b := World.block_lt_of_cell? _ _ xw0b
  have xg0b := boxF_cell (Fam.f1 HF)
  have lg0b := World.block_lt_of_cell? _ _ xg0b
  replace HF := HF.tail1
  go_wp2_with fail
  refine (eqTree_c _ _ _ _ _ _ (treeF_nodesA k1_g0 k2_g0 (Fam.f1 HF)) (treeF_nodesA k1_w0 k2_w0 (Fam.f3 HF)) hzR).mono ?_
  rintro e w11 ⟨rfl, hb11⟩
  have B11 : Bel w10 w11 := Bel.trans (by repeat (first | exact Bel.refl _ | refine Bel.alloc ?_ _ | refine Bel.drew ?_ | refine Bel.drewN ?_ _)) hb11
  have T11 : Bel w w11 := T10.trans B11
  replace xb0 := (B11.cell _ _ lb0).trans xb0
  replace lb0 := Nat.lt_of_lt_of_le lb0 B11.sz
  replace xw0b := (B11.cell _ _ lw0b).trans xw0b
  replace lw0b := Nat.lt_of_lt_of_le lw0b B11.sz
  replace xg0b := (B11.cell _ _ lg0b).trans xg0b
  replace lg0b := Nat.lt_of_lt_of_le lg0b B11.sz
  replace h0 := h0.keep B11
  replace HF := HF.keep B11
  replace hs := Nat.le_trans hs B11.sz
  go_wp2_with fail
  replace HF := Fam.f1 HF
  clear xw0b lw0b
  clear xg0b lg0b
  refine (markTree_c _ _ _ _ _ _ _ _ _ k1_g0 k2_g0 HF hs hzR (by omega)).mono ?_
  rintro e w12 ⟨rfl, HF', hlow⟩
  replace HF := HF'
  clear HF'
  have B12 : Below w1.heap.size w11 w12 := hlow
  have T12 : Bel w w12 := T11.belowT hlow hBS
  replace xb0 := (Below.cell (p := ⟨w.heap.size, 0, none⟩) hlow lbb0).trans xb0
  replace lb0 := Nat.lt_of_lt_of_le lb0 hlow.size
  replace h0 := h00.keep T12
  replace hs := Nat.le_trans hs hlow.size
  clear hlow
  have xw0b := boxF_cell (Fam.f2 HF)
  have lw0b := World.block_lt_of_cell? _ _ xw0b
  have xg0b := boxF_cell (Fam.f1 HF)
  have lg0b := World.block_lt_of_cell? _ _ xg0b
  go_wp2_with fail
  refine (heldTree_c _ _ _ _ _ _ _ _ _ k1_g0 k2_g0 HF hzR (by omega)).mono ?_
  rintro e w13 ⟨rfl, hb13⟩
  have B13 : Bel w12 w13 := Bel.trans (by repeat (first | exact Bel.refl _ | refine Bel.alloc ?_ _ | refine Bel.drew ?_ | refine Bel.drewN ?_ _)) hb13
  have T13 : Bel w w13 := T12.trans B13
  replace xb0 := (B13.cell _ _ lb0).trans xb0
  replace lb0 := Nat.lt_of_lt_of_le lb0 B13.sz
  replace xw0b := (B13.cell _ _ lw0b).trans xw0b
  replace lw0b := Nat.lt_of_lt_of_le lw0b B13.sz
  replace xg0b := (B13.cell _ _ lg0b).trans xg0b
  replace lg0b := Nat.lt_of_lt_of_le lg0b B13.sz
  replace h0 := h0.keep B13
  replace HF := HF.keep B13
  replace hs := Nat.le_trans hs B13.sz
  go_wp2_with fail
  refine (toTree_c _ _ _ _ (h0.keep (by repeat (first | exact Bel.refl _ | refine Bel.alloc ?_ _ | refine Bel.drew ?_))) m0).mono ?_
  rintro e w14 ⟨g_Y0, rfl, o_Y0, hb14⟩
  obtain ⟨KS_Y0, RS_Y0, k1_Y0, k2_Y0, f_Y0⟩ := o_Y0
  have B14 : Bel w13 w14 := Bel.trans (by repeat (first | exact Bel.refl _ | refine Bel.alloc ?_ _ | refine Bel.drew ?_ | refine Bel.drewN ?_ _)) hb14
  have T14 : Bel w w14 := T13.trans B14
  replace xb0 := (B14.cell _ _ lb0).trans xb0
  replace lb0 := Nat.lt_of_lt_of_le lb0 B14.sz
  replace xw0b := (B14.cell _ _ lw0b).trans xw0b
  replace lw0b := Nat.lt_of_lt_of_le lw0b B14.sz
  replace xg0b := (B14.cell _ _ lg0b).trans xg0b
  replace lg0b := Nat.lt_of_lt_of_le lg0b B14.sz
  replace h0 := h0.keep B14
  have HN : Fam w14 w13.heap.size (treeF (.slice (some ⟨g_Y0, 0, none⟩) z0.length z0.length) z0 KS_Y0 RS_Y0) := (f_Y0).base (by repeat (first | exact Nat.le_refl _ | (simp; done) | (simp; omega)))
  replace HF := HF.more B14 HN hs
  clear HN
  replace hs := Nat.le_trans hs B14.sz
  clear f_Y0
  go_wp2_with fail
  refine (iInsertKid_c _ _ _ _ _ _ _ ((treeF_nodesK k1_Y0 k2_Y0 HF).keep (by repeat (first | exact Bel.refl _ | refine Bel.alloc ?_ _))) m0).mono ?_
  rintro e w15 ⟨A_h0r, c_h0r, rfl, t_h0r, hb15⟩
  obtain ⟨KS_h0r, RS_h0r, k1_h0r, k2_h0r, f_h0r⟩ := t_h0r
  have B15 : Bel w14 w15 := Bel.trans (by repeat (first | exact Bel.refl _ | refine Bel.alloc ?_ _ | refine Bel.drew ?_ | refine Bel.drewN ?_ _)) hb15
  have T15 : Bel w w15 := T14.trans B15
  replace xb0 := (B15.cell _ _ lb0).trans xb0
  replace lb0 := Nat.lt_of_lt_of_le lb0 B15.sz
  replace xw0b := (B15.cell _ _ lw0b).trans xw0b
  replace lw0b := Nat.lt_of_lt_of_le lw0b B15.sz
  replace xg0b := (B15.cell _ _ lg0b).trans xg0b
  replace lg0b := Nat.lt_of_lt_of_le lg0b B15.sz
  replace h0 := h0.keep B15
  have HN : Fam w15 w14.heap.size (treeF (.slice A_h0r ((insertKidT z0 n1 n2 n3).1).length c_h0r) ((insertKidT z0 n1 n2 n3).1) KS_h0r RS_h0r) := (f_h0r).base (by repeat (first | exact Nat.le_refl _ | (simp; done) | (simp; omega)))
  replace HF := HF.more B15 HN hs
  clear HN
  replace hs := Nat.le_trans hs B15.sz
  clear f_h0r
  have xab0 := (((Bel.refl w15).alloc (.cells #[.slice A_h0r ((insertKidT z0 n1 n2 n3).1).length c_h0r] 30)).cell _ _ lb0).trans xb0
  have xaw0b := (((Bel.refl w15).alloc (.cells #[.slice A_h0r ((insertKidT z0 n1 n2 n3).1).length c_h0r] 30)).cell _ _ lw0b).trans xw0b
  have xag0b := (((Bel.refl w15).alloc (.cells #[.slice A_h0r ((insertKidT z0 n1 n2 n3).1).length c_h0r] 30)).cell _ _ lg0b).trans xg0b
  go_wp2_with fail
  clear xab0
  clear xaw0b
  clear xag0b
  obtain ⟨w16, hwB⟩ : ∃ u, u = (w15.alloc (.cells #[.slice A_h0r ((insertKidT z0 n1 n2 n3).1).length c_h0r] 30)) := ⟨_, rfl⟩
  rw [← hwB]
  have hb16 : Bel w15 w16 := by rw [hwB]; exact (Bel.refl _).alloc _
  have HN0 : Fam w16 w15.heap.size (boxF w15.heap.size (.slice A_h0r ((insertKidT z0 n1 n2 n3).1).length c_h0r)) := by rw [hwB]; exact boxF_new _ _
  have xh0b : w16.cell? ⟨w15.heap.size, 0, none⟩ = some (.slice A_h0r ((insertKidT z0 n1 n2 n3).1).length c_h0r) := by rw [hwB]; exact (new_cell1 _ _ _).1
  have lh0b : w15.heap.size < w16.heap.size := by rw [hwB]; simp
  clear hwB
  have B16 : Bel w15 w16 := Bel.trans (by repeat (first | exact Bel.refl _ | refine Bel.alloc ?_ _ | refine Bel.drew ?_ | refine Bel.drewN ?_ _)) hb16
  have T16 : Bel w w16 := T15.trans B16
  replace xb0 := (B16.cell _ _ lb0).trans xb0
  replace lb0 := Nat.lt_of_lt_of_le lb0 B16.sz
  replace xw0b := (B16.cell _ _ lw0b).trans xw0b
  replace lw0b := Nat.lt_of_lt_of_le lw0b B16.sz
  replace xg0b := (B16.cell _ _ lg0b).trans xg0b
  replace lg0b := Nat.lt_of_lt_of_le lg0b B16.sz
  replace h0 := h0.keep B16
  have HN : Fam w16 w15.heap.size (boxF w15.heap.size (.slice A_h0r ((insertKidT z0 n1 n2 n3).1).length c_h0r)) := (HN0).base (by repeat (first | exact Nat.le_refl _ | (simp; done) | (simp; omega)))
  replace HF := HF.more B16 HN hs
  clear HN
  replace hs := Nat.le_trans hs B16.sz
  clear HN0
  refine (eqTree_c _ _ _ _ _ _ (treeF_nodesA k1_h0r k2_h0r (Fam.f1 HF)) (treeF_nodesA k1_w0 k2_w0 (Fam.f6 HF)) hzR).mono ?_
  rintro e w17 ⟨rfl, hb17⟩
  have B17 : Bel w16 w17 := Bel.trans (by repeat (first | exact Bel.refl _ | refine Bel.alloc ?_ _ | refine Bel.drew ?_ | refine Bel.drewN ?_ _)) hb17
  have T17 : Bel w w17 := T16.trans B17
  replace xb0 := (B17.cell _ _ lb0).trans xb0
  replace lb0 := Nat.lt_of_lt_of_le lb0 B17.sz
  replace xw0b := (B17.cell _ _ lw0b).trans xw0b
  replace lw0b := Nat.lt_of_lt_of_le lw0b B17.sz
  replace xg0b := (B17.cell _ _ lg0b).trans xg0b
  replace lg0b := Nat.lt_of_lt_of_le lg0b B17.sz
  replace xh0b := (B17.cell _ _ lh0b).trans xh0b
  replace lh0b := Nat.lt_of_lt_of_le lh0b B17.sz
  replace h0 := h0.keep B17
  replace HF := HF.keep B17
  replace hs := Nat.le_trans hs B17.sz
  go_wp2_with fail
  refine (heldTree_c _ _ _ _ _ _ _ _ _ k1_g0 k2_g0 (Fam.f3 HF) hzR (by omega)).mono ?_
  rintro e w18 ⟨rfl, hb18⟩
  have B18 : Bel w17 w18 := Bel.trans (by repeat (first | exact Bel.refl _ | refine Bel.alloc ?_ _ | refine Bel.drew ?_ | refine Bel.drewN ?_ _)) hb18
  have T18 : Bel w w18 := T17.trans B18
  replace xb0 := (B18.cell _ _ lb0).trans xb0
  replace lb0 := Nat.lt_of_lt_of_le lb0 B18.sz
  replace xw0b := (B18.cell _ _ lw0b).trans xw0b
  replace lw0b := Nat.lt_of_lt_of_le lw0b B18.sz
  replace xg0b := (B18.cell _ _ lg0b).trans xg0b
  replace lg0b := Nat.lt_of_lt_of_le lg0b B18.sz
  replace xh0b := (B18.cell _ _ lh0b).trans xh0b
  replace lh0b := Nat.lt_of_lt_of_le lh0b B18.sz
  replace h0 := h0.keep B18
  replace HF := HF.keep B18
  replace hs := Nat.le_trans hs B18.sz
  go_wp2_with fail
  go_ret
  exact ⟨rfl, T18⟩

set_option maxRecDepth 100000 in
theorem ExactInsertKid_lifted (os : Os) (started : os.Started) (H : Type) (enc : TypeId × Value → H) :
    ReturnsInHanded {} Try.checked os 8 .any (Rows.fnExactInsertKidSpec.pre6 enc Try.prog Try.f8 Rows.fnExactInsertKidRow.domain false) (Rows.fnExactInsertKidSpec.post enc Try.prog Try.f8 false true false false) := by
  refine law_lifted (C := Try.checked) (tb := 4) own started (by kernel_rfl) Try.func8 laidOut rfl rfl Try.underlying4 (by kernel_rfl)
    (fun ds h => match ds, h with | [_, _, _, _], _ => rfl)
    (ChangeSpec.witness6 (enc := enc) (C := Try.checked) false ⟨#[], #[.agg #[.slice none 0 0], .int .i64 0, .int .i64 0, .int .i64 0], []⟩ 8 (by kernel_rfl) (by kernel_rfl) (by kernel_rfl) (by kernel_rfl)) ?_
  intro W base args ds ps hval0 hA0
  have hval : ∀ (j : Nat) t v, Try.f8.params[j]? = some t → args[j]? = some v → Value.okWide Try.prog W .any base t v := hval0
  have hA : DataW.TrodAll enc Try.prog W 0 (fun _ => true) true Try.f8.params.toList args.toList ds ps := hA0
  clear hval0 hA0
  rw [Try.params8] at hA hval
  obtain ⟨v0, v1, v2, v3, d0, d1, d2, d3, p0, p1, p2, p3, rfl, rfl, rfl, g0, g1, g2, g3⟩ := trodAll_four hA
  obtain ⟨A0, c0, z0, rfl, k0, k0', -, -, h0⟩ := open_tree (ti := 3) (tk := 26) (tb := 4) (tr := 37) (er := 108) (tst := [3, 3, 3, 3, 3, 3, 4, 4, 3, 3, 3, 3, 3, 3, 3, 3, 3, 3, 3, 3, 3, 3, 3, 3, 3, 3, 3, 3, 3, 3, 3, 3, 3, 3, 3, 3, 3, 3, 3, 3, 3, 3, 3, 3, 3, 3, 3, 3, 3, 3, 3, 3, 3, 3, 3, 3, 3, 3, 3, 3]) (rts := [3, 3, 3]) (ts := 3 :: 26 :: ([3, 3, 3, 3, 3, 3, 4, 4, 3, 3, 3, 3, 3, 3, 3, 3, 3, 3, 3, 3, 3, 3, 3, 3, 3, 3, 3, 3, 3, 3, 3, 3, 3, 3, 3, 3, 3, 3, 3, 3, 3, 3, 3, 3, 3, 3, 3, 3, 3, 3, 3, 3, 3, 3, 3, 3, 3, 3, 3, 3] ++ [4, 37])) Try.underlying24 (by kernel_rfl) Try.underlying22 (by kernel_rfl) rfl (by kernel_rfl) Try.underlying3 (by kernel_rfl) Try.underlying26 (by kernel_rfl) Try.underlying4 Try.underlying37 (by kernel_rfl) (by kernel_rfl) (by kernel_rfl) (hval 0 24 v0 rfl rfl) g0
  obtain ⟨n1, i1, rfl⟩ := open_num Try.underlying3 (hval 1 3 v1 rfl rfl) g1
  obtain ⟨n2, i2, rfl⟩ := open_num Try.underlying3 (hval 2 3 v2 rfl rfl) g2
  obtain ⟨n3, i3, rfl⟩ := open_num Try.underlying3 (hval 3 3 v3 rfl rfl) g3
  exact lawInsertKid_c _ _ _ _ _ _ W h0 (by unfold maxLen at k0'; omega) i1 i2 i3

theorem ExactInsertKid_holds : Rows.FnExactInsertKidSaid :=
  OpenClaim.holds_of_wide 8 Try.f8 rfl rfl rfl rfl rfl rfl rfl ⟨rfl, rfl, rfl, rfl, rfl⟩ rfl rfl rfl rfl rfl (by kernel_rfl) Try.func8 (by kernel_rfl)
    (of_decide_eq_true (by kernel_rfl)) (by unfold Func.isWrapper; first | (rw [if_pos (by decide +kernel)]; kernel_rfl) | (rw [if_neg (by decide +kernel)]; exact ⟨rfl, rfl⟩))
    (fun os started H enc _ => ExactInsertKid_lifted os started H enc)
#print axioms ExactInsertKid_holds
end Go.Proofs.Ytcdneamoemmohaa
