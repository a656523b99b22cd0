/- The law FnExactSameTable returns true for every argument, and leaves its arguments as they were. No condition. -/
import Derived.Test.YtgelpfecfbagdaaSame
import Derived.OpenShut
import Derived.Deep.RegionWith
import Derived.Deep.RegionHeld3
namespace Go.Proofs.Ytgelpfecfbagdaa
open Go.ChangeShapes Go.WideShapes Go.ChangeAt Go.RowKit
set_option linter.unusedVariables false
set_option linter.unusedSimpArgs false

theorem own : ownKnob Try.prog.godebug = none := by kernel_rfl
theorem laidOut : laidOutB Try.prog = true := by kernel_rfl

set_option maxHeartbeats 8000000 in
theorem lawSameTable_c (A0 : Option Addr) (c0 : Nat) (z0 : List Rec) (A1 : Option Addr) (c1 : Nat) (z1 : List Rec) (w : World) (h0 : Recs w A0 k_rule z0) (hcap0 : z0.length ≤ 9223372036854775807) (h1 : Recs w A1 k_rule z1) (hcap1 : z1.length ≤ 9223372036854775807) :
    Calls Try.prog 4 #[tableV A0 z0.length c0, tableV A1 z1.length c1] w fun r w' => r = .returned (.bool true) ∧ Bel w w' := by
  by_cases s0 : (z0.length : Int) ≤ 1048576
  rotate_left
  ·
    go_enter Try.func4, Try.ntmps4
    go_wp2_with fail
    refine (szTable_c _ _ _ _ _ (by omega) (by omega)).mono ?_
    rintro e w1 ⟨rfl, hb1⟩
    have B1 : Bel w w1 := Bel.trans (by repeat (first | exact Bel.refl _ | refine Bel.alloc ?_ _ | refine Bel.drew ?_ | refine Bel.drewN ?_ _)) hb1
    have T1 : Bel w w1 := B1
    have xb0 : w1.cell? ⟨w.heap.size, 0, none⟩ = some (.slice A0 z0.length c0) := (hb1.cell _ _ (by first | (simp; done) | (simp; omega))).trans (by simp)
    have lb0 : w.heap.size < w1.heap.size := by have := hb1.sz; simp at this; omega
    have xb1 : w1.cell? ⟨w.heap.size + 1, 0, none⟩ = some (.slice A1 z1.length c1) := (hb1.cell _ _ (by first | (simp; done) | (simp; omega))).trans (by simp)
    have lb1 : w.heap.size + 1 < w1.heap.size := by have := hb1.sz; simp at this; omega
    replace h0 := h0.keep B1
    replace h1 := h1.keep B1
    rw [if_neg (by omega)]
    go_wp2_with fail
    go_ret
    exact ⟨rfl, T1⟩
  by_cases s1 : (z1.length : Int) ≤ 1048576 - (z0.length : Int)
  rotate_left
  ·
    go_enter Try.func4, Try.ntmps4
    go_wp2_with fail
    refine (szTable_c _ _ _ _ _ (by omega) (by omega)).mono ?_
    rintro e w1 ⟨rfl, hb1⟩
    have B1 : Bel w w1 := Bel.trans (by repeat (first | exact Bel.refl _ | refine Bel.alloc ?_ _ | refine Bel.drew ?_ | refine Bel.drewN ?_ _)) hb1
    have T1 : Bel w w1 := B1
    have xb0 : w1.cell? ⟨w.heap.size, 0, none⟩ = some (.slice A0 z0.length c0) := (hb1.cell _ _ (by first | (simp; done) | (simp; omega))).trans (by simp)
    have lb0 : w.heap.size < w1.heap.size := by have := hb1.sz; simp at this; omega
    have xb1 : w1.cell? ⟨w.heap.size + 1, 0, none⟩ = some (.slice A1 z1.length c1) := (hb1.cell _ _ (by first | (simp; done) | (simp; omega))).trans (by simp)
    have lb1 : w.heap.size + 1 < w1.heap.size := by have := hb1.sz; simp at this; omega
    replace h0 := h0.keep B1
    replace h1 := h1.keep B1
    rw [if_pos s0]
    go_wp2_with fail
    refine (szTable_c _ _ _ _ _ (by omega) (by omega)).mono ?_
    rintro e w2 ⟨rfl, hb2⟩
    have B2 : Bel w1 w2 := Bel.trans (by repeat (first | exact Bel.refl _ | refine Bel.alloc ?_ _ | refine Bel.drew ?_ | refine Bel.drewN ?_ _)) hb2
    have T2 : Bel w w2 := T1.trans B2
    replace xb0 := (B2.cell _ _ lb0).trans xb0
    replace lb0 := Nat.lt_of_lt_of_le lb0 B2.sz
    replace xb1 := (B2.cell _ _ lb1).trans xb1
    replace lb1 := Nat.lt_of_lt_of_le lb1 B2.sz
    replace h0 := h0.keep B2
    replace h1 := h1.keep B2
    rw [if_neg (by omega)]
    go_wp2_with fail
    go_ret
    exact ⟨rfl, T2⟩
  have m0 : z0.length ≤ 1048576 := by omega
  have m1 : z1.length ≤ 1048576 := by omega
  go_enter Try.func4, Try.ntmps4
  go_wp2_with fail
  refine (szTable_c _ _ _ _ _ (by omega) (by omega)).mono ?_
  rintro e w1 ⟨rfl, hb1⟩
  have B1 : Bel w w1 := Bel.trans (by repeat (first | exact Bel.refl _ | refine Bel.alloc ?_ _ | refine Bel.drew ?_ | refine Bel.drewN ?_ _)) hb1
  have T1 : Bel w w1 := B1
  have xb0 : w1.cell? ⟨w.heap.size, 0, none⟩ = some (.slice A0 z0.length c0) := (hb1.cell _ _ (by first | (simp; done) | (simp; omega))).trans (by simp)
  have lb0 : w.heap.size < w1.heap.size := by have := hb1.sz; simp at this; omega
  have xb1 : w1.cell? ⟨w.heap.size + 1, 0, none⟩ = some (.slice A1 z1.length c1) := (hb1.cell _ _ (by first | (simp; done) | (simp; omega))).trans (by simp)
  have lb1 : w.heap.size + 1 < w1.heap.size := by have := hb1.sz; simp at this; omega
  replace h0 := h0.keep B1
  replace h1 := h1.keep B1
  rw [if_pos s0]
  go_wp2_with fail
  refine (szTable_c _ _ _ _ _ (by omega) (by omega)).mono ?_
  rintro e w2 ⟨rfl, hb2⟩
  have B2 : Bel w1 w2 := Bel.trans (by repeat (first | exact Bel.refl _ | refine Bel.alloc ?_ _ | refine Bel.drew ?_ | refine Bel.drewN ?_ _)) hb2
  have T2 : Bel w w2 := T1.trans B2
  replace xb0 := (B2.cell _ _ lb0).trans xb0
  replace lb0 := Nat.lt_of_lt_of_le lb0 B2.sz
  replace xb1 := (B2.cell _ _ lb1).trans xb1
  replace lb1 := Nat.lt_of_lt_of_le lb1 B2.sz
  replace h0 := h0.keep B2
  replace h1 := h1.keep B2
  rw [if_pos s1]
  go_wp2_with fail
  have hd0 : Bel w2 (w2).drew := by repeat (first | exact Bel.refl _ | refine Bel.drew ?_ | refine Bel.alloc ?_ _)
  have xdb0 : ((w2).drew).cell? ⟨w.heap.size, 0, none⟩ = some (.slice A0 z0.length c0) := (hd0.cell _ _ lb0).trans xb0
  have ldb0 : w.heap.size < ((w2).drew).heap.size := Nat.lt_of_lt_of_le lb0 hd0.sz
  have xdb1 : ((w2).drew).cell? ⟨w.heap.size + 1, 0, none⟩ = some (.slice A1 z1.length c1) := (hd0.cell _ _ lb1).trans xb1
  have ldb1 : w.heap.size + 1 < ((w2).drew).heap.size := Nat.lt_of_lt_of_le lb1 hd0.sz
  have tok0 : True := trivial
  have tok1 : True := trivial
  have tok2 : True := trivial
  go_region_held3 (fun u => Bel w2 u ∧ u.cell? ⟨w.heap.size, 0, none⟩ = some (.slice A0 z0.length c0) ∧ u.cell? ⟨w.heap.size + 1, 0, none⟩ = some (.slice A1 z1.length c1))
    ((first | exact ⟨bq2, yb0_2, yb1_2⟩ | exact ⟨bq1, yb0_1, yb1_1⟩ | exact ⟨bq0, yb0_0, yb1_0⟩ | exact ⟨hd0, xdb0, xdb1⟩))
    (first | (go_at_call 17; have _t := tok0; refine (toTable_c _ _ _ _ (h0.keep hd0) m0).mono ?_; rintro e u0 ⟨g_S0, rfl, o_S0, hq0⟩; have bq0 : Bel w2 u0 := hd0.trans hq0; have yb0_0 := (hq0.cell _ _ ldb0).trans xdb0; have nb0_0 : w.heap.size < u0.heap.size := Nat.lt_of_lt_of_le ldb0 hq0.sz; have yb1_0 := (hq0.cell _ _ ldb1).trans xdb1; have nb1_0 : w.heap.size + 1 < u0.heap.size := Nat.lt_of_lt_of_le ldb1 hq0.sz; have S0 := Recs.of_own rfl o_S0; clear o_S0; clear tok0 _t) | (go_at_call 17; have _t := tok1; refine (toTable_c _ _ _ _ (h1.keep bq0) m1).mono ?_; rintro e u1 ⟨g_S1, rfl, o_S1, hq1⟩; have bq1 : Bel w2 u1 := bq0.trans hq1; have yb0_1 := (hq1.cell _ _ nb0_0).trans yb0_0; have nb0_1 : w.heap.size < u1.heap.size := Nat.lt_of_lt_of_le nb0_0 hq1.sz; have yb1_1 := (hq1.cell _ _ nb1_0).trans yb1_0; have nb1_1 : w.heap.size + 1 < u1.heap.size := Nat.lt_of_lt_of_le nb1_0 hq1.sz; have S1 := Recs.of_own rfl o_S1; clear o_S1; replace S0 := S0.keep hq1; clear tok1 _t) | (go_at_call 21; have _t := tok2; refine (sSameTable_c _ _ _ _ _ _ _ S0 S1 m0 m1).mono ?_; rintro e w3 ⟨rfl, hq2⟩; have bq2 : Bel w2 w3 := bq1.trans hq2; have yb0_2 := (hq2.cell _ _ nb0_1).trans yb0_1; have nb0_2 : w.heap.size < w3.heap.size := Nat.lt_of_lt_of_le nb0_1 hq2.sz; have yb1_2 := (hq2.cell _ _ nb1_1).trans yb1_1; have nb1_2 : w.heap.size + 1 < w3.heap.size := Nat.lt_of_lt_of_le nb1_1 hq2.sz; clear tok2 _t))
  have B3 : Bel w2 w3 := bq2
  have T3 : Bel w w3 := T2.trans B3
  replace xb0 := yb0_2
  replace lb0 := nb0_2
  replace xb1 := yb1_2
  replace lb1 := nb1_2
  replace h0 := h0.keep B3
  replace h1 := h1.keep B3
  clear bq0 hq0 yb0_0 nb0_0 yb1_0 nb1_0
  clear bq1 hq1 yb0_1 nb0_1 yb1_1 nb1_1
  clear bq2 hq2 hd0 yb0_2 nb0_2 xdb0 ldb0 yb1_2 nb1_2 xdb1 ldb1
  go_wp2_with fail
  refine (toTable_c _ _ _ _ (h0.keep (by repeat (first | exact Bel.refl _ | refine Bel.alloc ?_ _ | refine Bel.drew ?_))) m0).mono ?_
  rintro e w4 ⟨g_X0, rfl, o_X0, hb4⟩
  have B4 : Bel w3 w4 := Bel.trans (by repeat (first | exact Bel.refl _ | refine Bel.alloc ?_ _ | refine Bel.drew ?_ | refine Bel.drewN ?_ _)) hb4
  have T4 : Bel w w4 := T3.trans B4
  replace xb0 := (B4.cell _ _ lb0).trans xb0
  replace lb0 := Nat.lt_of_lt_of_le lb0 B4.sz
  replace xb1 := (B4.cell _ _ lb1).trans xb1
  replace lb1 := Nat.lt_of_lt_of_le lb1 B4.sz
  replace h0 := h0.keep B4
  replace h1 := h1.keep B4
  have X0 := Recs.of_own rfl o_X0
  go_wp2_with fail
  refine (toTable_c _ _ _ _ (h1.keep (by repeat (first | exact Bel.refl _ | refine Bel.alloc ?_ _ | refine Bel.drew ?_))) m1).mono ?_
  rintro e w5 ⟨g_X1, rfl, o_X1, hb5⟩
  have B5 : Bel w4 w5 := Bel.trans (by repeat (first | exact Bel.refl _ | refine Bel.alloc ?_ _ | refine Bel.drew ?_ | refine Bel.drewN ?_ _)) hb5
  have T5 : Bel w w5 := T4.trans B5
  replace xb0 := (B5.cell _ _ lb0).trans xb0
  replace lb0 := Nat.lt_of_lt_of_le lb0 B5.sz
  replace xb1 := (B5.cell _ _ lb1).trans xb1
  replace lb1 := Nat.lt_of_lt_of_le lb1 B5.sz
  have xx0 : w5.cell? ⟨w4.heap.size, 0, none⟩ = some (.slice (some ⟨g_X0, 0, none⟩) z0.length z0.length) := (hb5.cell _ _ (by first | (simp; done) | (simp; omega))).trans (by simp)
  have lx0 : w4.heap.size < w5.heap.size := by have := hb5.sz; simp at this; omega
  replace h0 := h0.keep B5
  replace h1 := h1.keep B5
  replace X0 := X0.keep B5
  have X1 := Recs.of_own rfl o_X1
  go_wp2_with fail
  refine (iSameTable_c _ _ _ _ _ _ _ (X0.keep (by repeat (first | exact Bel.refl _ | refine Bel.alloc ?_ _))) (X1.keep (by repeat (first | exact Bel.refl _ | refine Bel.alloc ?_ _))) m0 m1).mono ?_
  rintro e w6 ⟨rfl, hb6⟩
  have B6 : Bel w5 w6 := Bel.trans (by repeat (first | exact Bel.refl _ | refine Bel.alloc ?_ _ | refine Bel.drew ?_ | refine Bel.drewN ?_ _)) hb6
  have T6 : Bel w w6 := T5.trans B6
  replace xb0 := (B6.cell _ _ lb0).trans xb0
  replace lb0 := Nat.lt_of_lt_of_le lb0 B6.sz
  replace xb1 := (B6.cell _ _ lb1).trans xb1
  replace lb1 := Nat.lt_of_lt_of_le lb1 B6.sz
  replace xx0 := (B6.cell _ _ lx0).trans xx0
  replace lx0 := Nat.lt_of_lt_of_le lx0 B6.sz
  have xx1 : w6.cell? ⟨w5.heap.size, 0, none⟩ = some (.slice (some ⟨g_X1, 0, none⟩) z1.length z1.length) := (hb6.cell _ _ (by first | (simp; done) | (simp; omega))).trans (by simp)
  have lx1 : w5.heap.size < w6.heap.size := by have := hb6.sz; simp at this; omega
  replace h0 := h0.keep B6
  replace h1 := h1.keep B6
  replace X0 := X0.keep B6
  replace X1 := X1.keep B6
  go_wp2_with fail
  have hd0 : Bel w6 (w6).drew := by repeat (first | exact Bel.refl _ | refine Bel.drew ?_ | refine Bel.alloc ?_ _)
  have xdb0 : ((w6).drew).cell? ⟨w.heap.size, 0, none⟩ = some (.slice A0 z0.length c0) := (hd0.cell _ _ lb0).trans xb0
  have ldb0 : w.heap.size < ((w6).drew).heap.size := Nat.lt_of_lt_of_le lb0 hd0.sz
  have xdb1 : ((w6).drew).cell? ⟨w.heap.size + 1, 0, none⟩ = some (.slice A1 z1.length c1) := (hd0.cell _ _ lb1).trans xb1
  have ldb1 : w.heap.size + 1 < ((w6).drew).heap.size := Nat.lt_of_lt_of_le lb1 hd0.sz
  have xdx0 : ((w6).drew).cell? ⟨w4.heap.size, 0, none⟩ = some (.slice (some ⟨g_X0, 0, none⟩) z0.length z0.length) := (hd0.cell _ _ lx0).trans xx0
  have ldx0 : w4.heap.size < ((w6).drew).heap.size := Nat.lt_of_lt_of_le lx0 hd0.sz
  have xdx1 : ((w6).drew).cell? ⟨w5.heap.size, 0, none⟩ = some (.slice (some ⟨g_X1, 0, none⟩) z1.length z1.length) := (hd0.cell _ _ lx1).trans xx1
  have ldx1 : w5.heap.size < ((w6).drew).heap.size := Nat.lt_of_lt_of_le lx1 hd0.sz
  have tok0 : True := trivial
  have tok1 : True := trivial
  go_region_held3 (fun u => Bel w6 u ∧ u.cell? ⟨w.heap.size, 0, none⟩ = some (.slice A0 z0.length c0) ∧ u.cell? ⟨w.heap.size + 1, 0, none⟩ = some (.slice A1 z1.length c1) ∧ u.cell? ⟨w4.heap.size, 0, none⟩ = some (.slice (some ⟨g_X0, 0, none⟩) z0.length z0.length) ∧ u.cell? ⟨w5.heap.size, 0, none⟩ = some (.slice (some ⟨g_X1, 0, none⟩) z1.length z1.length))
    ((first | exact ⟨bq1, yb0_1, yb1_1, yx0_1, yx1_1⟩ | exact ⟨bq0, yb0_0, yb1_0, yx0_0, yx1_0⟩ | exact ⟨hd0, xdb0, xdb1, xdx0, xdx1⟩))
    (first | (go_at_call 17; have _t := tok0; refine (toTable_c _ _ _ _ (h0.keep hd0) m0).mono ?_; rintro e u0 ⟨g_Q0, rfl, o_Q0, hq0⟩; have bq0 : Bel w6 u0 := hd0.trans hq0; have yb0_0 := (hq0.cell _ _ ldb0).trans xdb0; have nb0_0 : w.heap.size < u0.heap.size := Nat.lt_of_lt_of_le ldb0 hq0.sz; have yb1_0 := (hq0.cell _ _ ldb1).trans xdb1; have nb1_0 : w.heap.size + 1 < u0.heap.size := Nat.lt_of_lt_of_le ldb1 hq0.sz; have yx0_0 := (hq0.cell _ _ ldx0).trans xdx0; have nx0_0 : w4.heap.size < u0.heap.size := Nat.lt_of_lt_of_le ldx0 hq0.sz; have yx1_0 := (hq0.cell _ _ ldx1).trans xdx1; have nx1_0 : w5.heap.size < u0.heap.size := Nat.lt_of_lt_of_le ldx1 hq0.sz; have Q0 := Recs.of_own rfl o_Q0; clear o_Q0; clear tok0 _t) | (go_at_call 20; have _t := tok1; refine (eqTable_c _ _ _ _ _ _ (X0.keep bq0) Q0 m0).mono ?_; rintro e w7 ⟨rfl, hq1⟩; have bq1 : Bel w6 w7 := bq0.trans hq1; have yb0_1 := (hq1.cell _ _ nb0_0).trans yb0_0; have nb0_1 : w.heap.size < w7.heap.size := Nat.lt_of_lt_of_le nb0_0 hq1.sz; have yb1_1 := (hq1.cell _ _ nb1_0).trans yb1_0; have nb1_1 : w.heap.size + 1 < w7.heap.size := Nat.lt_of_lt_of_le nb1_0 hq1.sz; have yx0_1 := (hq1.cell _ _ nx0_0).trans yx0_0; have nx0_1 : w4.heap.size < w7.heap.size := Nat.lt_of_lt_of_le nx0_0 hq1.sz; have yx1_1 := (hq1.cell _ _ nx1_0).trans yx1_0; have nx1_1 : w5.heap.size < w7.heap.size := Nat.lt_of_lt_of_le nx1_0 hq1.sz; clear Q0; clear tok1 _t))
  have B7 : Bel w6 w7 := bq1
  have T7 : Bel w w7 := T6.trans B7
  replace xb0 := yb0_1
  replace lb0 := nb0_1
  replace xb1 := yb1_1
  replace lb1 := nb1_1
  replace xx0 := yx0_1
  replace lx0 := nx0_1
  replace xx1 := yx1_1
  replace lx1 := nx1_1
  replace h0 := h0.keep B7
  replace h1 := h1.keep B7
  replace X0 := X0.keep B7
  replace X1 := X1.keep B7
  clear bq0 hq0 yb0_0 nb0_0 yb1_0 nb1_0 yx0_0 nx0_0 yx1_0 nx1_0
  clear bq1 hq1 hd0 yb0_1 nb0_1 xdb0 ldb0 yb1_1 nb1_1 xdb1 ldb1 yx0_1 nx0_1 xdx0 ldx0 yx1_1 nx1_1 xdx1 ldx1
  go_wp2_with fail
  have hd0 : Bel w7 (w7).drew := by repeat (first | exact Bel.refl _ | refine Bel.drew ?_ | refine Bel.alloc ?_ _)
  have xdb0 : ((w7).drew).cell? ⟨w.heap.size, 0, none⟩ = some (.slice A0 z0.length c0) := (hd0.cell _ _ lb0).trans xb0
  have ldb0 : w.heap.size < ((w7).drew).heap.size := Nat.lt_of_lt_of_le lb0 hd0.sz
  have xdb1 : ((w7).drew).cell? ⟨w.heap.size + 1, 0, none⟩ = some (.slice A1 z1.length c1) := (hd0.cell _ _ lb1).trans xb1
  have ldb1 : w.heap.size + 1 < ((w7).drew).heap.size := Nat.lt_of_lt_of_le lb1 hd0.sz
  have xdx0 : ((w7).drew).cell? ⟨w4.heap.size, 0, none⟩ = some (.slice (some ⟨g_X0, 0, none⟩) z0.length z0.length) := (hd0.cell _ _ lx0).trans xx0
  have ldx0 : w4.heap.size < ((w7).drew).heap.size := Nat.lt_of_lt_of_le lx0 hd0.sz
  have xdx1 : ((w7).drew).cell? ⟨w5.heap.size, 0, none⟩ = some (.slice (some ⟨g_X1, 0, none⟩) z1.length z1.length) := (hd0.cell _ _ lx1).trans xx1
  have ldx1 : w5.heap.size < ((w7).drew).heap.size := Nat.lt_of_lt_of_le lx1 hd0.sz
  have tok0 : True := trivial
  have tok1 : True := trivial
  go_region_held3 (fun u => Bel w7 u ∧ u.cell? ⟨w.heap.size, 0, none⟩ = some (.slice A0 z0.length c0) ∧ u.cell? ⟨w.heap.size + 1, 0, none⟩ = some (.slice A1 z1.length c1) ∧ u.cell? ⟨w4.heap.size, 0, none⟩ = some (.slice (some ⟨g_X0, 0, none⟩) z0.length z0.length) ∧ u.cell? ⟨w5.heap.size, 0, none⟩ = some (.slice (some ⟨g_X1, 0, none⟩) z1.length z1.length))
    ((first | exact ⟨bq1, yb0_1, yb1_1, yx0_1, yx1_1⟩ | exact ⟨bq0, yb0_0, yb1_0, yx0_0, yx1_0⟩ | exact ⟨hd0, xdb0, xdb1, xdx0, xdx1⟩))
    (first | (go_at_call 17; have _t := tok0; refine (toTable_c _ _ _ _ (h1.keep hd0) m1).mono ?_; rintro e u0 ⟨g_Q1, rfl, o_Q1, hq0⟩; have bq0 : Bel w7 u0 := hd0.trans hq0; have yb0_0 := (hq0.cell _ _ ldb0).trans xdb0; have nb0_0 : w.heap.size < u0.heap.size := Nat.lt_of_lt_of_le ldb0 hq0.sz; have yb1_0 := (hq0.cell _ _ ldb1).trans xdb1; have nb1_0 : w.heap.size + 1 < u0.heap.size := Nat.lt_of_lt_of_le ldb1 hq0.sz; have yx0_0 := (hq0.cell _ _ ldx0).trans xdx0; have nx0_0 : w4.heap.size < u0.heap.size := Nat.lt_of_lt_of_le ldx0 hq0.sz; have yx1_0 := (hq0.cell _ _ ldx1).trans xdx1; have nx1_0 : w5.heap.size < u0.heap.size := Nat.lt_of_lt_of_le ldx1 hq0.sz; have Q1 := Recs.of_own rfl o_Q1; clear o_Q1; clear tok0 _t) | (go_at_call 20; have _t := tok1; refine (eqTable_c _ _ _ _ _ _ (X1.keep bq0) Q1 m1).mono ?_; rintro e w8 ⟨rfl, hq1⟩; have bq1 : Bel w7 w8 := bq0.trans hq1; have yb0_1 := (hq1.cell _ _ nb0_0).trans yb0_0; have nb0_1 : w.heap.size < w8.heap.size := Nat.lt_of_lt_of_le nb0_0 hq1.sz; have yb1_1 := (hq1.cell _ _ nb1_0).trans yb1_0; have nb1_1 : w.heap.size + 1 < w8.heap.size := Nat.lt_of_lt_of_le nb1_0 hq1.sz; have yx0_1 := (hq1.cell _ _ nx0_0).trans yx0_0; have nx0_1 : w4.heap.size < w8.heap.size := Nat.lt_of_lt_of_le nx0_0 hq1.sz; have yx1_1 := (hq1.cell _ _ nx1_0).trans yx1_0; have nx1_1 : w5.heap.size < w8.heap.size := Nat.lt_of_lt_of_le nx1_0 hq1.sz; clear Q1; clear tok1 _t))
  have B8 : Bel w7 w8 := bq1
  have T8 : Bel w w8 := T7.trans B8
  replace xb0 := yb0_1
  replace lb0 := nb0_1
  replace xb1 := yb1_1
  replace lb1 := nb1_1
  replace xx0 := yx0_1
  replace lx0 := nx0_1
  replace xx1 := yx1_1
  replace lx1 := nx1_1
  replace h0 := h0.keep B8
  replace h1 := h1.keep B8
  replace X0 := X0.keep B8
  replace X1 := X1.keep B8
  clear bq0 hq0 yb0_0 nb0_0 yb1_0 nb1_0 yx0_0 nx0_0 yx1_0 nx1_0
  clear bq1 hq1 hd0 yb0_1 nb0_1 xdb0 ldb0 yb1_1 nb1_1 xdb1 ldb1 yx0_1 nx0_1 xdx0 ldx0 yx1_1 nx1_1 xdx1 ldx1
  go_wp2_with fail
  go_ret
  exact ⟨rfl, T8⟩

set_option maxRecDepth 100000 in
theorem ExactSameTable_lifted (os : Os) (started : os.Started) (H : Type) (enc : TypeId × Value → H) :
    ReturnsInHanded {} Try.checked os 4 .any (Rows.fnExactSameTableSpec.pre6 enc Try.prog Try.f4 Rows.fnExactSameTableRow.domain false) (Rows.fnExactSameTableSpec.post enc Try.prog Try.f4 false true false false) := by
  refine law_lifted (C := Try.checked) (tb := 4) own started (by kernel_rfl) Try.func4 laidOut rfl rfl Try.underlying4 (by kernel_rfl)
    (fun ds h => match ds, h with | [_, _], _ => rfl)
    (ChangeSpec.witness6 (enc := enc) (C := Try.checked) false ⟨#[], #[tableV none 0 0, tableV none 0 0], []⟩ 8 (by kernel_rfl) (by kernel_rfl) (by kernel_rfl) (by kernel_rfl)) ?_
  intro W base args ds ps hval0 hA0
  have hval : ∀ (j : Nat) t v, Try.f4.params[j]? = some t → args[j]? = some v → Value.okWide Try.prog W .any base t v := hval0
  have hA : DataW.TrodAll enc Try.prog W 0 (fun _ => true) true Try.f4.params.toList args.toList ds ps := hA0
  clear hval0 hA0
  rw [Try.params4] at hA hval
  obtain ⟨v0, v1, d0, d1, p0, p1, rfl, rfl, rfl, g0, g1⟩ := trodAll_two hA
  obtain ⟨A0, c0, z0, rfl, k0, k0', -, h0⟩ := open_table Try.underlying24 Try.underlying22 (ts' := [3, 3, 3]) (ks := k_rule) (by kernel_rfl) rfl (by kernel_rfl) (by kernel_rfl) (by kernel_rfl) (by decide) (hval 0 24 v0 rfl rfl) g0
  obtain ⟨A1, c1, z1, rfl, k1, k1', -, h1⟩ := open_table Try.underlying24 Try.underlying22 (ts' := [3, 3, 3]) (ks := k_rule) (by kernel_rfl) rfl (by kernel_rfl) (by kernel_rfl) (by kernel_rfl) (by decide) (hval 1 24 v1 rfl rfl) g1
  exact lawSameTable_c _ _ _ _ _ _ W h0 (by unfold maxLen at k0'; omega) h1 (by unfold maxLen at k1'; omega)

theorem ExactSameTable_holds : Rows.FnExactSameTableSaid :=
  OpenClaim.holds_of_wide 4 Try.f4 rfl rfl rfl rfl rfl rfl rfl ⟨rfl, rfl, rfl, rfl, rfl⟩ rfl rfl rfl rfl rfl (by kernel_rfl) Try.func4 (by kernel_rfl)
    (of_decide_eq_true (by kernel_rfl)) (by unfold Func.isWrapper; first | (rw [if_pos (by decide +kernel)]; kernel_rfl) | (rw [if_neg (by decide +kernel)]; exact ⟨rfl, rfl⟩))
    (fun os started H enc _ => ExactSameTable_lifted os started H enc)
#print axioms ExactSameTable_holds
end Go.Proofs.Ytgelpfecfbagdaa
