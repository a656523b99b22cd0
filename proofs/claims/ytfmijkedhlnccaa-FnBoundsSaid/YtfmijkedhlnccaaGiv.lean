/- ByRatio and GivenOf, both texts. -/
import Derived.Test.YtfmijkedhlnccaaBnd
namespace Go.Proofs.Ytfmijkedhlnccaa
open Go.RowKit Go.ChangeShapes Go.WideShapes Go.BigFrame Go.Sort
set_option linter.unusedVariables false
set_option linter.unusedSimpArgs false

def byRatio (r : Rec) (t : Bool) (b : Int) : Int :=
  if r.s 25 ≤ 0 ∨ b < 0 then -1 else if t = true then clamped (floorDiv (clamped b * clamped (r.s 25)) 64) else clamped (floorDiv (clamped b * 64) (clamped (r.s 25)))
def givenOf (r : Rec) (t : Bool) (b c : Int) : Int := if twoOf r 13 t b = -1 then byRatio r t c else twoOf r 13 t b
theorem ratMul (a b : Int) : 0 ≤ clamped a * clamped b ∧ clamped a * clamped b ≤ 1099511627776 := by
  have h1 := clamped_bd a
  have h2 := clamped_bd b
  have h0 := Int.mul_nonneg h1.1 h2.1
  have := mul_bd2 (c := clamped a) (d := clamped b) (C := 1048576) (D := 1048576) h1 (by omega) (by omega)
  omega
set_option maxRecDepth 100000 in
set_option maxHeartbeats 2000000 in
theorem iByRatio_c (r : Rec) (t : Bool) (b : Int) (w : World) : Calls Try.prog 40 #[styleV r, .bool t, .int .i64 b] w fun e w' => e = .returned (.int .i64 (byRatio r t b)) ∧ Bel w w' := by
  have c0 := box_at (w := w) (Bel.refl (w.alloc (.cells (styleL r).toArray 31))) (i := 25) (rcells_int r rfl)
  have HB : Hid (Bel w (w.alloc (.cells (styleL r).toArray 31))) := hid' ((Bel.refl w).alloc _)
  have hm1 := ratMul b (r.s 25)
  have hb1 := clamped_bd b
  have hb2 := clamped_bd (r.s 25)
  have w1 : IntKind.i64.wrap (clamped b * clamped (r.s 25)) = clamped b * clamped (r.s 25) := IntWalk.i64_in _ (by omega)
  have w2 : IntKind.i64.wrap (clamped b * 64) = clamped b * 64 := IntWalk.i64_in _ (by omega)
  have HY : Hid (byRatio r t b = if r.s 25 ≤ 0 ∨ b < 0 then -1 else if t = true then clamped (floorDiv (clamped b * clamped (r.s 25)) 64) else clamped (floorDiv (clamped b * 64) (clamped (r.s 25)))) := hid' rfl
  obtain ⟨Y, hY⟩ : ∃ v, byRatio r t b = v := ⟨_, rfl⟩
  rw [hY] at HY ⊢
  clear hY
  obtain ⟨W, hW⟩ : ∃ W, W = w.alloc (.cells (styleL r).toArray 31) := ⟨_, rfl⟩
  by_cases h1 : r.s 25 ≤ 0
  · go_enter Try.func40, Try.ntmps40
    unfold styleV
    go_wp2_with fail
    all_goals first
      | (exfalso; omega)
      | (go_ret; exact ⟨by rw [HY.out, if_pos (by omega)]; rfl, HB.out⟩)
  by_cases h2 : b < 0
  · go_enter Try.func40, Try.ntmps40
    unfold styleV
    go_wp2_with fail
    all_goals first
      | (exfalso; omega)
      | (go_ret; exact ⟨by rw [HY.out, if_pos (by omega)]; rfl, HB.out⟩)
  cases t
  all_goals
    go_enter Try.func40, Try.ntmps40
    unfold styleV
    go_wp2_with fail
    rw [← hW] at c0 HB ⊢
    clear hW
    refine wp_region_still_lit (by kernel_rfl) (by kernel_rfl) ?_
    repeat (first | still_step | still_call (iClamped_s _ _))
    (try refine wpStill_nil ?_)
    have HB2 := hid' HB.out.drew
    go_wp2_with fail
    refine (iFloorDiv_s _ _ _ (by omega)).mono ?_; rintro e w' ⟨rfl, rfl⟩
    go_wp2_with fail
    refine (iClamped_s _ _).mono ?_; rintro e w' ⟨rfl, rfl⟩
    go_wp2_with fail
    go_ret
    exact ⟨by rw [HY.out, if_neg (by omega)]; rfl, HB2.out⟩
set_option maxRecDepth 100000 in
set_option maxHeartbeats 2000000 in
theorem sByRatio_c (r : Rec) (t : Bool) (b : Int) (w : World) : Calls Try.prog 41 #[styleV r, .bool t, .int .i64 b] w fun e w' => e = .returned (.int .i64 (byRatio r t b)) ∧ Bel w w' := by
  have c0 := box_at (w := w) (Bel.refl (w.alloc (.cells (styleL r).toArray 31))) (i := 25) (rcells_int r rfl)
  have HB : Hid (Bel w (w.alloc (.cells (styleL r).toArray 31))) := hid' ((Bel.refl w).alloc _)
  have hm1 := ratMul b (r.s 25)
  have hb1 := clamped_bd b
  have hb2 := clamped_bd (r.s 25)
  have w1 : IntKind.i64.wrap (clamped b * clamped (r.s 25)) = clamped b * clamped (r.s 25) := IntWalk.i64_in _ (by omega)
  have w2 : IntKind.i64.wrap (clamped b * 64) = clamped b * 64 := IntWalk.i64_in _ (by omega)
  have HY : Hid (byRatio r t b = if r.s 25 ≤ 0 ∨ b < 0 then -1 else if t = true then clamped (floorDiv (clamped b * clamped (r.s 25)) 64) else clamped (floorDiv (clamped b * 64) (clamped (r.s 25)))) := hid' rfl
  obtain ⟨Y, hY⟩ : ∃ v, byRatio r t b = v := ⟨_, rfl⟩
  rw [hY] at HY ⊢
  clear hY
  obtain ⟨W, hW⟩ : ∃ W, W = w.alloc (.cells (styleL r).toArray 31) := ⟨_, rfl⟩
  by_cases h1 : r.s 25 ≤ 0
  · go_enter Try.func41, Try.ntmps41
    unfold styleV
    go_wp2_with fail
    all_goals first
      | (exfalso; omega)
      | (go_ret; exact ⟨by rw [HY.out, if_pos (by omega)]; rfl, HB.out⟩)
  by_cases h2 : b < 0
  · go_enter Try.func41, Try.ntmps41
    unfold styleV
    go_wp2_with fail
    all_goals first
      | (exfalso; omega)
      | (go_ret; exact ⟨by rw [HY.out, if_pos (by omega)]; rfl, HB.out⟩)
  cases t
  all_goals
    go_enter Try.func41, Try.ntmps41
    unfold styleV
    go_wp2_with fail
    rw [← hW] at c0 HB ⊢
    clear hW
    refine wp_region_still_lit (by kernel_rfl) (by kernel_rfl) ?_
    repeat (first | still_step | still_call (sClamped_s _ _) | still_call (sFloorDiv_s _ _ _ (by omega)))
    (try refine wpStill_nil ?_)
    have HB2 := hid' HB.out.drew
    go_wp2_with fail
    go_ret
    exact ⟨by rw [HY.out, if_neg (by omega)]; rfl, HB2.out⟩
set_option maxRecDepth 100000 in
set_option maxHeartbeats 2000000 in
theorem iGivenOf_c (r : Rec) (t : Bool) (b c : Int) (w : World) : Calls Try.prog 18 #[styleV r, .bool t, .int .i64 b, .int .i64 c] w fun e w' => e = .returned (.int .i64 (givenOf r t b c)) ∧ Bel w w' := by
  have HB : Hid (Bel w (w.alloc (.cells (styleL r).toArray 31))) := hid' ((Bel.refl w).alloc _)
  have HA := Lib.hid (SB_all w r)
  have h60 := styleL_length r
  obtain ⟨f0, hf0⟩ : ∃ v, twoOf r 13 t b = v := ⟨_, rfl⟩
  have hg : givenOf r t b c = if f0 = -1 then byRatio r t c else f0 := by rw [givenOf, hf0]
  rw [hg]
  have HF := Lib.hid hf0
  clear hg hf0
  have HR3 := Lib.hid (HA.out _ (Bel.refl _))
  go_enter Try.func18, Try.ntmps18
  unfold styleV
  go_wp2_with ((with_reducible show wpList _ _ _ (Oper.mk _ (Op.load 31 _) _ _ _ _ :: _) _ _); refine wpList_load_mid rfl 31 _ rfl w.heap.size 0 rfl (styleL r) _ HR3.out Try.underlying31 rfl (by rw [h60]; kernel_rfl) ?_)
  refine (iFixedOf_c _ _ _ _).mono ?_; rintro e w1 ⟨rfl, hb1⟩
  rw [HF.out]
  have HR1 := Lib.hid (HA.out _ hb1)
  by_cases h1 : f0 = -1
  · subst h1
    go_wp2_with ((with_reducible show wpList _ _ _ (Oper.mk _ (Op.load 31 _) _ _ _ _ :: _) _ _); refine wpList_load_mid rfl 31 _ rfl w.heap.size 0 rfl (styleL r) _ HR1.out Try.underlying31 rfl (by rw [h60]; kernel_rfl) ?_)
    refine (iByRatio_c _ _ _ _).mono ?_; rintro e w2 ⟨rfl, hb2⟩
    go_wp2_with fail
    go_ret
    exact ⟨by first | rfl | (rw [if_pos rfl]; rfl), HB.out.trans (hb1.trans hb2)⟩
  · go_wp2_with fail
    go_ret
    exact ⟨by first | rfl | (rw [if_neg h1]; rfl), HB.out.trans hb1⟩
set_option maxRecDepth 100000 in
set_option maxHeartbeats 2000000 in
theorem sGivenOf_c (r : Rec) (t : Bool) (b c : Int) (w : World) : Calls Try.prog 19 #[styleV r, .bool t, .int .i64 b, .int .i64 c] w fun e w' => e = .returned (.int .i64 (givenOf r t b c)) ∧ Bel w w' := by
  have HB : Hid (Bel w (w.alloc (.cells (styleL r).toArray 31))) := hid' ((Bel.refl w).alloc _)
  have HA := Lib.hid (SB_all w r)
  have h60 := styleL_length r
  obtain ⟨f0, hf0⟩ : ∃ v, twoOf r 13 t b = v := ⟨_, rfl⟩
  have hg : givenOf r t b c = if f0 = -1 then byRatio r t c else f0 := by rw [givenOf, hf0]
  rw [hg]
  have HF := Lib.hid hf0
  clear hg hf0
  have HR3 := Lib.hid (HA.out _ (Bel.refl _))
  go_enter Try.func19, Try.ntmps19
  unfold styleV
  go_wp2_with ((with_reducible show wpList _ _ _ (Oper.mk _ (Op.load 31 _) _ _ _ _ :: _) _ _); refine wpList_load_mid rfl 31 _ rfl w.heap.size 0 rfl (styleL r) _ HR3.out Try.underlying31 rfl (by rw [h60]; kernel_rfl) ?_)
  refine (sFixedOf_c _ _ _ _).mono ?_; rintro e w1 ⟨rfl, hb1⟩
  rw [HF.out]
  have HR1 := Lib.hid (HA.out _ hb1)
  by_cases h1 : f0 = -1
  · subst h1
    go_wp2_with ((with_reducible show wpList _ _ _ (Oper.mk _ (Op.load 31 _) _ _ _ _ :: _) _ _); refine wpList_load_mid rfl 31 _ rfl w.heap.size 0 rfl (styleL r) _ HR1.out Try.underlying31 rfl (by rw [h60]; kernel_rfl) ?_)
    refine (sByRatio_c _ _ _ _).mono ?_; rintro e w2 ⟨rfl, hb2⟩
    go_wp2_with fail
    go_ret
    exact ⟨by first | rfl | (rw [if_pos rfl]; rfl), HB.out.trans (hb1.trans hb2)⟩
  · go_wp2_with fail
    go_ret
    exact ⟨by first | rfl | (rw [if_neg h1]; rfl), HB.out.trans hb1⟩
end Go.Proofs.Ytfmijkedhlnccaa
