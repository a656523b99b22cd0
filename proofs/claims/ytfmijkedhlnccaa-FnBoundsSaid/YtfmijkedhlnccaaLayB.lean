/- (XLayer for seats without trees.) Edges, frames and the axis of a style, both sides. -/
import Derived.Test.YtfmijkedhlnccaaSpace
import Derived.Test.YtfmijkedhlnccaaBox
import Derived.Test.YtfmijkedhlnccaaApp
import Derived.StillTailTactics
import Derived.Deep.QuietTactic
namespace Go.Proofs.Ytfmijkedhlnccaa
open Go.RowKit Go.ChangeShapes Go.WideShapes
set_option linter.unusedVariables false
set_option linter.unusedSimpArgs false

abbrev edgeV (a b c d : Int) : Value := .agg #[.int .i64 a, .int .i64 b, .int .i64 c, .int .i64 d]
def addE (a b : Int) : Int := clamped (clamped a + clamped b)
def frameE (r : Rec) (i : Nat) : Int := addE (r.s (50 + i)) (r.s (54 + i))
def wideE (r : Rec) : Int := addE (frameE r 0) (frameE r 2)
def highE (r : Rec) : Int := addE (frameE r 1) (frameE r 3)
def isRow (r : Rec) : Bool := r.s 0 == 1 || r.s 0 == 3
theorem addE_wrap (a b : Int) : IntKind.i64.wrap (clamped a + clamped b) = clamped a + clamped b := by
  have h1 := clamped_bd a
  have h2 := clamped_bd b
  exact IntWalk.i64_in _ (by omega)
theorem style_box {w : World} {r : Rec} {i : Nat} {v : Value} (h : (styleL r)[i]? = some v) : (w.alloc (.cells (styleL r).toArray 31)).cell? ⟨w.heap.size, i, none⟩ = some v := new_cells w _ _ i v h
theorem box_at {w u : World} {L : List Value} {t : TypeId} (hb : Bel (w.alloc (.cells L.toArray t)) u) {i : Nat} {v : Value} (h : L[i]? = some v) : u.cell? ⟨w.heap.size, i, none⟩ = some v := (hb.cell _ _ (by simp)).trans (new_cells w L t i v h)
theorem box_free {w u : World} {L : List Value} {t : TypeId} (hb : Bel (w.alloc (.cells L.toArray t)) u) (i : Nat) : u.frozen? ⟨w.heap.size, i, none⟩ = false := (hb.frozen _ _ (by simp)).trans (by simp)
theorem range_box (w : World) (L : List Value) (t : TypeId) : (w.alloc (.cells L.toArray t)).rangeAt w.heap.size 0 L := fun q v hq => by
  rw [Nat.zero_add]
  exact new_cells _ _ _ q v hq
set_option maxRecDepth 100000 in
set_option maxHeartbeats 400000 in
theorem iAddEdges_c (a b : Int) (w : World) : Calls Try.prog 57 #[.int .i64 a, .int .i64 b] w fun r w' => r = .returned (.int .i64 (addE a b)) ∧ w' = w := by
  have hw := addE_wrap a b
  go_enter Try.func57, Try.ntmps57
  go_wp2_with (go_at_call 25; refine (iClamped_c _ _).mono ?_; rintro e w' ⟨rfl, rfl⟩)
  go_ret
  exact ⟨by simp_all [addE], rfl⟩
theorem sClamped_s (n : Int) (w : World) : Calls Try.prog 30 #[.int .i64 n] w fun r w' => r = .returned (.int .i64 (clamped n)) ∧ w' = w := (sClamped_c n w).mono fun _ _ h => ⟨h.1, h.2.symm⟩
set_option maxRecDepth 100000 in
set_option maxHeartbeats 1000000 in
theorem iEdgesIn_c (a0 a1 a2 a3 b0 b1 b2 b3 : Int) (w : World) : Calls Try.prog 58 #[edgeV a0 a1 a2 a3, edgeV b0 b1 b2 b3] w fun r w' => r = .returned (edgeV (addE a0 b0) (addE a1 b1) (addE a2 b2) (addE a3 b3)) ∧ Bel w w' := by
  obtain ⟨W, hW⟩ : ∃ W, W = (((w.alloc (.cells #[.int .i64 a0, .int .i64 a1, .int .i64 a2, .int .i64 a3] 29)).alloc (.cells #[.int .i64 b0, .int .i64 b1, .int .i64 b2, .int .i64 b3] 29)).alloc (.cells #[.int .i64 0, .int .i64 0, .int .i64 0, .int .i64 0] 29)) := ⟨_, rfl⟩
  have HWB : Hid (Bel w W) := hid' (by rw [hW]; exact (((Bel.refl w).alloc _).alloc _).alloc _)
  have hz1 : (w.alloc (.cells #[.int .i64 a0, .int .i64 a1, .int .i64 a2, .int .i64 a3] 29)).heap.size = w.heap.size + 1 := by simp
  have hz2 : ((w.alloc (.cells #[.int .i64 a0, .int .i64 a1, .int .i64 a2, .int .i64 a3] 29)).alloc (.cells #[.int .i64 b0, .int .i64 b1, .int .i64 b2, .int .i64 b3] 29)).heap.size = w.heap.size + 1 + 1 := by simp
  have hB0 : Bel (w.alloc (.cells #[.int .i64 a0, .int .i64 a1, .int .i64 a2, .int .i64 a3] 29)) W := by rw [hW]; exact ((Bel.refl _).alloc _).alloc _
  have ca0 := box_at (L := [.int .i64 a0, .int .i64 a1, .int .i64 a2, .int .i64 a3]) hB0 (i := 0) rfl
  have ca1 := box_at (L := [.int .i64 a0, .int .i64 a1, .int .i64 a2, .int .i64 a3]) hB0 (i := 1) rfl
  have ca2 := box_at (L := [.int .i64 a0, .int .i64 a1, .int .i64 a2, .int .i64 a3]) hB0 (i := 2) rfl
  have ca3 := box_at (L := [.int .i64 a0, .int .i64 a1, .int .i64 a2, .int .i64 a3]) hB0 (i := 3) rfl
  have hB1 : Bel ((w.alloc (.cells #[.int .i64 a0, .int .i64 a1, .int .i64 a2, .int .i64 a3] 29)).alloc (.cells #[.int .i64 b0, .int .i64 b1, .int .i64 b2, .int .i64 b3] 29)) W := by rw [hW]; exact (Bel.refl _).alloc _
  have cb0 := box_at (L := [.int .i64 b0, .int .i64 b1, .int .i64 b2, .int .i64 b3]) hB1 (i := 0) rfl
  have cb1 := box_at (L := [.int .i64 b0, .int .i64 b1, .int .i64 b2, .int .i64 b3]) hB1 (i := 1) rfl
  have cb2 := box_at (L := [.int .i64 b0, .int .i64 b1, .int .i64 b2, .int .i64 b3]) hB1 (i := 2) rfl
  have cb3 := box_at (L := [.int .i64 b0, .int .i64 b1, .int .i64 b2, .int .i64 b3]) hB1 (i := 3) rfl
  rw [hz1] at cb0 cb1 cb2 cb3
  have hB2 : Bel (((w.alloc (.cells #[.int .i64 a0, .int .i64 a1, .int .i64 a2, .int .i64 a3] 29)).alloc (.cells #[.int .i64 b0, .int .i64 b1, .int .i64 b2, .int .i64 b3] 29)).alloc (.cells #[.int .i64 0, .int .i64 0, .int .i64 0, .int .i64 0] 29)) W := by rw [hW]; exact Bel.refl _
  have cz0 := box_at (L := [.int .i64 0, .int .i64 0, .int .i64 0, .int .i64 0]) hB2 (i := 0) rfl
  have cz1 := box_at (L := [.int .i64 0, .int .i64 0, .int .i64 0, .int .i64 0]) hB2 (i := 1) rfl
  have cz2 := box_at (L := [.int .i64 0, .int .i64 0, .int .i64 0, .int .i64 0]) hB2 (i := 2) rfl
  have cz3 := box_at (L := [.int .i64 0, .int .i64 0, .int .i64 0, .int .i64 0]) hB2 (i := 3) rfl
  have fz0 := box_free (L := [.int .i64 0, .int .i64 0, .int .i64 0, .int .i64 0]) hB2 0
  have fz1 := box_free (L := [.int .i64 0, .int .i64 0, .int .i64 0, .int .i64 0]) hB2 1
  have fz2 := box_free (L := [.int .i64 0, .int .i64 0, .int .i64 0, .int .i64 0]) hB2 2
  have fz3 := box_free (L := [.int .i64 0, .int .i64 0, .int .i64 0, .int .i64 0]) hB2 3
  rw [hz2] at cz0 cz1 cz2 cz3 fz0 fz1 fz2 fz3
  clear hB0 hB1 hB2 hz1 hz2
  go_enter Try.func58, Try.ntmps58
  go_wp2_with fail
  rw [← hW]
  clear hW
  refine wp_region_still_tail 21 (by kernel_rfl) (by kernel_rfl) ?_
  simp only [List.take_succ_cons, List.take_zero, List.drop_succ_cons, List.drop_zero]
  repeat (first | still_step | still_call (iAddEdges_c _ _ _))
  (try refine wpStill_nil ?_)
  go_wp2_with fail
  refine bodyPost_ret (v := edgeV (addE a0 b0) (addE a1 b1) (addE a2 b2) (addE a3 b3)) (by simp [results, Try.results58, go_sem, *]) rfl ⟨rfl, ?_⟩
  repeat (first | exact HWB.out | refine Bel.drew ?_ | refine Bel.setCell ?_ (by first | (simp; done) | (simp; omega)) _)
set_option maxRecDepth 100000 in
set_option maxHeartbeats 2000000 in
theorem sEdgesIn_c (a0 a1 a2 a3 b0 b1 b2 b3 : Int) (w : World) : Calls Try.prog 66 #[edgeV a0 a1 a2 a3, edgeV b0 b1 b2 b3] w fun r w' => r = .returned (edgeV (addE a0 b0) (addE a1 b1) (addE a2 b2) (addE a3 b3)) ∧ Bel w w' := by
  have hw0 := addE_wrap a0 b0
  have hw1 := addE_wrap a1 b1
  have hw2 := addE_wrap a2 b2
  have hw3 := addE_wrap a3 b3
  obtain ⟨W, hW⟩ : ∃ W, W = (((w.alloc (.cells #[.int .i64 a0, .int .i64 a1, .int .i64 a2, .int .i64 a3] 29)).alloc (.cells #[.int .i64 b0, .int .i64 b1, .int .i64 b2, .int .i64 b3] 29)).alloc (.cells #[.int .i64 0, .int .i64 0, .int .i64 0, .int .i64 0] 29)) := ⟨_, rfl⟩
  have HWB : Hid (Bel w W) := hid' (by rw [hW]; exact (((Bel.refl w).alloc _).alloc _).alloc _)
  have hz1 : (w.alloc (.cells #[.int .i64 a0, .int .i64 a1, .int .i64 a2, .int .i64 a3] 29)).heap.size = w.heap.size + 1 := by simp
  have hz2 : ((w.alloc (.cells #[.int .i64 a0, .int .i64 a1, .int .i64 a2, .int .i64 a3] 29)).alloc (.cells #[.int .i64 b0, .int .i64 b1, .int .i64 b2, .int .i64 b3] 29)).heap.size = w.heap.size + 1 + 1 := by simp
  have hB0 : Bel (w.alloc (.cells #[.int .i64 a0, .int .i64 a1, .int .i64 a2, .int .i64 a3] 29)) W := by rw [hW]; exact ((Bel.refl _).alloc _).alloc _
  have ca0 := box_at (L := [.int .i64 a0, .int .i64 a1, .int .i64 a2, .int .i64 a3]) hB0 (i := 0) rfl
  have ca1 := box_at (L := [.int .i64 a0, .int .i64 a1, .int .i64 a2, .int .i64 a3]) hB0 (i := 1) rfl
  have ca2 := box_at (L := [.int .i64 a0, .int .i64 a1, .int .i64 a2, .int .i64 a3]) hB0 (i := 2) rfl
  have ca3 := box_at (L := [.int .i64 a0, .int .i64 a1, .int .i64 a2, .int .i64 a3]) hB0 (i := 3) rfl
  have hB1 : Bel ((w.alloc (.cells #[.int .i64 a0, .int .i64 a1, .int .i64 a2, .int .i64 a3] 29)).alloc (.cells #[.int .i64 b0, .int .i64 b1, .int .i64 b2, .int .i64 b3] 29)) W := by rw [hW]; exact (Bel.refl _).alloc _
  have cb0 := box_at (L := [.int .i64 b0, .int .i64 b1, .int .i64 b2, .int .i64 b3]) hB1 (i := 0) rfl
  have cb1 := box_at (L := [.int .i64 b0, .int .i64 b1, .int .i64 b2, .int .i64 b3]) hB1 (i := 1) rfl
  have cb2 := box_at (L := [.int .i64 b0, .int .i64 b1, .int .i64 b2, .int .i64 b3]) hB1 (i := 2) rfl
  have cb3 := box_at (L := [.int .i64 b0, .int .i64 b1, .int .i64 b2, .int .i64 b3]) hB1 (i := 3) rfl
  rw [hz1] at cb0 cb1 cb2 cb3
  have hB2 : Bel (((w.alloc (.cells #[.int .i64 a0, .int .i64 a1, .int .i64 a2, .int .i64 a3] 29)).alloc (.cells #[.int .i64 b0, .int .i64 b1, .int .i64 b2, .int .i64 b3] 29)).alloc (.cells #[.int .i64 0, .int .i64 0, .int .i64 0, .int .i64 0] 29)) W := by rw [hW]; exact Bel.refl _
  have cz0 := box_at (L := [.int .i64 0, .int .i64 0, .int .i64 0, .int .i64 0]) hB2 (i := 0) rfl
  have cz1 := box_at (L := [.int .i64 0, .int .i64 0, .int .i64 0, .int .i64 0]) hB2 (i := 1) rfl
  have cz2 := box_at (L := [.int .i64 0, .int .i64 0, .int .i64 0, .int .i64 0]) hB2 (i := 2) rfl
  have cz3 := box_at (L := [.int .i64 0, .int .i64 0, .int .i64 0, .int .i64 0]) hB2 (i := 3) rfl
  have fz0 := box_free (L := [.int .i64 0, .int .i64 0, .int .i64 0, .int .i64 0]) hB2 0
  have fz1 := box_free (L := [.int .i64 0, .int .i64 0, .int .i64 0, .int .i64 0]) hB2 1
  have fz2 := box_free (L := [.int .i64 0, .int .i64 0, .int .i64 0, .int .i64 0]) hB2 2
  have fz3 := box_free (L := [.int .i64 0, .int .i64 0, .int .i64 0, .int .i64 0]) hB2 3
  rw [hz2] at cz0 cz1 cz2 cz3 fz0 fz1 fz2 fz3
  clear hB0 hB1 hB2 hz1 hz2
  go_enter Try.func66, Try.ntmps66
  go_wp2_with fail
  rw [← hW]
  clear hW
  refine wp_region_still_tail 33 (by kernel_rfl) (by kernel_rfl) ?_
  simp only [List.take_succ_cons, List.take_zero, List.drop_succ_cons, List.drop_zero]
  repeat (first | still_step | still_call (sClamped_s _ _))
  (try refine wpStill_nil ?_)
  go_wp2_with fail
  refine bodyPost_ret (v := edgeV (addE a0 b0) (addE a1 b1) (addE a2 b2) (addE a3 b3)) (by simp [results, Try.results66, go_sem, addE, *]) rfl ⟨rfl, ?_⟩
  repeat (first | exact HWB.out | refine Bel.drew ?_ | refine Bel.setCell ?_ (by first | (simp; done) | (simp; omega)) _)
set_option maxRecDepth 100000 in
set_option maxHeartbeats 1000000 in
theorem iWideOf_c (a0 a1 a2 a3 : Int) (w : World) : Calls Try.prog 37 #[edgeV a0 a1 a2 a3] w fun r w' => r = .returned (.int .i64 (addE a0 a2)) ∧ Bel w w' := by
  go_enter Try.func37, Try.ntmps37
  go_wp2_with (go_at_call 57; refine (iAddEdges_c _ _ _).mono ?_; rintro e w' ⟨rfl, rfl⟩)
  go_ret
  refine ⟨rfl, ?_⟩
  repeat (first | exact Bel.refl _ | assumption | refine Bel.alloc ?_ _ | refine Bel.drew ?_ | refine Bel.drewN ?_ _ | refine Bel.trans ?_ (by assumption) | refine Bel.setCell ?_ (by first | (simp; done) | (simp; omega) | (simp at *; omega)) _)
set_option maxRecDepth 100000 in
set_option maxHeartbeats 1000000 in
theorem iHighOf_c (a0 a1 a2 a3 : Int) (w : World) : Calls Try.prog 39 #[edgeV a0 a1 a2 a3] w fun r w' => r = .returned (.int .i64 (addE a1 a3)) ∧ Bel w w' := by
  go_enter Try.func39, Try.ntmps39
  go_wp2_with (go_at_call 57; refine (iAddEdges_c _ _ _).mono ?_; rintro e w' ⟨rfl, rfl⟩)
  go_ret
  refine ⟨rfl, ?_⟩
  repeat (first | exact Bel.refl _ | assumption | refine Bel.alloc ?_ _ | refine Bel.drew ?_ | refine Bel.drewN ?_ _ | refine Bel.trans ?_ (by assumption) | refine Bel.setCell ?_ (by first | (simp; done) | (simp; omega) | (simp at *; omega)) _)
set_option maxRecDepth 100000 in
set_option maxHeartbeats 1000000 in
theorem sWideOf_c (a0 a1 a2 a3 : Int) (w : World) : Calls Try.prog 54 #[edgeV a0 a1 a2 a3] w fun r w' => r = .returned (.int .i64 (addE a0 a2)) ∧ Bel w w' := by
  have hw := addE_wrap a0 a2
  obtain ⟨W, hW⟩ : ∃ W, W = (w.alloc (.cells #[.int .i64 a0, .int .i64 a1, .int .i64 a2, .int .i64 a3] 29)) := ⟨_, rfl⟩
  have HWB : Hid (Bel w W) := hid' (by rw [hW]; exact (Bel.refl w).alloc _)
  have hB0 : Bel (w.alloc (.cells #[.int .i64 a0, .int .i64 a1, .int .i64 a2, .int .i64 a3] 29)) W := by rw [hW]; exact Bel.refl _
  have ca0 := box_at (L := [.int .i64 a0, .int .i64 a1, .int .i64 a2, .int .i64 a3]) hB0 (i := 0) rfl
  have ca1 := box_at (L := [.int .i64 a0, .int .i64 a1, .int .i64 a2, .int .i64 a3]) hB0 (i := 1) rfl
  have ca2 := box_at (L := [.int .i64 a0, .int .i64 a1, .int .i64 a2, .int .i64 a3]) hB0 (i := 2) rfl
  have ca3 := box_at (L := [.int .i64 a0, .int .i64 a1, .int .i64 a2, .int .i64 a3]) hB0 (i := 3) rfl
  clear hB0
  go_enter Try.func54, Try.ntmps54
  go_wp2_with fail
  rw [← hW]
  clear hW
  refine wp_region_still_lit (by kernel_rfl) (by kernel_rfl) ?_
  repeat (first | still_step | still_call (sClamped_s _ _))
  (try refine wpStill_nil ?_)
  go_wp2_with fail
  go_ret
  refine ⟨rfl, ?_⟩
  exact HWB.out.drew
set_option maxRecDepth 100000 in
set_option maxHeartbeats 1000000 in
theorem sHighOf_c (a0 a1 a2 a3 : Int) (w : World) : Calls Try.prog 56 #[edgeV a0 a1 a2 a3] w fun r w' => r = .returned (.int .i64 (addE a1 a3)) ∧ Bel w w' := by
  have hw := addE_wrap a1 a3
  obtain ⟨W, hW⟩ : ∃ W, W = (w.alloc (.cells #[.int .i64 a0, .int .i64 a1, .int .i64 a2, .int .i64 a3] 29)) := ⟨_, rfl⟩
  have HWB : Hid (Bel w W) := hid' (by rw [hW]; exact (Bel.refl w).alloc _)
  have hB0 : Bel (w.alloc (.cells #[.int .i64 a0, .int .i64 a1, .int .i64 a2, .int .i64 a3] 29)) W := by rw [hW]; exact Bel.refl _
  have ca0 := box_at (L := [.int .i64 a0, .int .i64 a1, .int .i64 a2, .int .i64 a3]) hB0 (i := 0) rfl
  have ca1 := box_at (L := [.int .i64 a0, .int .i64 a1, .int .i64 a2, .int .i64 a3]) hB0 (i := 1) rfl
  have ca2 := box_at (L := [.int .i64 a0, .int .i64 a1, .int .i64 a2, .int .i64 a3]) hB0 (i := 2) rfl
  have ca3 := box_at (L := [.int .i64 a0, .int .i64 a1, .int .i64 a2, .int .i64 a3]) hB0 (i := 3) rfl
  clear hB0
  go_enter Try.func56, Try.ntmps56
  go_wp2_with fail
  rw [← hW]
  clear hW
  refine wp_region_still_lit (by kernel_rfl) (by kernel_rfl) ?_
  repeat (first | still_step | still_call (sClamped_s _ _))
  (try refine wpStill_nil ?_)
  go_wp2_with fail
  go_ret
  refine ⟨rfl, ?_⟩
  exact HWB.out.drew
set_option maxRecDepth 100000 in
set_option maxHeartbeats 2000000 in
theorem iFrameOf_c (r : Rec) (w : World) : Calls Try.prog 38 #[styleV r] w fun e w' => e = .returned (edgeV (frameE r 0) (frameE r 1) (frameE r 2) (frameE r 3)) ∧ Bel w w' := by
  have hbE : Bel (w.alloc (.cells (styleL r).toArray 31)) ((w.alloc (.cells (styleL r).toArray 31)).alloc (.cells #[.int .i64 0, .int .i64 0, .int .i64 0, .int .i64 0] 29)) := (Bel.refl _).alloc _
  have c50 := box_at hbE (i := 50) (rcells_int r rfl)
  have c51 := box_at hbE (i := 51) (rcells_int r rfl)
  have c52 := box_at hbE (i := 52) (rcells_int r rfl)
  have c53 := box_at hbE (i := 53) (rcells_int r rfl)
  have c54 := box_at hbE (i := 54) (rcells_int r rfl)
  have c55 := box_at hbE (i := 55) (rcells_int r rfl)
  have c56 := box_at hbE (i := 56) (rcells_int r rfl)
  have c57 := box_at hbE (i := 57) (rcells_int r rfl)
  have hz : (w.alloc (.cells (styleL r).toArray 31)).heap.size = w.heap.size + 1 := by simp
  have HWB : Hid (Bel w ((w.alloc (.cells (styleL r).toArray 31)).alloc (.cells #[.int .i64 0, .int .i64 0, .int .i64 0, .int .i64 0] 29))) := hid' (((Bel.refl w).alloc _).alloc _)
  have HZ : Hid (∀ u, Bel ((w.alloc (.cells (styleL r).toArray 31)).alloc (.cells #[.int .i64 0, .int .i64 0, .int .i64 0, .int .i64 0] 29)) u → (u.cell? ⟨w.heap.size + 1, 0, none⟩ = some (.int .i64 0) ∧ u.cell? ⟨w.heap.size + 1, 1, none⟩ = some (.int .i64 0) ∧ u.cell? ⟨w.heap.size + 1, 2, none⟩ = some (.int .i64 0) ∧ u.cell? ⟨w.heap.size + 1, 3, none⟩ = some (.int .i64 0)) ∧ (u.frozen? ⟨w.heap.size + 1, 0, none⟩ = false ∧ u.frozen? ⟨w.heap.size + 1, 1, none⟩ = false ∧ u.frozen? ⟨w.heap.size + 1, 2, none⟩ = false ∧ u.frozen? ⟨w.heap.size + 1, 3, none⟩ = false)) := hid' (fun u hu => by
    rw [← hz]
    exact ⟨⟨box_at (L := [.int .i64 0, .int .i64 0, .int .i64 0, .int .i64 0]) hu (i := 0) rfl, box_at (L := [.int .i64 0, .int .i64 0, .int .i64 0, .int .i64 0]) hu (i := 1) rfl, box_at (L := [.int .i64 0, .int .i64 0, .int .i64 0, .int .i64 0]) hu (i := 2) rfl, box_at (L := [.int .i64 0, .int .i64 0, .int .i64 0, .int .i64 0]) hu (i := 3) rfl⟩,
      ⟨box_free (L := [.int .i64 0, .int .i64 0, .int .i64 0, .int .i64 0]) hu 0, box_free (L := [.int .i64 0, .int .i64 0, .int .i64 0, .int .i64 0]) hu 1, box_free (L := [.int .i64 0, .int .i64 0, .int .i64 0, .int .i64 0]) hu 2, box_free (L := [.int .i64 0, .int .i64 0, .int .i64 0, .int .i64 0]) hu 3⟩⟩)
  clear hbE hz
  go_enter Try.func38, Try.ntmps38
  unfold styleV
  go_wp2_with (go_at_call 58; refine (iEdgesIn_c _ _ _ _ _ _ _ _ _).mono ?_; rintro e w1 ⟨rfl, hb1⟩; obtain ⟨⟨z0, z1, z2, z3⟩, f0, f1, f2, f3⟩ := HZ.out _ hb1)
  refine bodyPost_ret (v := edgeV (frameE r 0) (frameE r 1) (frameE r 2) (frameE r 3)) (by simp [results, Try.results38, go_sem, frameE, *]) rfl ⟨rfl, ?_⟩
  repeat (first | exact HWB.out.trans hb1 | refine Bel.drew ?_ | refine Bel.setCell ?_ (by first | (simp; done) | (simp; omega)) _)
set_option maxRecDepth 100000 in
set_option maxHeartbeats 2000000 in
theorem sFrameOf_c (r : Rec) (w : World) : Calls Try.prog 55 #[styleV r] w fun e w' => e = .returned (edgeV (frameE r 0) (frameE r 1) (frameE r 2) (frameE r 3)) ∧ Bel w w' := by
  have hbE : Bel (w.alloc (.cells (styleL r).toArray 31)) ((w.alloc (.cells (styleL r).toArray 31)).alloc (.cells #[.int .i64 0, .int .i64 0, .int .i64 0, .int .i64 0] 29)) := (Bel.refl _).alloc _
  have c50 := box_at hbE (i := 50) (rcells_int r rfl)
  have c51 := box_at hbE (i := 51) (rcells_int r rfl)
  have c52 := box_at hbE (i := 52) (rcells_int r rfl)
  have c53 := box_at hbE (i := 53) (rcells_int r rfl)
  have c54 := box_at hbE (i := 54) (rcells_int r rfl)
  have c55 := box_at hbE (i := 55) (rcells_int r rfl)
  have c56 := box_at hbE (i := 56) (rcells_int r rfl)
  have c57 := box_at hbE (i := 57) (rcells_int r rfl)
  have hz : (w.alloc (.cells (styleL r).toArray 31)).heap.size = w.heap.size + 1 := by simp
  have HWB : Hid (Bel w ((w.alloc (.cells (styleL r).toArray 31)).alloc (.cells #[.int .i64 0, .int .i64 0, .int .i64 0, .int .i64 0] 29))) := hid' (((Bel.refl w).alloc _).alloc _)
  have HZ : Hid (∀ u, Bel ((w.alloc (.cells (styleL r).toArray 31)).alloc (.cells #[.int .i64 0, .int .i64 0, .int .i64 0, .int .i64 0] 29)) u → (u.cell? ⟨w.heap.size + 1, 0, none⟩ = some (.int .i64 0) ∧ u.cell? ⟨w.heap.size + 1, 1, none⟩ = some (.int .i64 0) ∧ u.cell? ⟨w.heap.size + 1, 2, none⟩ = some (.int .i64 0) ∧ u.cell? ⟨w.heap.size + 1, 3, none⟩ = some (.int .i64 0)) ∧ (u.frozen? ⟨w.heap.size + 1, 0, none⟩ = false ∧ u.frozen? ⟨w.heap.size + 1, 1, none⟩ = false ∧ u.frozen? ⟨w.heap.size + 1, 2, none⟩ = false ∧ u.frozen? ⟨w.heap.size + 1, 3, none⟩ = false)) := hid' (fun u hu => by
    rw [← hz]
    exact ⟨⟨box_at (L := [.int .i64 0, .int .i64 0, .int .i64 0, .int .i64 0]) hu (i := 0) rfl, box_at (L := [.int .i64 0, .int .i64 0, .int .i64 0, .int .i64 0]) hu (i := 1) rfl, box_at (L := [.int .i64 0, .int .i64 0, .int .i64 0, .int .i64 0]) hu (i := 2) rfl, box_at (L := [.int .i64 0, .int .i64 0, .int .i64 0, .int .i64 0]) hu (i := 3) rfl⟩,
      ⟨box_free (L := [.int .i64 0, .int .i64 0, .int .i64 0, .int .i64 0]) hu 0, box_free (L := [.int .i64 0, .int .i64 0, .int .i64 0, .int .i64 0]) hu 1, box_free (L := [.int .i64 0, .int .i64 0, .int .i64 0, .int .i64 0]) hu 2, box_free (L := [.int .i64 0, .int .i64 0, .int .i64 0, .int .i64 0]) hu 3⟩⟩)
  clear hbE hz
  go_enter Try.func55, Try.ntmps55
  unfold styleV
  go_wp2_with (go_at_call 66; refine (sEdgesIn_c _ _ _ _ _ _ _ _ _).mono ?_; rintro e w1 ⟨rfl, hb1⟩; obtain ⟨⟨z0, z1, z2, z3⟩, f0, f1, f2, f3⟩ := HZ.out _ hb1)
  refine bodyPost_ret (v := edgeV (frameE r 0) (frameE r 1) (frameE r 2) (frameE r 3)) (by simp [results, Try.results55, go_sem, frameE, *]) rfl ⟨rfl, ?_⟩
  repeat (first | exact HWB.out.trans hb1 | refine Bel.drew ?_ | refine Bel.setCell ?_ (by first | (simp; done) | (simp; omega)) _)
def frameSize (r : Rec) (wide : Bool) : Int := if wide = true then wideE r else highE r
set_option maxRecDepth 100000 in
set_option maxHeartbeats 2000000 in
theorem sFrameSize_c (r : Rec) (wide : Bool) (w : World) : Calls Try.prog 35 #[styleV r, .bool wide] w fun e w' => e = .returned (.int .i64 (frameSize r wide)) ∧ Bel w w' := by
  have hr0 : (w.alloc (.cells (styleL r).toArray 31)).rangeAt w.heap.size 0 (styleL r) := range_box w (styleL r) _
  have HB : Hid (Bel w (w.alloc (.cells (styleL r).toArray 31))) := hid' ((Bel.refl w).alloc _)
  have HR := Lib.hid hr0
  have h60 := styleL_length r
  clear hr0
  cases wide
  all_goals
    go_enter Try.func35, Try.ntmps35
    unfold styleV
    go_wp2_with ((with_reducible show wpList _ _ _ (Oper.mk _ (Op.load _ _) _ _ _ _ :: _) _ _); refine wpList_load_mid rfl 31 _ rfl w.heap.size 0 rfl (styleL r) _ HR.out Try.underlying31 rfl (by rw [h60]; kernel_rfl) ?_)
    refine (sFrameOf_c r _).mono ?_; rintro e w1 ⟨rfl, hb1⟩
    go_wp2_with (first | (go_at_call 54; refine (sWideOf_c _ _ _ _ _).mono ?_; rintro e w2 ⟨rfl, hb2⟩) | (go_at_call 56; refine (sHighOf_c _ _ _ _ _).mono ?_; rintro e w2 ⟨rfl, hb2⟩))
    go_ret
    exact ⟨rfl, HB.out.trans (hb1.trans hb2)⟩
end Go.Proofs.Ytfmijkedhlnccaa
