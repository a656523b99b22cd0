/- The functions on one item: what each returns. -/
import Derived.Test.YtmipjhnjlpmidaaNum
namespace Go.Proofs.Ytmipjhnjlpmidaa
open Go.RowKit

abbrev itemV (a b c d e f g : Int) (h i : Bool) : Value := .agg #[.int .i64 a, .int .i64 b, .int .i64 c, .int .i64 d, .int .i64 e, .int .i64 f, .int .i64 g, .bool h, .bool i]
def itemOk (a b c d e f g : Int) : Bool := inB a 0 1048576 && inB b 0 1048576 && inB f (-1048576) 1048576 && inB g (-1048576) 1048576 && inB c (-1) 1048576 && inB d 0 1000 && inB e 0 1000

set_option maxRecDepth 100000 in
set_option maxHeartbeats 400000 in
theorem toItem_c (a b c d e f g : Int) (h i : Bool) (w : World) :
    Calls Try.prog 57 #[itemV a b c d e f g h i] w fun r w' => r = .returned (itemV a b c d e f g h i) ∧ Bel w w' := by
  go_enter Try.func57, Try.ntmps57
  go_wp2
  refine bodyPost_ret (v := itemV a b c d e f g h i) (by simp [results, Try.results57, go_sem]) rfl ⟨rfl, ?_⟩
  repeat (first | exact Bel.refl _ | assumption | refine Bel.alloc ?_ _ | refine Bel.drew ?_ | refine Bel.drewN ?_ _ | refine Bel.trans ?_ (by assumption) | refine Bel.setCell ?_ (by first | (simp; done) | (simp; omega) | (simp at *; omega)) _)
set_option maxRecDepth 100000 in
set_option maxHeartbeats 400000 in
theorem iItemOk_c (a b c d e f g : Int) (h i : Bool) (w : World) : Calls Try.prog 54 #[itemV a b c d e f g h i] w fun r w' => r = .returned (.bool (itemOk a b c d e f g)) ∧ Bel w w' := by
  go_enter Try.func54, Try.ntmps54
  go_wp2_with (go_at_call 68; refine (in_c _ _ _ _).mono ?_; rintro e w' ⟨rfl, rfl⟩)
  all_goals (go_ret; refine ⟨by simp [*, itemOk], ?_⟩)
  all_goals
    repeat (first | exact Bel.refl _ | assumption | refine Bel.alloc ?_ _ | refine Bel.drew ?_ | refine Bel.drewN ?_ _ | refine Bel.trans ?_ (by assumption) | refine Bel.setCell ?_ (by first | (simp; done) | (simp; omega) | (simp at *; omega)) _)
set_option maxRecDepth 100000 in
set_option maxHeartbeats 400000 in
theorem sItemOk_c (a b c d e f g : Int) (h i : Bool) (w : World) : Calls Try.prog 55 #[itemV a b c d e f g h i] w fun r w' => r = .returned (.bool (itemOk a b c d e f g)) ∧ Bel w w' := by
  go_enter Try.func55, Try.ntmps55
  go_wp2_with (go_at_call 73; refine (l01In_c _ _ _ _).mono ?_; rintro e w' ⟨rfl, rfl⟩)
  all_goals (go_ret; refine ⟨by simp [*, itemOk], ?_⟩)
  all_goals
    repeat (first | exact Bel.refl _ | assumption | refine Bel.alloc ?_ _ | refine Bel.drew ?_ | refine Bel.drewN ?_ _ | refine Bel.trans ?_ (by assumption) | refine Bel.setCell ?_ (by first | (simp; done) | (simp; omega) | (simp at *; omega)) _)
set_option maxRecDepth 100000 in
set_option maxHeartbeats 400000 in
theorem iHypOf_c (a b c d e f g : Int) (h i : Bool) (w : World) :
    Calls Try.prog 50 #[itemV a b c d e f g h i] w fun r w' => r = .returned (.int .i64 (within a b c)) ∧ Bel w w' := by
  go_enter Try.func50, Try.ntmps50
  go_wp2_with (go_at_call 85; refine (iWithin_c _ _ _ _).mono ?_; rintro e w' ⟨rfl, rfl⟩)
  all_goals (go_ret; refine ⟨rfl, ?_⟩)
  all_goals
    repeat (first | exact Bel.refl _ | assumption | refine Bel.alloc ?_ _ | refine Bel.drew ?_ | refine Bel.drewN ?_ _ | refine Bel.trans ?_ (by assumption) | refine Bel.setCell ?_ (by first | (simp; done) | (simp; omega) | (simp at *; omega)) _)
set_option maxRecDepth 100000 in
set_option maxHeartbeats 400000 in
theorem sHypOf_c (a b c d e f g : Int) (h i : Bool) (w : World) :
    Calls Try.prog 53 #[itemV a b c d e f g h i] w fun r w' => r = .returned (.int .i64 (within a b c)) ∧ Bel w w' := by
  go_enter Try.func53, Try.ntmps53
  go_wp2_with (go_at_call 86; refine (sWithin_c _ _ _ _).mono ?_; rintro e w' ⟨rfl, rfl⟩)
  all_goals (go_ret; refine ⟨rfl, ?_⟩)
  all_goals
    repeat (first | exact Bel.refl _ | assumption | refine Bel.alloc ?_ _ | refine Bel.drew ?_ | refine Bel.drewN ?_ _ | refine Bel.trans ?_ (by assumption) | refine Bel.setCell ?_ (by first | (simp; done) | (simp; omega) | (simp at *; omega)) _)
end Go.Proofs.Ytmipjhnjlpmidaa
