/- The functions on sides of one item: what each returns. -/
import Derived.Test.YtgelpfecfbagdaaNum
namespace Go.Proofs.Ytgelpfecfbagdaa
open Go.RowKit

abbrev sideV (a b c : Int) (d e : Bool) (f g : Int) : Value := .agg #[.int .i64 a, .int .i64 b, .int .i64 c, .bool d, .bool e, .int .i64 f, .int .i64 g]
def onBase (d e : Bool) (f : Int) : Bool := f == 5 && !d && !e
def fills (d e : Bool) (f : Int) : Bool := f == 1 && !d && !e
def sideOk (a b c f g : Int) : Bool := inB a 0 1048576 && inB g 0 1048576 && inB b (-1048576) 1048576 && inB c (-1048576) 1048576 && inB f 1 5

set_option maxHeartbeats 400000 in
theorem toSide_c (a b c : Int) (d e : Bool) (f g : Int) (w : World) :
    Calls Try.prog 48 #[sideV a b c d e f g] w fun r w' => r = .returned (sideV a b c d e f g) ∧ Bel w w' := by
  go_enter Try.func48, Try.ntmps48
  go_wp2
  refine bodyPost_ret (v := sideV a b c d e f g) (by simp [results, Try.results48, go_sem]) rfl ⟨rfl, ?_⟩
  repeat (first | exact Bel.refl _ | assumption | refine Bel.alloc ?_ _ | refine Bel.drew ?_ | refine Bel.drewN ?_ _ | refine Bel.trans ?_ (by assumption) | refine Bel.setCell ?_ (by first | (simp; done) | (simp; omega) | (simp at *; omega)) _)
set_option maxHeartbeats 400000 in
theorem l17Auto_c (a b c : Int) (d e : Bool) (f g : Int) (w : World) : Calls Try.prog 80 #[sideV a b c d e f g] w fun r w' => r = .returned (.bool (d || e)) ∧ Bel w w' := by
  go_enter Try.func80, Try.ntmps80
  go_wp2_with (fail)
  all_goals (go_ret; refine ⟨by simp [*], ?_⟩)
  all_goals
    repeat (first | exact Bel.refl _ | assumption | refine Bel.alloc ?_ _ | refine Bel.drew ?_ | refine Bel.drewN ?_ _ | refine Bel.trans ?_ (by assumption) | refine Bel.setCell ?_ (by first | (simp; done) | (simp; omega) | (simp at *; omega)) _)
set_option maxHeartbeats 400000 in
theorem iOnBase_c (a b c : Int) (d e : Bool) (f g : Int) (w : World) : Calls Try.prog 77 #[sideV a b c d e f g] w fun r w' => r = .returned (.bool (onBase d e f)) ∧ Bel w w' := by
  go_enter Try.func77, Try.ntmps77
  go_wp2_with (fail)
  all_goals (go_ret; refine ⟨by simp [*, onBase], ?_⟩)
  all_goals
    repeat (first | exact Bel.refl _ | assumption | refine Bel.alloc ?_ _ | refine Bel.drew ?_ | refine Bel.drewN ?_ _ | refine Bel.trans ?_ (by assumption) | refine Bel.setCell ?_ (by first | (simp; done) | (simp; omega) | (simp at *; omega)) _)
set_option maxHeartbeats 400000 in
theorem sOnBase_c (a b c : Int) (d e : Bool) (f g : Int) (w : World) : Calls Try.prog 76 #[sideV a b c d e f g] w fun r w' => r = .returned (.bool (onBase d e f)) ∧ Bel w w' := by
  go_enter Try.func76, Try.ntmps76
  go_wp2_with (go_at_call 80; refine (l17Auto_c _ _ _ _ _ _ _ _).mono ?_; rintro e w' ⟨rfl, hb1⟩)
  all_goals (go_ret; refine ⟨by simp [*, onBase, Bool.and_assoc], ?_⟩)
  all_goals
    repeat (first | exact Bel.refl _ | assumption | refine Bel.alloc ?_ _ | refine Bel.drew ?_ | refine Bel.drewN ?_ _ | refine Bel.trans ?_ (by assumption) | refine Bel.setCell ?_ (by first | (simp; done) | (simp; omega) | (simp at *; omega)) _)
set_option maxHeartbeats 400000 in
theorem iSideOk_c (a b c : Int) (d e : Bool) (f g : Int) (w : World) : Calls Try.prog 81 #[sideV a b c d e f g] w fun r w' => r = .returned (.bool (sideOk a b c f g)) ∧ Bel w w' := by
  go_enter Try.func81, Try.ntmps81
  go_wp2_with (go_at_call 56; refine (in_c _ _ _ _).mono ?_; rintro e w' ⟨rfl, rfl⟩)
  all_goals (go_ret; refine ⟨by simp [*, sideOk], ?_⟩)
  all_goals
    repeat (first | exact Bel.refl _ | assumption | refine Bel.alloc ?_ _ | refine Bel.drew ?_ | refine Bel.drewN ?_ _ | refine Bel.trans ?_ (by assumption) | refine Bel.setCell ?_ (by first | (simp; done) | (simp; omega) | (simp at *; omega)) _)
set_option maxHeartbeats 400000 in
theorem sSideOk_c (a b c : Int) (d e : Bool) (f g : Int) (w : World) : Calls Try.prog 79 #[sideV a b c d e f g] w fun r w' => r = .returned (.bool (sideOk a b c f g)) ∧ Bel w w' := by
  go_enter Try.func79, Try.ntmps79
  go_wp2_with (go_at_call 55; refine (l01In_c _ _ _ _).mono ?_; rintro e w' ⟨rfl, rfl⟩)
  all_goals (go_ret; refine ⟨by simp [*, sideOk], ?_⟩)
  all_goals
    repeat (first | exact Bel.refl _ | assumption | refine Bel.alloc ?_ _ | refine Bel.drew ?_ | refine Bel.drewN ?_ _ | refine Bel.trans ?_ (by assumption) | refine Bel.setCell ?_ (by first | (simp; done) | (simp; omega) | (simp at *; omega)) _)

end Go.Proofs.Ytgelpfecfbagdaa
