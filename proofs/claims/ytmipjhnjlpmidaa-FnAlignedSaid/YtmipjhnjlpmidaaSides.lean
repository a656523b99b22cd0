/- The functions on sides of one item: what each returns. -/
import Derived.Test.YtmipjhnjlpmidaaNum
namespace Go.Proofs.Ytmipjhnjlpmidaa
open Go.RowKit

abbrev sideV (a b c : Int) (d e : Bool) (f g : Int) : Value := .agg #[.int .i64 a, .int .i64 b, .int .i64 c, .bool d, .bool e, .int .i64 f, .int .i64 g]
def onBase (d e : Bool) (f : Int) : Bool := f == 5 && !d && !e
def fills (d e : Bool) (f : Int) : Bool := f == 1 && !d && !e
def sideOk (a b c f g : Int) : Bool := inB a 0 1048576 && inB g 0 1048576 && inB b (-1048576) 1048576 && inB c (-1048576) 1048576 && inB f 1 5

set_option maxRecDepth 100000 in
set_option maxHeartbeats 400000 in
theorem l17Auto_c (a b c : Int) (d e : Bool) (f g : Int) (w : World) : Calls Try.prog 82 #[sideV a b c d e f g] w fun r w' => r = .returned (.bool (d || e)) ∧ Bel w w' := by
  go_enter Try.func82, Try.ntmps82
  go_wp2_with (fail)
  all_goals (go_ret; refine ⟨by simp [*], ?_⟩)
  all_goals
    repeat (first | exact Bel.refl _ | assumption | refine Bel.alloc ?_ _ | refine Bel.drew ?_ | refine Bel.drewN ?_ _ | refine Bel.trans ?_ (by assumption) | refine Bel.setCell ?_ (by first | (simp; done) | (simp; omega) | (simp at *; omega)) _)
set_option maxRecDepth 100000 in
set_option maxHeartbeats 400000 in
theorem iFills_c (a b c : Int) (d e : Bool) (f g : Int) (w : World) : Calls Try.prog 47 #[sideV a b c d e f g] w fun r w' => r = .returned (.bool (fills d e f)) ∧ Bel w w' := by
  go_enter Try.func47, Try.ntmps47
  go_wp2_with (fail)
  all_goals (go_ret; refine ⟨by simp [*, fills], ?_⟩)
  all_goals
    repeat (first | exact Bel.refl _ | assumption | refine Bel.alloc ?_ _ | refine Bel.drew ?_ | refine Bel.drewN ?_ _ | refine Bel.trans ?_ (by assumption) | refine Bel.setCell ?_ (by first | (simp; done) | (simp; omega) | (simp at *; omega)) _)
set_option maxRecDepth 100000 in
set_option maxHeartbeats 400000 in
theorem sFills_c (a b c : Int) (d e : Bool) (f g : Int) (w : World) : Calls Try.prog 48 #[sideV a b c d e f g] w fun r w' => r = .returned (.bool (fills d e f)) ∧ Bel w w' := by
  go_enter Try.func48, Try.ntmps48
  go_wp2_with (go_at_call 82; refine (l17Auto_c _ _ _ _ _ _ _ _).mono ?_; rintro e w' ⟨rfl, hb1⟩)
  all_goals (go_ret; refine ⟨by simp [*, fills, Bool.and_assoc], ?_⟩)
  all_goals
    repeat (first | exact Bel.refl _ | assumption | refine Bel.alloc ?_ _ | refine Bel.drew ?_ | refine Bel.drewN ?_ _ | refine Bel.trans ?_ (by assumption) | refine Bel.setCell ?_ (by first | (simp; done) | (simp; omega) | (simp at *; omega)) _)
set_option maxRecDepth 100000 in
set_option maxHeartbeats 400000 in
theorem iOnBase_c (a b c : Int) (d e : Bool) (f g : Int) (w : World) : Calls Try.prog 45 #[sideV a b c d e f g] w fun r w' => r = .returned (.bool (onBase d e f)) ∧ Bel w w' := by
  go_enter Try.func45, Try.ntmps45
  go_wp2_with (fail)
  all_goals (go_ret; refine ⟨by simp [*, onBase], ?_⟩)
  all_goals
    repeat (first | exact Bel.refl _ | assumption | refine Bel.alloc ?_ _ | refine Bel.drew ?_ | refine Bel.drewN ?_ _ | refine Bel.trans ?_ (by assumption) | refine Bel.setCell ?_ (by first | (simp; done) | (simp; omega) | (simp at *; omega)) _)
set_option maxRecDepth 100000 in
set_option maxHeartbeats 400000 in
theorem sOnBase_c (a b c : Int) (d e : Bool) (f g : Int) (w : World) : Calls Try.prog 46 #[sideV a b c d e f g] w fun r w' => r = .returned (.bool (onBase d e f)) ∧ Bel w w' := by
  go_enter Try.func46, Try.ntmps46
  go_wp2_with (go_at_call 82; refine (l17Auto_c _ _ _ _ _ _ _ _).mono ?_; rintro e w' ⟨rfl, hb1⟩)
  all_goals (go_ret; refine ⟨by simp [*, onBase, Bool.and_assoc], ?_⟩)
  all_goals
    repeat (first | exact Bel.refl _ | assumption | refine Bel.alloc ?_ _ | refine Bel.drew ?_ | refine Bel.drewN ?_ _ | refine Bel.trans ?_ (by assumption) | refine Bel.setCell ?_ (by first | (simp; done) | (simp; omega) | (simp at *; omega)) _)
set_option maxRecDepth 100000 in
set_option maxHeartbeats 400000 in
theorem iSideOk_c (a b c : Int) (d e : Bool) (f g : Int) (w : World) : Calls Try.prog 43 #[sideV a b c d e f g] w fun r w' => r = .returned (.bool (sideOk a b c f g)) ∧ Bel w w' := by
  go_enter Try.func43, Try.ntmps43
  go_wp2_with (go_at_call 68; refine (in_c _ _ _ _).mono ?_; rintro e w' ⟨rfl, rfl⟩)
  all_goals (go_ret; refine ⟨by simp [*, sideOk], ?_⟩)
  all_goals
    repeat (first | exact Bel.refl _ | assumption | refine Bel.alloc ?_ _ | refine Bel.drew ?_ | refine Bel.drewN ?_ _ | refine Bel.trans ?_ (by assumption) | refine Bel.setCell ?_ (by first | (simp; done) | (simp; omega) | (simp at *; omega)) _)
set_option maxRecDepth 100000 in
set_option maxHeartbeats 400000 in
theorem sSideOk_c (a b c : Int) (d e : Bool) (f g : Int) (w : World) : Calls Try.prog 44 #[sideV a b c d e f g] w fun r w' => r = .returned (.bool (sideOk a b c f g)) ∧ Bel w w' := by
  go_enter Try.func44, Try.ntmps44
  go_wp2_with (go_at_call 73; refine (l01In_c _ _ _ _).mono ?_; rintro e w' ⟨rfl, rfl⟩)
  all_goals (go_ret; refine ⟨by simp [*, sideOk], ?_⟩)
  all_goals
    repeat (first | exact Bel.refl _ | assumption | refine Bel.alloc ?_ _ | refine Bel.drew ?_ | refine Bel.drewN ?_ _ | refine Bel.trans ?_ (by assumption) | refine Bel.setCell ?_ (by first | (simp; done) | (simp; omega) | (simp at *; omega)) _)

end Go.Proofs.Ytmipjhnjlpmidaa
