/- The functions on sides of one item: what each returns. -/
import Derived.Test.YtmmepndjgiipjaaNum
namespace Go.Proofs.Ytmmepndjgiipjaa
open Go.RowKit

abbrev sideV (a b c : Int) (d e : Bool) (f g : Int) : Value := .agg #[.int .i64 a, .int .i64 b, .int .i64 c, .bool d, .bool e, .int .i64 f, .int .i64 g]
def onBase (d e : Bool) (f : Int) : Bool := f == 5 && !d && !e
def fills (d e : Bool) (f : Int) : Bool := f == 1 && !d && !e
def sideOk (a b c f g : Int) : Bool := inB a 0 1048576 && inB g 0 1048576 && inB b (-1048576) 1048576 && inB c (-1048576) 1048576 && inB f 1 5

set_option maxHeartbeats 400000 in
theorem toSide_c (a b c : Int) (d e : Bool) (f g : Int) (w : World) :
    Calls Try.prog 16 #[sideV a b c d e f g] w fun r w' => r = .returned (sideV a b c d e f g) ∧ Bel w w' := by
  go_enter Try.func16, Try.ntmps16
  go_wp2
  refine bodyPost_ret (v := sideV a b c d e f g) (by simp [results, Try.results16, go_sem]) rfl ⟨rfl, ?_⟩
  repeat (first | exact Bel.refl _ | assumption | refine Bel.alloc ?_ _ | refine Bel.drew ?_ | refine Bel.drewN ?_ _ | refine Bel.trans ?_ (by assumption))
set_option maxHeartbeats 400000 in
theorem l17Auto_c (a b c : Int) (d e : Bool) (f g : Int) (w : World) : Calls Try.prog 45 #[sideV a b c d e f g] w fun r w' => r = .returned (.bool (d || e)) ∧ Bel w w' := by
  go_enter Try.func45, Try.ntmps45
  go_wp2_with (fail)
  all_goals (go_ret; refine ⟨by simp [*], ?_⟩)
  all_goals
    repeat (first | exact Bel.refl _ | assumption | refine Bel.alloc ?_ _ | refine Bel.drew ?_ | refine Bel.drewN ?_ _ | refine Bel.trans ?_ (by assumption))
set_option maxHeartbeats 400000 in
theorem iFills_c (a b c : Int) (d e : Bool) (f g : Int) (w : World) : Calls Try.prog 17 #[sideV a b c d e f g] w fun r w' => r = .returned (.bool (fills d e f)) ∧ Bel w w' := by
  go_enter Try.func17, Try.ntmps17
  go_wp2_with (fail)
  all_goals (go_ret; refine ⟨by simp [*, fills], ?_⟩)
  all_goals
    repeat (first | exact Bel.refl _ | assumption | refine Bel.alloc ?_ _ | refine Bel.drew ?_ | refine Bel.drewN ?_ _ | refine Bel.trans ?_ (by assumption))
set_option maxHeartbeats 400000 in
theorem sFills_c (a b c : Int) (d e : Bool) (f g : Int) (w : World) : Calls Try.prog 15 #[sideV a b c d e f g] w fun r w' => r = .returned (.bool (fills d e f)) ∧ Bel w w' := by
  go_enter Try.func15, Try.ntmps15
  go_wp2_with (go_at_call 45; refine (l17Auto_c _ _ _ _ _ _ _ _).mono ?_; rintro e w' ⟨rfl, hb1⟩)
  all_goals (go_ret; refine ⟨by simp [*, fills, Bool.and_assoc], ?_⟩)
  all_goals
    repeat (first | exact Bel.refl _ | assumption | refine Bel.alloc ?_ _ | refine Bel.drew ?_ | refine Bel.drewN ?_ _ | refine Bel.trans ?_ (by assumption))
set_option maxHeartbeats 400000 in
theorem iOnBase_c (a b c : Int) (d e : Bool) (f g : Int) (w : World) : Calls Try.prog 19 #[sideV a b c d e f g] w fun r w' => r = .returned (.bool (onBase d e f)) ∧ Bel w w' := by
  go_enter Try.func19, Try.ntmps19
  go_wp2_with (fail)
  all_goals (go_ret; refine ⟨by simp [*, onBase], ?_⟩)
  all_goals
    repeat (first | exact Bel.refl _ | assumption | refine Bel.alloc ?_ _ | refine Bel.drew ?_ | refine Bel.drewN ?_ _ | refine Bel.trans ?_ (by assumption))
set_option maxHeartbeats 400000 in
theorem sOnBase_c (a b c : Int) (d e : Bool) (f g : Int) (w : World) : Calls Try.prog 18 #[sideV a b c d e f g] w fun r w' => r = .returned (.bool (onBase d e f)) ∧ Bel w w' := by
  go_enter Try.func18, Try.ntmps18
  go_wp2_with (go_at_call 45; refine (l17Auto_c _ _ _ _ _ _ _ _).mono ?_; rintro e w' ⟨rfl, hb1⟩)
  all_goals (go_ret; refine ⟨by simp [*, onBase, Bool.and_assoc], ?_⟩)
  all_goals
    repeat (first | exact Bel.refl _ | assumption | refine Bel.alloc ?_ _ | refine Bel.drew ?_ | refine Bel.drewN ?_ _ | refine Bel.trans ?_ (by assumption))
set_option maxHeartbeats 400000 in
theorem iSideOk_c (a b c : Int) (d e : Bool) (f g : Int) (w : World) : Calls Try.prog 24 #[sideV a b c d e f g] w fun r w' => r = .returned (.bool (sideOk a b c f g)) ∧ Bel w w' := by
  go_enter Try.func24, Try.ntmps24
  go_wp2_with (go_at_call 47; refine (in_c _ _ _ _).mono ?_; rintro e w' ⟨rfl, rfl⟩)
  all_goals (go_ret; refine ⟨by simp [*, sideOk], ?_⟩)
  all_goals
    repeat (first | exact Bel.refl _ | assumption | refine Bel.alloc ?_ _ | refine Bel.drew ?_ | refine Bel.drewN ?_ _ | refine Bel.trans ?_ (by assumption))
set_option maxHeartbeats 400000 in
theorem sSideOk_c (a b c : Int) (d e : Bool) (f g : Int) (w : World) : Calls Try.prog 23 #[sideV a b c d e f g] w fun r w' => r = .returned (.bool (sideOk a b c f g)) ∧ Bel w w' := by
  go_enter Try.func23, Try.ntmps23
  go_wp2_with (go_at_call 46; refine (l01In_c _ _ _ _).mono ?_; rintro e w' ⟨rfl, rfl⟩)
  all_goals (go_ret; refine ⟨by simp [*, sideOk], ?_⟩)
  all_goals
    repeat (first | exact Bel.refl _ | assumption | refine Bel.alloc ?_ _ | refine Bel.drew ?_ | refine Bel.drewN ?_ _ | refine Bel.trans ?_ (by assumption))

end Go.Proofs.Ytmmepndjgiipjaa
