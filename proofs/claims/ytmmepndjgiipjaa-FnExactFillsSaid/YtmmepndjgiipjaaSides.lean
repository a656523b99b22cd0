/- The functions on sides of one item: what each returns. -/
import Derived.Test.YtmmepndjgiipjaaBase
import Derived.Test.YtmmepndjgiipjaaRows
namespace Go.Proofs.Ytmmepndjgiipjaa
open Go.RowKit

abbrev sideV (a b c : Int) (d e : Bool) (f g : Int) : Value := .agg #[.int .i64 a, .int .i64 b, .int .i64 c, .bool d, .bool e, .int .i64 f, .int .i64 g]

set_option maxHeartbeats 400000 in
theorem toSide_c (a b c : Int) (d e : Bool) (f g : Int) (w : World) :
    Calls Try.prog 16 #[sideV a b c d e f g] w fun r w' => r = .returned (sideV a b c d e f g) ∧ Bel w w' := by
  go_enter Try.func16, Try.ntmps16
  go_wp2
  refine bodyPost_ret (v := sideV a b c d e f g) (by simp [results, Try.results16, go_sem]) rfl ⟨rfl, ?_⟩
  repeat (first | exact Bel.refl _ | assumption | refine Bel.alloc ?_ _ | refine Bel.drew ?_ | refine Bel.drewN ?_ _ | refine Bel.trans ?_ (by assumption))

set_option maxHeartbeats 400000 in
theorem iFills_c (a b c : Int) (d e : Bool) (f g : Int) (w : World) :
    Calls Try.prog 17 #[sideV a b c d e f g] w fun r w' => r = .returned (.bool (f == 1 && !d && !e)) ∧ Bel w w' := by
  go_enter Try.func17, Try.ntmps17
  go_wp2
  all_goals (go_ret; refine ⟨by simp [*], ?_⟩)
  all_goals
    repeat (first | exact Bel.refl _ | assumption | refine Bel.alloc ?_ _ | refine Bel.drew ?_ | refine Bel.drewN ?_ _ | refine Bel.trans ?_ (by assumption))

set_option maxHeartbeats 400000 in
theorem sFills_c (a b c : Int) (d e : Bool) (f g : Int) (w : World) :
    Calls Try.prog 15 #[sideV a b c d e f g] w fun r w' => r = .returned (.bool (f == 1 && !d && !e)) ∧ Bel w w' := by
  go_enter Try.func15, Try.ntmps15
  go_wp2
  all_goals (go_ret; refine ⟨by simp [*], ?_⟩)
  all_goals
    repeat (first | exact Bel.refl _ | assumption | refine Bel.alloc ?_ _ | refine Bel.drew ?_ | refine Bel.drewN ?_ _ | refine Bel.trans ?_ (by assumption))

set_option maxHeartbeats 400000 in
theorem lawFills_c (a b c : Int) (d e : Bool) (f g : Int) (w : World) :
    Calls Try.prog 3 #[sideV a b c d e f g] w fun r w' => r = .returned (.bool true) ∧ Bel w w' := by
  go_enter Try.func3, Try.ntmps3
  go_wp2_with fail
  refine (toSide_c _ _ _ _ _ _ _ _).mono ?_; rintro e w1 ⟨rfl, hb1⟩
  obtain ⟨hc1, -, hz1⟩ := hb1.open_
  have hl1 : w.heap.size < w1.heap.size := by simp at hz1; omega
  go_wp2_with fail
  refine (sFills_c _ _ _ _ _ _ _ _).mono ?_; rintro e w2 ⟨rfl, hb2⟩
  obtain ⟨hc2, -, hz2⟩ := hb2.open_
  go_wp2_with fail
  refine (toSide_c _ _ _ _ _ _ _ _).mono ?_; rintro e w3 ⟨rfl, hb3⟩
  go_wp2_with fail
  refine (iFills_c _ _ _ _ _ _ _ _).mono ?_; rintro e w4 ⟨rfl, hb4⟩
  go_wp2_with fail
  all_goals (go_ret; refine ⟨by simp [*], ?_⟩)
  all_goals
    repeat (first | exact Bel.refl _ | assumption | refine Bel.alloc ?_ _ | refine Bel.drew ?_ | refine Bel.drewN ?_ _ | refine Bel.trans ?_ (by assumption))

end Go.Proofs.Ytmmepndjgiipjaa
