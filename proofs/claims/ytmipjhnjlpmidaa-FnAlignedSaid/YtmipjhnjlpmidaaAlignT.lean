/- Sides that are aligned: the plain law. -/
import Derived.Test.YtmipjhnjlpmidaaSideFns
import Derived.Test.YtmipjhnjlpmidaaSideOne
namespace Go.Proofs.Ytmipjhnjlpmidaa
open Go.RowKit
set_option linter.unusedVariables false
set_option linter.unusedSimpArgs false

theorem crossTo_ge (L : List Rec) (base : Int) : ∀ n k : Nat, k < n → partOf base (rec_ L k) ≤ crossTo L base n := by
  intro n
  induction n with
  | zero => intro k hk; omega
  | succ n ih =>
    intro k hk
    rw [crossTo]
    rcases Nat.lt_succ_iff_lt_or_eq.1 hk with h | h
    · have := ih k h; omega
    · subst h; omega
theorem clamped_ge {n : Int} (h : clamped n < 1048576) : n ≤ clamped n := by
  unfold clamped brought at *
  repeat' split at h
  all_goals (repeat' split) <;> omega
theorem place_base {a b c g cross base : Int} (hs : sideOk a b c 5 g = true) (hb : -1048576 ≤ base ∧ base ≤ 2097152) : placeAcross a b c false false 5 g cross base = base - g := by
  rw [placeAcross, if_pos hs]
  simp [sideOk, inB] at hs
  simp
  unfold wrap64
  omega
theorem place_end {a b c g cross base : Int} (hs : sideOk a b c 3 g = true) (hc : 0 ≤ cross ∧ cross ≤ 1048576) : placeAcross a b c false false 3 g cross base = cross - a - c := by
  rw [placeAcross, if_pos hs]
  simp [sideOk, inB] at hs
  simp [acrossFree]
  unfold wrap64
  omega
/-- who stands in a line that is high enough -/
theorem line_holds {L : List Rec} (h12 : L.length ≤ 12) (hok : ∀ j, j < L.length → sideOkR (rec_ L j) = true) (hh : crossOf L < 1048576) {k : Nat} (hk : k < L.length) :
    if onR (rec_ L k) = true then baseOf L - (rec_ L k).s 6 + (rec_ L k).s 0 + (rec_ L k).s 2 ≤ crossOf L else (rec_ L k).s 0 + (rec_ L k).s 1 + (rec_ L k).s 2 ≤ crossOf L := by
  have e := crossOf_ok (by omega) (allR_true hok)
  rw [e] at hh ⊢
  have h1 := clamped_ge hh
  have h2 := crossTo_ge L (baseOf L) L.length k hk
  unfold partOf at h2
  split
  · rename_i h3
    rw [if_pos h3] at h2
    omega
  · rename_i h3
    rw [if_neg h3] at h2
    omega
theorem base_range {L : List Rec} (hok : ∀ j, j < L.length → sideOkR (rec_ L j) = true) : -1048576 ≤ baseOf L ∧ baseOf L ≤ 2097152 := base_bd L.length hok
end Go.Proofs.Ytmipjhnjlpmidaa
