/- Evenly, LeadOf, TotalOf, CrossTotal, betweenOf: both texts return the same numbers. -/
import Derived.Test.YtcdneamoemmohaaShares
namespace Go.Proofs.Ytcdneamoemmohaa
open Go.RowKit
set_option linter.unusedVariables false
set_option linter.unusedSimpArgs false

theorem ones_length (k : Nat) : (ones k).length = k := by simp [ones]
theorem ones_succ (k : Nat) : ones (k + 1) = ones k ++ [1] := by simp [ones, List.replicate_succ']
theorem evenly_in {n many : Int} (h : inB many 0 64 = true) : evenly n many = shares n (ones many.toNat) := by
  rw [evenly, if_pos (inB_iff.1 h)]
theorem evenly_out {n many : Int} (h : inB many 0 64 = false) : evenly n many = [] := by
  rw [evenly, if_neg (inB_not.1 h)]
theorem weights_ones {k : Nat} (h : k ≤ 64) : weightsOk (ones k) = true := by
  simp only [weightsOk, Bool.and_eq_true, decide_eq_true_eq, ones_length]
  refine ⟨allIn_true fun j hj => ?_, h⟩
  rw [ones_length] at hj
  simp [at_, ones, List.getD, hj, inB]
theorem evenly_length {n many : Int} (h : inB many 0 64 = true) : (evenly n many).length = many.toNat := by
  have := inB_iff.1 h
  rw [evenly_in h, shares, if_pos (weights_ones (by omega)), sharesTo_length, ones_length]

def elementOf (l : List Int) (i : Int) : Int := if i < 0 ∨ (l.length : Int) ≤ i then 0 else at_ l i.toNat


/-! ### LeadOf -/
def leadOf (free many justify : Int) : Int :=
  if inB many 1 12 then
    if justify = 2 then free
    else if justify = 3 then floorDiv free 2
    else if justify = 5 then (if free < 0 then floorDiv free 2 else at_ (evenly free (2 * many)) 0)
    else if justify = 6 then (if free < 0 then floorDiv free 2 else at_ (evenly free (many + 1)) 0)
    else 0
  else 0



/-! ### totals -/
def totalTo (zs : List Int) : Nat → Int
  | 0 => 0
  | k + 1 => totalTo zs k + signed (at_ zs k)
theorem totalTo_bd (zs : List Int) : ∀ k : Nat, -1048576 * (k : Int) ≤ totalTo zs k ∧ totalTo zs k ≤ 1048576 * (k : Int) := by
  intro k
  induction k with
  | zero => simp [totalTo]
  | succ k ih =>
    have := signed_bd (at_ zs k)
    simp only [totalTo]
    omega
def crossTotal (zs : List Int) (gap : Int) : Int := if zs.length = 0 then 0 else wrap64 (totalTo zs zs.length + wrap64 (gap * ((zs.length : Int) - 1)))

end Go.Proofs.Ytcdneamoemmohaa
