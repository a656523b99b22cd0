/- AcrossOk, both texts. -/
import Derived.Test.YtfmijkedhlnccaaInts
namespace Go.Proofs.Ytfmijkedhlnccaa
open Go.RowKit
set_option linter.unusedVariables false
set_option linter.unusedSimpArgs false

def allIn (zs : List Int) (a b : Int) : Bool := zs.all fun z => inB z a b
def acrossOk (zs : List Int) (gap inner : Int) : Bool := allIn zs 0 1048576 && decide (zs.length ≤ 12) && inB gap 0 1048576 && inB inner 0 1048576

theorem allIn_true {zs : List Int} {a b : Int} (h : ∀ j, j < zs.length → inB (at_ zs j) a b = true) : allIn zs a b = true := by
  unfold allIn
  rw [List.all_eq_true]
  intro z hz
  obtain ⟨i, hi, rfl⟩ := List.getElem_of_mem hz
  have := h i hi
  rw [show at_ zs i = zs[i] by simp [at_, List.getD, List.getElem?_eq_getElem hi]] at this
  exact this
theorem allIn_false {zs : List Int} {a b : Int} {k : Nat} (hk : k < zs.length) (h : inB (at_ zs k) a b = false) : allIn zs a b = false := by
  unfold allIn
  rw [List.all_eq_false]
  exact ⟨_, at_mem hk, by rw [h]; decide⟩
theorem allIn_at {zs : List Int} {a b : Int} (h : allIn zs a b = true) {k : Nat} (hk : k < zs.length) : inB (at_ zs k) a b = true := by
  unfold allIn at h
  rw [List.all_eq_true] at h
  exact h _ (at_mem hk)

end Go.Proofs.Ytfmijkedhlnccaa
