/- ApartKids: the wrapper and the reference's text. -/
import Derived.Test.YtkoljbndbomhdaaGreatApart
namespace Go.Proofs.YtkoljbndbomhdaaGreat
open Go.RowKit Go.ChangeShapes Go.WideShapes
set_option linter.unusedVariables false
set_option linter.unusedSimpArgs false

/-- the style's box where it is laid behind the call -/
theorem boxA {w w7 : World} {r : Rec} (hb : Bel w w7) : StyleBox w ((w7.alloc (.cells zstyle.toArray 47)).setCells w7.heap.size 0 (styleL r)) w7.heap.size r :=
  StyleBox.put (hb.alloc _) (there_allocS w7) hb.sz (by simp)
/-- and where it is laid ahead of it -/
theorem boxB {w w7 : World} {r : Rec} (hb : Bel (w.alloc (.cells zstyle.toArray 47)).drew w7) : StyleBox w (w7.setCells w.heap.size 0 (styleL r)) w.heap.size r ∧ w7.there w.heap.size 0 60 := by
  have hb' := ((Bel.refl (w.alloc (.cells zstyle.toArray 47))).drew).trans hb
  have ht := there_keep (there_allocS w) hb' (by simp)
  exact ⟨StyleBox.put (((Bel.refl w).alloc _).trans hb') ht (Nat.le_refl _) (by have := hb'.sz; simp at this; omega), ht⟩
theorem run_storeS {w : World} {g : Nat} (r : Rec) (ht : w.there g 0 60) : (storeCells ⟨g, 0, none⟩ (styleL r)).run Tryz.prog w = .ok () (w.setCells g 0 (styleL r)) := by
  have := run_storeCells_cells (P := Tryz.prog) g 0 (styleL r) 0 w (fun j hj => (ht j (by rw [styleL_length] at hj; omega)).1) (fun j hj => (ht j (by rw [styleL_length] at hj; omega)).2) (rcells_one _ _)
  simpa using this
end Go.Proofs.YtkoljbndbomhdaaGreat
