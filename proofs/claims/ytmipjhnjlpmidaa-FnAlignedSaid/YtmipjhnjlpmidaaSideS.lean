/- Slices of Side: the law's own helpers. -/
import Derived.Test.YtmipjhnjlpmidaaRecs
import Derived.Test.YtmipjhnjlpmidaaSides
namespace Go.Proofs.Ytmipjhnjlpmidaa
open Go.RowKit Go.ChangeShapes Go.WideShapes
set_option linter.unusedVariables false
set_option linter.unusedSimpArgs false

def k_side : List Bool := [true, true, true, false, false, true, true]
theorem Try.info_side : (Try.prog.info? 51).map (fun i => (i.zero, i.size, i.bytes)) = some (some (sideV 0 0 0 false false 0 0), 7, 48) := by kernel_rfl


/-- the cells of the element at k -/
theorem side_cells {w : World} {b o k : Nat} {L : List Rec} (h : ∀ i', i' < L.length → ∀ j v, (rcells k_side (rec_ L i'))[j]? = some v → w.cell? ⟨b, o + i' * k_side.length + j, none⟩ = some v) (hk : k < L.length) :
    w.cell? ⟨b, o + k * 7, none⟩ = some (.int .i64 ((rec_ L k).s 0)) ∧ w.cell? ⟨b, o + k * 7 + 1, none⟩ = some (.int .i64 ((rec_ L k).s 1)) ∧ w.cell? ⟨b, o + k * 7 + 2, none⟩ = some (.int .i64 ((rec_ L k).s 2)) ∧ w.cell? ⟨b, o + k * 7 + 3, none⟩ = some (.bool ((rec_ L k).b 3)) ∧ w.cell? ⟨b, o + k * 7 + 4, none⟩ = some (.bool ((rec_ L k).b 4)) ∧ w.cell? ⟨b, o + k * 7 + 5, none⟩ = some (.int .i64 ((rec_ L k).s 5)) ∧ w.cell? ⟨b, o + k * 7 + 6, none⟩ = some (.int .i64 ((rec_ L k).s 6)) :=
  ⟨h k hk 0 _ rfl, h k hk 1 _ rfl, h k hk 2 _ rfl, h k hk 3 _ rfl, h k hk 4 _ rfl, h k hk 5 _ rfl, h k hk 6 _ rfl⟩
end Go.Proofs.Ytmipjhnjlpmidaa
