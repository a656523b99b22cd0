/- Trees as families of rows. -/
import Derived.Test.YtcdneamoemmohaaFamT
import Derived.Test.YtcdneamoemmohaaMarkTree
import Derived.Test.YtcdneamoemmohaaGone
namespace Go.Proofs.Ytcdneamoemmohaa
open Go.RowKit Go.ChangeShapes Go.WideShapes
set_option linter.unusedVariables false
set_option linter.unusedSimpArgs false

theorem TreeAt.nodes1 {w : World} {base g n : Nat} {T : List NodeD} (h : TreeAt w base (.slice (some ⟨g, 0, none⟩) n n) T) : Nodes w (some ⟨g, 0, none⟩) T := by
  obtain ⟨A, c, e, -, -, -, h1⟩ := h.nodes
  cases e
  exact h1
theorem treeF_nodes {w : World} {base g n c : Nat} {T : List NodeD} {KS RS : List Value} {R : List Row} (h1 : KS.length = T.length) (h2 : RS.length = T.length) (h : Fam w base (treeF (.slice (some ⟨g, 0, none⟩) n c) T KS RS ++ R)) : Nodes w (some ⟨g, 0, none⟩) T := by
  obtain ⟨A, c, e, -, -, -, h1⟩ := (show TreeAt w base (.slice (some ⟨g, 0, none⟩) n c) T from ⟨KS, RS, h1, h2, h.left⟩).nodes
  cases e
  exact h1
theorem kr_of {T : List NodeD} (h : treeSz T ≤ 1048576) : ∀ j, j < T.length → (node_ T j).kids.length ≤ 1048576 ∧ (node_ T j).rules.length ≤ 1048576 := fun j hj => by
  have h1 := nodeSz_le hj
  unfold nodeSz at h1
  exact ⟨by omega, by omega⟩
theorem len_of {T : List NodeD} (h : treeSz T ≤ 1048576) : T.length ≤ 1048576 := by unfold treeSz at h; omega
end Go.Proofs.Ytcdneamoemmohaa
