/- What the law over AddNode takes. -/
import Derived.Test.YtcdneamoemmohaaJoin
import Derived.Test.YtcdneamoemmohaaAddNodeF
namespace Go.Proofs.Ytcdneamoemmohaa
open Go.RowKit Go.ChangeShapes Go.WideShapes
set_option linter.unusedVariables false
theorem addNodeT_sz {T : List NodeD} {s : Rec} (h : treeSz T ≤ 1048576) : treeSz (addNodeT T s).1 ≤ 1048576 := by
  unfold addNodeT
  split
  · rename_i hh
    have h12 := treeOk_len hh.1
    have := small_sz (T := T ++ [newNode s]) (by simp; omega) (fun j hj => by
      simp at hj
      by_cases e : j < T.length
      · have h1 := treeOk_small hh.1 j e
        have h2 : node_ (T ++ [newNode s]) j = node_ T j := by simp [node_, List.getD, List.getElem?_append_left e]
        rw [h2]
        omega
      · obtain rfl : j = T.length := by omega
        have h2 : node_ (T ++ [newNode s]) T.length = newNode s := by simp [node_, List.getD]
        rw [h2]
        exact ⟨Nat.zero_le _, Nat.zero_le _⟩)
    show treeSz (T ++ [newNode s]) ≤ 1048576
    omega
  · exact h
end Go.Proofs.Ytcdneamoemmohaa
