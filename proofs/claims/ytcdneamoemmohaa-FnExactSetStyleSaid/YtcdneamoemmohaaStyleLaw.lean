/- What the law over SetStyle takes. -/
import Derived.Test.YtcdneamoemmohaaJoin
namespace Go.Proofs.Ytcdneamoemmohaa
open Go.RowKit Go.ChangeShapes Go.WideShapes
set_option linter.unusedVariables false
theorem setSz_same {T : List NodeD} {j : Nat} (x' : NodeD) (hj : j < T.length) (hk : x'.kids.length = (node_ T j).kids.length) (hr : x'.rules.length = (node_ T j).rules.length) : treeSz (T.set j x') = treeSz T := by
  have h1 : ∀ {T : List NodeD} {j : Nat}, j < T.length → nodeSz x' = nodeSz (node_ T j) → ((T.set j x').map nodeSz).sum = (T.map nodeSz).sum := fun {T} => by
    induction T with
    | nil => intro j h; simp at h
    | cons y T ih =>
      intro j h he
      cases j with
      | zero => simp [node_] at he; simp [he]
      | succ j => simp only [List.set_cons_succ, List.map_cons, List.sum_cons]; rw [ih (by simpa using h) (by rw [he]; simp [node_])]
  unfold treeSz
  rw [h1 hj (by unfold nodeSz; rw [hk, hr]), List.length_set]
theorem setStyleT_sz {T : List NodeD} {n : Int} {s : Rec} (h : treeSz T ≤ 1048576) : treeSz (setStyleT T n s).1 ≤ 1048576 := by
  unfold setStyleT
  split
  · rename_i hh
    split
    · obtain ⟨j, rfl, hj⟩ := isNode_split hh.2
      rw [show ((j : Int) + 1 - 1).toNat = j by omega, nd_eq]
      show treeSz (T.set j { node_ T j with style := s }) ≤ 1048576
      rw [setSz_same { node_ T j with style := s } hj rfl rfl]
      exact h
    · exact h
  · exact h
end Go.Proofs.Ytcdneamoemmohaa
