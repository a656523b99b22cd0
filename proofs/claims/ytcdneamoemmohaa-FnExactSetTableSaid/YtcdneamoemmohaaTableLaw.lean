/- What the law over SetTable takes. -/
import Derived.Test.YtcdneamoemmohaaJoin
import Derived.Test.YtcdneamoemmohaaSetTableF
namespace Go.Proofs.Ytcdneamoemmohaa
open Go.RowKit Go.ChangeShapes Go.WideShapes
set_option linter.unusedVariables false
def boxG (b : Nat) (v : Value) : List Row := [⟨45, 1, .slice (some ⟨b, 0, none⟩) 1 1, 1, [v]⟩]
theorem boxG_new (w : World) (v : Value) : Fam (w.alloc (.cells #[v] 45)) w.heap.size (boxG w.heap.size v) :=
  Fam.one (r := ⟨45, 1, .slice (some ⟨w.heap.size, 0, none⟩) 1 1, 1, [v]⟩) (World.ownsRow_lit (e := 45) (size := 1) w #[v] 1 (Nat.le_refl _) (by unfold maxLen; omega) rfl)
theorem boxG_cell {w : World} {base b : Nat} {v : Value} {R : List Row} (h : Fam w base (boxG b v ++ R)) : w.cell? ⟨b, 0, none⟩ = some v := by
  have h0 : w.ownsRow base 45 1 (.slice (some ⟨b, 0, none⟩) 1 1) 1 [v] := h.1 ⟨45, 1, .slice (some ⟨b, 0, none⟩) 1 1, 1, [v]⟩ (by simp [boxG])
  rw [h0.cellAt 0 (by omega)]
  rfl
theorem setTableT_sz {T : List NodeD} {n : Int} {R : List Rec} (h : treeSz T ≤ 1048576) : treeSz (setTableT T n R).1 ≤ 1048576 := by
  unfold setTableT
  split
  · rename_i hh
    split
    · exact h
    · rename_i hne
      obtain ⟨j, rfl, hj⟩ := isNode_split hh.2
      rw [show ((j : Int) + 1 - 1).toNat = j by omega]
      have h12 := treeOk_len hh.1
      have hR : R.length ≤ 6 := by
        by_cases h0 : 0 < R.length
        · cases ht : tableOk R
          · exact absurd ⟨h0, .inl ht⟩ hne
          · unfold tableOk inB at ht
            simp only [Bool.and_eq_true, decide_eq_true_eq] at ht
            omega
        · omega
      have := small_sz (T := setTT T j R) (by rw [setTT_length]; omega) (fun i hi => by
        rw [setTT_length] at hi
        have h1 := treeOk_small hh.1
        unfold setTT
        simp only
        rw [node_set _ (by rw [List.length_set]; exact hj)]
        split
        · refine ⟨?_, ?_⟩
          · show (node_ (T.set j _) j).kids.length ≤ 13
            rw [node_set _ hj, if_pos rfl]
            have := (h1 j hj).1
            show (node_ T j).kids.length ≤ 13
            omega
          · exact hR
        · rename_i hij
          rw [node_set _ hj, if_neg hij]
          have := h1 i hi
          omega)
      show treeSz (setTT T j R) ≤ 1048576
      omega
  · exact h
end Go.Proofs.Ytcdneamoemmohaa
