/- What the laws over functions that answer a tree take. -/
import Derived.Test.YtcdneamoemmohaaRemKid
import Derived.Test.YtcdneamoemmohaaHeld
namespace Go.Proofs.Ytcdneamoemmohaa
open Go.RowKit Go.ChangeShapes Go.WideShapes
set_option linter.unusedVariables false
set_option linter.unusedSimpArgs false

theorem treeF_nodesA {w : World} {base n c : Nat} {A : Option Addr} {T : List NodeD} {KS RS : List Value} {R : List Row} (h1 : KS.length = T.length) (h2 : RS.length = T.length) (h : Fam w base (treeF (.slice A n c) T KS RS ++ R)) : Nodes w A T := by
  obtain ⟨A', c', e, -, -, -, h3⟩ := (show TreeAt w base (.slice A n c) T from ⟨KS, RS, h1, h2, h.left⟩).nodes
  cases e
  exact h3
theorem treeF_nodesC {w : World} {base g n c : Nat} {T : List NodeD} {KS RS : List Value} {R : List Row} (h1 : KS.length = T.length) (h2 : RS.length = T.length) (h : Fam w base (treeF (.slice (some ⟨g, 0, none⟩) n c) T KS RS ++ R)) : NodesC w (some ⟨g, 0, none⟩) T :=
  (show TreeAt w base (.slice (some ⟨g, 0, none⟩) n c) T from ⟨KS, RS, h1, h2, h.left⟩).nodesC
def boxF (b : Nat) (v : Value) : List Row := [⟨30, 1, .slice (some ⟨b, 0, none⟩) 1 1, 1, [v]⟩]
theorem boxF_new (w : World) (v : Value) : Fam (w.alloc (.cells #[v] 30)) w.heap.size (boxF w.heap.size v) :=
  Fam.one (r := ⟨30, 1, .slice (some ⟨w.heap.size, 0, none⟩) 1 1, 1, [v]⟩) (World.ownsRow_lit (e := 30) (size := 1) w #[v] 1 (Nat.le_refl _) (by unfold maxLen; omega) rfl)
theorem boxF_cell {w : World} {base b : Nat} {v : Value} {R : List Row} (h : Fam w base (boxF b v ++ R)) : w.cell? ⟨b, 0, none⟩ = some v := by
  have h0 : w.ownsRow base 30 1 (.slice (some ⟨b, 0, none⟩) 1 1) 1 [v] := h.1 ⟨30, 1, .slice (some ⟨b, 0, none⟩) 1 1, 1, [v]⟩ (by simp [boxF])
  rw [h0.cellAt 0 (by omega)]
  rfl
theorem Fam.f5 {w : World} {base : Nat} {A B C D E G H : List Row} (h : Fam w base (A ++ (B ++ (C ++ (D ++ (E ++ (G ++ H))))))) : Fam w base (G ++ (A ++ (B ++ (C ++ (D ++ (E ++ H)))))) :=
  (h.perm (by simpa [List.append_assoc] using List.perm_append_comm_assoc (A ++ (B ++ (C ++ (D ++ E)))) G H))
theorem Fam.f6 {w : World} {base : Nat} {A B C D E G H I : List Row} (h : Fam w base (A ++ (B ++ (C ++ (D ++ (E ++ (G ++ (H ++ I)))))))) : Fam w base (H ++ (A ++ (B ++ (C ++ (D ++ (E ++ (G ++ I))))))) :=
  (h.perm (by simpa [List.append_assoc] using List.perm_append_comm_assoc (A ++ (B ++ (C ++ (D ++ (E ++ G))))) H I))
theorem Fam.f7 {w : World} {base : Nat} {A B C D E G H I J : List Row} (h : Fam w base (A ++ (B ++ (C ++ (D ++ (E ++ (G ++ (H ++ (I ++ J))))))))) : Fam w base (I ++ (A ++ (B ++ (C ++ (D ++ (E ++ (G ++ (H ++ J)))))))) :=
  (h.perm (by simpa [List.append_assoc] using List.perm_append_comm_assoc (A ++ (B ++ (C ++ (D ++ (E ++ (G ++ H)))))) I J))
theorem remT_sz {T : List NodeD} (h : treeOk T = true) {j k : Nat} (hj : j < T.length) (hk : k < T.length) : treeSz (remT T j k) ≤ 300 := by
  have h12 := treeOk_len h
  refine small_sz (by rw [remT_length]; omega) fun i hi => ?_
  rw [remT_length] at hi
  have hT1 : ∀ i, i < T.length → (node_ (T.set j { node_ T j with kids := remTo (node_ T j).kids ((k : Int) + 1) (node_ T j).kids.length }) i).kids.length ≤ 12 ∧ (node_ (T.set j { node_ T j with kids := remTo (node_ T j).kids ((k : Int) + 1) (node_ T j).kids.length }) i).rules.length ≤ 6 := fun i hi => by
    rw [node_set _ hj]
    split
    · have h1 := remTo_len (node_ T j).kids ((k : Int) + 1) (node_ T j).kids.length
      have h2 := treeOk_small h j hj
      exact ⟨by show (remTo _ _ _).length ≤ 12; omega, h2.2⟩
    · exact treeOk_small h i hi
  unfold remT
  simp only
  rw [node_set _ (by rw [List.length_set]; exact hk)]
  split
  · have := hT1 k hk
    exact ⟨Nat.le_trans this.1 (by decide), this.2⟩
  · have := hT1 i hi
    exact ⟨Nat.le_trans this.1 (by decide), this.2⟩
theorem removeKidT_sz {T : List NodeD} {n kid : Int} (h : treeSz T ≤ 1048576) : treeSz (removeKidT T n kid).1 ≤ 1048576 := by
  unfold removeKidT
  split
  · rename_i hh
    split
    · obtain ⟨j, rfl, hj⟩ := isNode_split hh.2.1
      obtain ⟨k, rfl, hk⟩ := isNode_split hh.2.2
      have := remT_sz hh.1 hj hk
      rw [show ((j : Int) + 1 - 1).toNat = j by omega, show ((k : Int) + 1 - 1).toNat = k by omega]
      show treeSz (remT T j k) ≤ 1048576
      omega
    · exact h
  · exact h
end Go.Proofs.Ytcdneamoemmohaa
