/- Laws for a node laid in a block of its own; plain laws on valid trees. -/
import Derived.Test.YtkoljbndbomhdaaGreatDepth
import Derived.Test.YtkoljbndbomhdaaGreatStyleOk
namespace Go.Proofs.YtkoljbndbomhdaaGreat
open Go.RowKit Go.ChangeShapes Go.WideShapes
set_option linter.unusedVariables false
set_option linter.unusedSimpArgs false

theorem run_allocNode (w : World) : (Instr.alloc 79 true (.tuple #[])).run Tryz.prog w = .ok (.pointer (some ⟨w.heap.size, 0, none⟩)) (w.alloc (.cells znode.toArray 79)) := by
  obtain ⟨i0, hi, hz0, hz1, hz2⟩ := info_parts Tryz.info_node
  obtain ⟨zs, hzs⟩ : ∃ zs, znode.toArray = zs := ⟨_, rfl⟩
  rw [hzs] at hz0 ⊢
  simp [Instr.alloc, zeroValue, typeInfo, hi, hz0, newVar, newRow, Value.cells, Sem.run_bind]
theorem allocNode {w : World} {ops : Array Oper} {rest : List Oper} {op : Oper} {a : Act} {Q : Exit → Act → World → Prop} (hgd : op.guard = none) (ho : op.op = .alloc 79)
    (h : ∀ w', Hid (w' = w.alloc (.cells znode.toArray 79)) → wpList Tryz.prog ops Q rest (a.put op.dst (.pointer (some ⟨w.heap.size, 0, none⟩))) w') : wpList Tryz.prog ops Q (op :: rest) a w :=
  wpList_plain hgd fun _ hK => by
    unfold Oper.wp execOp
    simp only [ho, Sem.run_bind, Sem.run_pure, Result.andThen_ok, run_allocNode]
    exact hK _ _ (h _ (hid' rfl))
theorem storeNew {w : World} {ops : Array Oper} {rest : List Oper} {op : Oper} {a : Act} {Q : Exit → Act → World → Prop} (hgd : op.guard = none) (x y : Operand) (ho : op.op = .store 79 x y) (g : Nat) (hx : a.eval x = .pointer (some ⟨g, 0, none⟩)) (z : NodeD) (K R : Value)
    (hy : a.eval y = .agg (nodeL z K R).toArray) (hK : K.oneCell' = true) (hR : R.oneCell' = true) (ht : Hid (w.there g 0 64)) (h : ∀ w', Hid (w'.rangeAt g 0 (nodeL z K R) ∧ w.grownBy w' (some g)) → wpList Tryz.prog ops Q rest (a.put op.dst undef) w') : wpList Tryz.prog ops Q (op :: rest) a w :=
  storeNode hgd x y ho g 0 hx z K R hy hK hR ht (h _ (hid' ⟨World.rangeAt_setCells_same w g 0 (nodeL z K R) (by rw [nodeL_length]; exact ht.out), setCells_gb g (nodeL z K R) 0 w⟩))

theorem treeOk_no {T : List NodeD} {k : Nat} (hk : k < T.length) (h : nodeOk T k = false) : treeOk T = false := by
  unfold treeOk
  rw [Bool.and_eq_false_iff]
  right
  rw [List.all_eq_false]
  exact ⟨k, List.mem_range.2 hk, by rw [h]; decide⟩
theorem treeOk_many {T : List NodeD} (h : 12 < T.length) : treeOk T = false := by
  unfold treeOk
  rw [Bool.and_eq_false_iff]
  left
  simp; omega
theorem treeOk_yes {T : List NodeD} (h12 : T.length ≤ 12) (h : ∀ j, j < T.length → nodeOk T j = true) : treeOk T = true := by
  unfold treeOk
  rw [Bool.and_eq_true, List.all_eq_true]
  exact ⟨by simpa using h12, fun j hj => h j (List.mem_range.1 hj)⟩
theorem kids_yes {p : Int → Bool} {l : List Int} (h : ∀ q, q < l.length → p (at_ l q) = true) : l.all p = true := by
  rw [List.all_eq_true]
  intro z hz
  obtain ⟨q, hq, rfl⟩ := List.getElem_of_mem hz
  have := h q hq
  rwa [show at_ l q = l[q] by simp [at_, List.getD, List.getElem?_eq_getElem hq]] at this
theorem kids_no {p : Int → Bool} {l : List Int} {q : Nat} (hq : q < l.length) (h : p (at_ l q) = false) : l.all p = false := by
  rw [List.all_eq_false]
  exact ⟨_, at_mem hq, by rw [h]; decide⟩
def countTo (l : List Int) (n : Int) (q : Nat) : Nat := countI (l.take q) n
theorem countTo_succ {l : List Int} {q : Nat} (n : Int) (h : q < l.length) : countTo l n (q + 1) = countTo l n q + if at_ l q = n then 1 else 0 := by
  unfold countTo countI
  rw [List.take_add_one, at_eq h]
  simp only [Option.toList, List.countP_append, List.countP_cons, List.countP_nil, Nat.zero_add]
  congr 1
  by_cases e : at_ l q = n <;> simp [e]
theorem countTo_all (l : List Int) (n : Int) : countTo l n l.length = countI l n := by simp [countTo]
theorem countTo_le (l : List Int) (n : Int) (q : Nat) : countTo l n q ≤ l.length := by
  unfold countTo countI
  exact Nat.le_trans List.countP_le_length (by rw [List.length_take]; omega)
/-- who has a depth hangs on a node, or on none -/
theorem depth_up {T : List NodeD} {k : Nat} (hk : k < T.length) (h : depthOk T k = true) : (node_ T k).up = 0 ∨ isNodeB T (node_ T k).up = true := by
  unfold depthOk at h
  have hn : isNodeB T ((k : Int) + 1) = true := isNode_iff.2 (by omega)
  have e : depthOf T ((k : Int) + 1) = depthFrom T T.length (node_ T k).up 1 := by
    unfold depthOf
    rw [depth_next _ _ (by omega) hn, upOf_eq]
    rfl
  rw [e] at h
  by_cases h0 : (node_ T k).up = 0
  · exact .inl h0
  · right
    cases hq : isNodeB T (node_ T k).up
    · exfalso
      obtain ⟨f, hf⟩ : ∃ f, T.length = f + 1 := ⟨T.length - 1, by omega⟩
      rw [hf, depth_no _ _ h0 hq] at h
      simp [inB] at h
    · rfl
end Go.Proofs.YtkoljbndbomhdaaGreat
