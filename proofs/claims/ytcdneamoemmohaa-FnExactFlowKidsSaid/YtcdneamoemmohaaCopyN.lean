/- Laws for copying nodes: a slice of one node laid, a node's own block as a row, one of its cells stored. -/
import Derived.Test.YtcdneamoemmohaaCopyT
namespace Go.Proofs.Ytcdneamoemmohaa
open Go.RowKit Go.ChangeShapes Go.WideShapes
set_option linter.unusedVariables false
set_option linter.unusedSimpArgs false

theorem fold_set : ∀ (l : List Value) (k : Nat) (cs : Array Value), ((l.zipIdx k).foldl (fun (cs : Array Value) (p : Value × Nat) => cs.setIfInBounds p.2 p.1) cs).size = cs.size ∧
    ∀ i, ((l.zipIdx k).foldl (fun (cs : Array Value) (p : Value × Nat) => cs.setIfInBounds p.2 p.1) cs)[i]? = if k ≤ i ∧ i < k + l.length ∧ i < cs.size then l[i - k]? else cs[i]?
  | [], k, cs => by
    refine ⟨rfl, fun i => ?_⟩
    rw [if_neg (by simp; omega)]
    rfl
  | v :: l, k, cs => by
    obtain ⟨h1, h2⟩ := fold_set l (k + 1) (cs.setIfInBounds k v)
    simp only [List.zipIdx_cons, List.foldl_cons]
    refine ⟨by rw [h1]; simp, fun i => ?_⟩
    rw [h2]
    simp only [Array.size_setIfInBounds, List.length_cons]
    by_cases hi : k = i
    · subst hi
      rw [if_neg (by omega)]
      by_cases hs : k < cs.size
      · rw [if_pos ⟨Nat.le_refl _, by omega, hs⟩]
        simp [hs]
      · rw [if_neg (by omega)]
        simp [hs]
    · by_cases hc : k + 1 ≤ i ∧ i < k + 1 + l.length ∧ i < cs.size
      · rw [if_pos hc, if_pos (by omega), show i - k = (i - (k + 1)) + 1 by omega, List.getElem?_cons_succ]
      · rw [if_neg hc, if_neg (by omega), Array.getElem?_setIfInBounds, if_neg hi]
theorem fill_one (L : List Value) (cells : Array Value) (n : Nat) (hL : L.length = n) (hc : cells.size = n) : Instr.fill (fun i => some (i * n, n)) cells [(0, .agg L.toArray)] = some L.toArray := by
  have hz : (Value.agg L.toArray).cells.size = n := by simpa [Value.cells] using hL
  have h0 : ¬ ((Value.agg L.toArray).cells.size ≠ n ∨ cells.size < 0 * n + (Value.agg L.toArray).cells.size) := by rw [hz, hc]; omega
  have e : ((Value.agg L.toArray).cells.zipIdx.foldl (fun cs (p : Value × Nat) => cs.setIfInBounds (0 * n + p.2) p.1) cells) = L.toArray := by
    have e1 : (Value.agg L.toArray).cells.zipIdx.foldl (fun cs (p : Value × Nat) => cs.setIfInBounds (0 * n + p.2) p.1) cells = (L.zipIdx 0).foldl (fun (cs : Array Value) (p : Value × Nat) => cs.setIfInBounds p.2 p.1) cells := by
      simp [Value.cells]
    rw [e1]
    obtain ⟨h1, h2⟩ := fold_set L 0 cells
    apply Array.ext_getElem?
    intro i
    rw [h2]
    by_cases hi : i < n
    · rw [if_pos (by omega), Nat.sub_zero]; simp
    · rw [if_neg (by omega), Array.getElem?_eq_none (by omega)]
      simp; omega
  unfold Instr.fill
  simp only [Bool.or_eq_true, decide_eq_true_eq, if_neg h0]
  unfold Instr.fill
  exact congrArg some e
theorem run_buildNode (w : World) (L : List Value) (hL : L.length = 64) : (Instr.buildSlice 28 1 #[(0, .agg L.toArray)]).run Try.prog w = .ok (.slice (some ⟨w.heap.size, 0, none⟩) 1 1) (w.alloc (.cells L.toArray 77)) := by
  obtain ⟨i0, hi, hz0, hz1, hz2⟩ := info_parts Try.info_node
  obtain ⟨zs, hzs⟩ : ∃ zs, znode.toArray = zs := ⟨_, rfl⟩
  have hzl : zs.size = 64 := by rw [← hzs]; rfl
  rw [hzs] at hz0
  have hf := fill_one L ((Array.range (1 * 64)).map (zs[· % zs.size]!)) 64 hL (by simp)
  simp at hf
  simp [Instr.buildSlice, Sem.run_bind, run_underlying Try.underlying28 w, sizeOf, typeInfo, zeroValue, hi, hz0, hz1, Value.cells, hf, newRow]
theorem buildNode {w : World} {ops : Array Oper} {rest : List Oper} {op : Oper} {a : Act} {Q : Exit → Act → World → Prop} (hgd : op.guard = none) (x : Operand) (ho : op.op = .buildSlice 28 1 #[(0, x)]) (L : List Value) (hL : L.length = 64) (hx : a.eval x = .agg L.toArray)
    (h : ∀ w', Hid (w' = w.alloc (.cells L.toArray 77)) → wpList Try.prog ops Q rest (a.put op.dst (.slice (some ⟨w.heap.size, 0, none⟩) 1 1)) w') : wpList Try.prog ops Q (op :: rest) a w :=
  wpList_plain hgd fun _ hK => by
    unfold Oper.wp execOp
    simp only [ho, List.map_toArray, List.map_cons, List.map_nil, hx, Sem.run_bind, Sem.run_pure, Result.andThen_ok, run_buildNode w L hL]
    exact hK _ _ (h _ (hid' rfl))
/-- a node's own block as a row -/
def xrow (g : Nat) (L : List Value) : Row := ⟨77, 64, .slice (some ⟨g, 0, none⟩) 1 1, 1, L⟩
theorem setRun_all : ∀ (vs xs : List Value), vs.length = xs.length → setRun xs 0 vs = vs := fun vs xs h => by
  have := setRun_take vs xs 0 (by omega)
  rw [Nat.zero_add, List.take_zero, List.nil_append] at this
  have hl : ∀ (vs xs : List Value) (p : Nat), (setRun xs p vs).length = xs.length := fun vs => by
    induction vs with
    | nil => intro xs p; rfl
    | cons v vs ih => intro xs p; unfold setRun; rw [ih]; simp
  rwa [List.take_of_length_le (by rw [hl]; omega)] at this
/-- a node stored in the block that was laid just ahead of it -/
theorem storeRow {w w1 : World} {ops : Array Oper} {rest : List Oper} {op : Oper} {a : Act} {Q : Exit → Act → World → Prop} (hgd : op.guard = none) (x y : Operand) (ho : op.op = .store 77 x y) (hA : Hid (w1 = w.alloc (.cells znode.toArray 77))) (hx : a.eval x = .pointer (some ⟨w.heap.size, 0, none⟩)) (L : List Value)
    (hy : a.eval y = .agg L.toArray) (hL : L.length = 64) (h1 : ∀ u ∈ L, u.oneCell' = true) (h : ∀ w', Hid ((xrow w.heap.size L).own w' w.heap.size ∧ Bel w w') → wpList Try.prog ops Q rest (a.put op.dst undef) w') : wpList Try.prog ops Q (op :: rest) a w1 := by
  have ho0 : w1.ownsRow w.heap.size 77 64 (.slice (some ⟨w.heap.size, 0, none⟩) 1 1) 1 znode.toArray.toList := by rw [hA.out]; exact World.ownsRow_lit w znode.toArray 1 (Nat.le_refl _) (by unfold maxLen; omega) rfl
  have ht : w1.there w.heap.size 0 64 := own_there (o := 0) (m := 64) ho0 (by omega)
  have hb : Bel w w1 := by rw [hA.out]; exact (Bel.refl w).alloc _
  refine wpList_store_any hgd 77 x y ho w.heap.size 0 (.agg L.toArray) hx hy (by simpa [Value.cells, hL] using ht) (by simp only [Value.cells, List.size_toArray, hL]; kernel_rfl) (by simpa [Value.cells] using h1) (h _ (hid' ⟨?_, ?_⟩))
  · have := own_run L 0 _ w1 ho0
    rw [setRun_all L _ (by rw [hL]; rfl)] at this
    simpa [Value.cells, xrow, Row.own] using this
  · simpa [Value.cells] using hb.grown (setCells_gb w.heap.size L 0 w1) (fun q e => by injection e with e; omega)
/-- one cell of a node's own block stored -/
theorem storeOne {w : World} {ops : Array Oper} {rest : List Oper} {op : Oper} {a : Act} {Q : Exit → Act → World → Prop} (hgd : op.guard = none) (ty : TypeId) (x y : Operand) (ho : op.op = .store ty x y) {base g i : Nat} {L : List Value} (H : (xrow g L).own w base) (hi : i < 64) (hx : a.eval x = .pointer (some ⟨g, i, none⟩)) (v u : Value)
    (hy : a.eval y = v) (hv : v.cells = #[u]) (hty : (Try.prog.info? ty).map (·.size) = some 1) (h1 : u.oneCell' = true)
    (h : ∀ w', Hid ((xrow g (L.set i u)).own w' base ∧ w.grownBy w' (some g)) → wpList Try.prog ops Q rest (a.put op.dst undef) w') : wpList Try.prog ops Q (op :: rest) a w := by
  have H0 : w.ownsRow base 77 64 (.slice (some ⟨g, 0, none⟩) 1 1) 1 L := H
  have ht : w.there g i 1 := own_there (o := i) (m := 1) H0 (by omega)
  have hs := World.ownsRow.stored H i u
  refine wpList_store_any hgd ty x y ho g i v hx hy (by rw [hv]; exact ht) (by rw [hv]; exact hty) (by rw [hv]; intro q hq; simp at hq; subst hq; exact h1) (h _ (hid' ?_))
  rw [hv]
  exact hs
/-- one cell of a node's own block -/
theorem xrow_cell {w : World} {base g i : Nat} {L : List Value} {v : Value} (H : (xrow g L).own w base) (hv : L[i]? = some v) (hi : i < 64) : w.cell? ⟨g, i, none⟩ = some v := by
  have h0 : w.ownsRow base 77 64 (.slice (some ⟨g, 0, none⟩) 1 1) 1 L := H
  rw [h0.cellAt i (by omega)]
  exact hv
theorem xrow_range {w : World} {base g : Nat} {L : List Value} (H : (xrow g L).own w base) (hL : L.length = 64) : w.rangeAt g 0 L := fun i v hv => by
  have := lt_of_get hv
  rw [Nat.zero_add]
  exact xrow_cell H hv (by omega)
theorem nodeL_set1 (x : NodeD) (K R v : Value) : (nodeL x K R).set 1 v = nodeL x v R := rfl
theorem nodeL_set63 (x : NodeD) (K R v : Value) : (nodeL x K R).set 63 v = nodeL x K v := by
  unfold nodeL
  rw [List.set_cons_succ, List.set_cons_succ, List.set_append_right _ _ (by rw [styleL_length]; decide), styleL_length]
  rfl
end Go.Proofs.Ytcdneamoemmohaa
