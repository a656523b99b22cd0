/- ApartKids, both sides. -/
import Derived.Test.YtkoljbndbomhdaaGreatUnder
import Derived.Deep.RegionHeld3
namespace Go.Proofs.YtkoljbndbomhdaaGreat
open Go.RowKit Go.ChangeShapes Go.WideShapes
set_option linter.unusedVariables false
set_option linter.unusedSimpArgs false

def isApart (T : List NodeD) (k : Int) : Bool := !(nd T k).style.b 7 && (nd T k).style.b 6
def apartTo (T : List NodeD) (j q : Nat) : List Int := ((node_ T j).kids.take q).filter (isApart T)
def apartKids (T : List NodeD) (n : Int) : List Int := if treeOk T = true ∧ isNodeB T n = true then (nd T n).kids.filter (isApart T) else []
theorem apartTo_yes {T : List NodeD} {j q : Nat} (hq : q < (node_ T j).kids.length) (h : isApart T (at_ (node_ T j).kids q) = true) : apartTo T j (q + 1) = apartTo T j q ++ [at_ (node_ T j).kids q] := by
  unfold apartTo
  rw [List.take_add_one, at_eq hq, List.filter_append]
  simp [h]
theorem apartTo_no {T : List NodeD} {j q : Nat} (hq : q < (node_ T j).kids.length) (h : isApart T (at_ (node_ T j).kids q) = false) : apartTo T j (q + 1) = apartTo T j q := by
  unfold apartTo
  rw [List.take_add_one, at_eq hq, List.filter_append]
  simp [h]
theorem apartTo_all {T : List NodeD} {j : Nat} (h : treeOk T = true) (hj : j < T.length) : apartKids T ((j : Int) + 1) = apartTo T j (node_ T j).kids.length := by
  unfold apartKids apartTo
  rw [if_pos ⟨h, isNode_iff.2 (by omega)⟩, nd_eq, List.take_length]
theorem apartTo_len (T : List NodeD) (j q : Nat) : (apartTo T j q).length ≤ (node_ T j).kids.length := by
  unfold apartTo
  refine Nat.le_trans (List.length_filter_le _ _) ?_
  rw [List.length_take]
  omega
theorem apartKids_len (T : List NodeD) (n : Int) : (apartKids T n).length ≤ 1048576 := by
  by_cases h : treeOk T = true ∧ isNodeB T n = true
  · obtain ⟨j, rfl, hj⟩ := isNode_split h.2
    rw [apartTo_all h.1 hj]
    have h1 := apartTo_len T j (node_ T j).kids.length
    have h2 := kids_few h.1 hj
    omega
  · unfold apartKids; rw [if_neg h]; simp

/-! ### a style in a block of its own -/
theorem run_allocStyle (w : World) : (Instr.alloc 47 true (.tuple #[])).run Tryz.prog w = .ok (.pointer (some ⟨w.heap.size, 0, none⟩)) (w.alloc (.cells zstyle.toArray 47)) := by
  obtain ⟨i0, hi, hz0, hz1, hz2⟩ := info_parts (show (Tryz.prog.info? 47).map (fun i => (i.zero, i.size, i.bytes)) = some (some (.agg zstyle.toArray), 60, 472) by kernel_rfl)
  obtain ⟨zs, hzs⟩ : ∃ zs, zstyle.toArray = zs := ⟨_, rfl⟩
  rw [hzs] at hz0 ⊢
  simp [Instr.alloc, zeroValue, typeInfo, hi, hz0, newVar, newRow, Value.cells, Sem.run_bind]
theorem zstyle_size : zstyle.toArray.size = 60 := rfl
theorem step_allocStyle {w : World} {op : Oper} {a : Act} {K : Act → World → Prop} {Q : Exit → Act → World → Prop} (ho : op.op = .alloc 47)
    (h : K (a.put op.dst (.pointer (some ⟨w.heap.size, 0, none⟩))) (w.alloc (.cells zstyle.toArray 47))) : op.wp Tryz.prog a w K Q := by
  unfold Oper.wp execOp
  simp only [ho, Sem.run_bind, Sem.run_pure, Result.andThen_ok, run_allocStyle]
  exact h
theorem step_storeStyle {w : World} {op : Oper} {a : Act} {K : Act → World → Prop} {Q : Exit → Act → World → Prop} (x y : Operand) (ho : op.op = .store 47 x y) (g : Nat) (hx : a.eval x = .pointer (some ⟨g, 0, none⟩)) (r : Rec)
    (hy : a.eval y = styleV r) (ht : w.there g 0 60) (h : K (a.put op.dst undef) (w.setCells g 0 (styleL r))) : op.wp Tryz.prog a w K Q :=
  wp_store_mid 47 x y ho g 0 (styleL r).toArray hx hy (by simpa [styleL_length] using ht) (by rw [List.size_toArray, styleL_length]; kernel_rfl) (all_oneCell_toArray (rcells_one _ _)) h
/-- the style r lies in block g of u, and u is w with new blocks -/
structure StyleBox (w u : World) (g : Nat) (r : Rec) : Prop where
  bel : Bel w u
  rng : u.rangeAt g 0 (styleL r)
  lo : w.heap.size ≤ g
  hi : g < u.heap.size
theorem StyleBox.put {w w1 : World} {g : Nat} {r : Rec} (hb : Bel w w1) (ht : w1.there g 0 60) (hg : w.heap.size ≤ g) (hg2 : g < w1.heap.size) : StyleBox w (w1.setCells g 0 (styleL r)) g r :=
  ⟨hb.grown (setCells_gb g (styleL r) 0 w1) (fun q e => by injection e with e; omega), World.rangeAt_setCells_same w1 g 0 (styleL r) (by rw [styleL_length]; exact ht), hg, by have := (setCells_gb g (styleL r) 0 w1).size; omega⟩
theorem StyleBox.cell {w u u' : World} {g : Nat} {r : Rec} (h : StyleBox w u g r) (hb : Bel u u') {i : Nat} {v : Value} (hv : (styleL r)[i]? = some v) : u'.cell? ⟨g, i, none⟩ = some v := by
  rw [hb.cell _ _ h.hi]
  have := h.rng i v hv
  rwa [Nat.zero_add] at this
theorem there_allocS (w : World) : (w.alloc (.cells zstyle.toArray 47)).there w.heap.size 0 60 := there_new w zstyle.toArray 47
theorem there_keep {w w' : World} {g o n : Nat} (h : w.there g o n) (hb : Bel w w') (hg : g < w.heap.size) : w'.there g o n := fun j hj => by
  obtain ⟨h1, h2⟩ := h j hj
  exact ⟨by rw [hb.cell _ _ hg]; exact h1, by rw [hb.frozen _ _ hg]; exact h2⟩
theorem allocStyle {w : World} {ops : Array Oper} {rest : List Oper} {op : Oper} {a : Act} {Q : Exit → Act → World → Prop} (hgd : op.guard = none) (ho : op.op = .alloc 47)
    (h : ∀ w', Hid (w' = w.alloc (.cells zstyle.toArray 47)) → wpList Tryz.prog ops Q rest (a.put op.dst (.pointer (some ⟨w.heap.size, 0, none⟩))) w') : wpList Tryz.prog ops Q (op :: rest) a w :=
  wpList_plain hgd fun _ hK => step_allocStyle ho (hK _ _ (h _ (hid' rfl)))
/-- the style stored in the block that was laid just ahead of it -/
theorem storeStyle {w w1 : World} {ops : Array Oper} {rest : List Oper} {op : Oper} {a : Act} {Q : Exit → Act → World → Prop} (hgd : op.guard = none) (x y : Operand) (ho : op.op = .store 47 x y) (hA : Hid (w1 = w.alloc (.cells zstyle.toArray 47))) (hx : a.eval x = .pointer (some ⟨w.heap.size, 0, none⟩)) (r : Rec)
    (hy : a.eval y = styleV r) (h : ∀ w', Hid (StyleBox w w' w.heap.size r) → wpList Tryz.prog ops Q rest (a.put op.dst undef) w') : wpList Tryz.prog ops Q (op :: rest) a w1 :=
  wpList_plain hgd fun _ hK => by
    have ht : w1.there w.heap.size 0 60 := by rw [hA.out]; exact there_allocS w
    exact step_storeStyle x y ho w.heap.size hx r hy ht (hK _ _ (h _ (hid' (StyleBox.put (by rw [hA.out]; exact (Bel.refl w).alloc _) ht (Nat.le_refl _) (by rw [hA.out]; simp)))))
theorem style_b6 (r : Rec) : (styleL r)[6]? = some (.bool (r.b 6)) := rcells_bool r rfl
theorem style_b7 (r : Rec) : (styleL r)[7]? = some (.bool (r.b 7)) := rcells_bool r rfl

end Go.Proofs.YtkoljbndbomhdaaGreat
