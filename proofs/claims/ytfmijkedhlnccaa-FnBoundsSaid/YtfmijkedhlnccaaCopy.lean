/- Loads and stores of many cells by law; a struct copied field by field. -/
import Derived.Test.YtfmijkedhlnccaaApp
import Derived.Deep.MidRow
namespace Go.Proofs.Ytfmijkedhlnccaa
open Go.RowKit Go.ChangeShapes Go.WideShapes
set_option linter.unusedVariables false
set_option linter.unusedSimpArgs false

section
variable {P : Program}
/-- what a load of the cells cs gives -/
def valOf (d : TypeDesc) (cs : List Value) : Value := if d.isRow = true then .agg cs.toArray else cs.getD 0 undef
theorem run_loadVar_any (w : World) (b o : Nat) (ty : TypeId) (cs : List Value) (d : TypeDesc) (hc : w.rangeAt b o cs) (hu : P.underlying ty = some d) (hi : (P.info? ty).map (·.size) = some cs.length) (h1 : d.isRow = true ∨ cs.length = 1) :
    (loadVar ty ⟨b, o, none⟩).run P w = .ok (valOf d cs) w := by
  by_cases hd : d.isRow = true
  · rw [run_loadVar_mid w b o ty cs d hc hu hd hi, valOf, if_pos hd]
  · have hl : cs.length = 1 := h1.resolve_left hd
    match cs, hl with
    | [v], _ =>
      have hc0 : w.cell? ⟨b, o, none⟩ = some v := by simpa using hc 0 v rfl
      have hagg : (isAgg ty).run P w = .ok false w := by
        unfold isAgg
        rw [Sem.run_bind, run_underlying hu w]
        cases d <;> simp_all
      have hd' : d.isRow = false := by simpa using hd
      simp [loadVar, Sem.run_bind, hagg, hc0, valOf, hd']
theorem wpList_load_any {ops : Array Oper} {rest : List Oper} {op : Oper} {a : Act} {w : World} {Q : Exit → Act → World → Prop} (hgd : op.guard = none) (ty : TypeId) (x : Operand) (ho : op.op = .load ty x)
    (b o : Nat) (hx : a.eval x = .pointer (some ⟨b, o, none⟩)) (cs : List Value) (d : TypeDesc) (hc : w.rangeAt b o cs)
    (hu : P.underlying ty = some d) (hi : (P.info? ty).map (·.size) = some cs.length) (h1 : d.isRow = true ∨ cs.length = 1)
    (h : wpList P ops Q rest (a.put op.dst (valOf d cs)) w) : wpList P ops Q (op :: rest) a w :=
  wpList_plain hgd fun _ hK => by
    unfold Oper.wp execOp
    simp only [ho, hx, Instr.loadAt, Instr.sureAddr, Sem.run_bind, Sem.run_pure, Result.andThen_ok, run_loadVar_any w b o ty cs d hc hu hi h1]
    exact hK _ _ h
theorem run_storeVar_any (w : World) (b o : Nat) (ty : TypeId) (v : Value) (ht : w.there b o v.cells.size) (hi : (P.info? ty).map (·.size) = some v.cells.size) (h1 : ∀ u ∈ v.cells.toList, u.oneCell' = true) :
    (storeVar ty ⟨b, o, none⟩ v).run P w = .ok () (w.setCells b o v.cells.toList) := by
  have := run_storeCells_cells (P := P) b o v.cells.toList 0 w (fun j hj => by simpa using (ht j (by simpa using hj)).1) (fun j hj => by simpa using (ht j (by simpa using hj)).2) h1
  cases hq : P.info? ty with
  | none => simp [hq] at hi
  | some i =>
    have hs : v.cells.size = i.size := by simp [hq] at hi; omega
    simp only [Nat.add_zero] at this
    simp [storeVar, sizeOf, typeInfo, hq, hs, this]
theorem wpList_store_any {ops : Array Oper} {rest : List Oper} {op : Oper} {a : Act} {w : World} {Q : Exit → Act → World → Prop} (hgd : op.guard = none) (ty : TypeId) (x y : Operand) (ho : op.op = .store ty x y)
    (b o : Nat) (v : Value) (hx : a.eval x = .pointer (some ⟨b, o, none⟩)) (hy : a.eval y = v)
    (ht : w.there b o v.cells.size) (hi : (P.info? ty).map (·.size) = some v.cells.size) (h1 : ∀ u ∈ v.cells.toList, u.oneCell' = true)
    (h : wpList P ops Q rest (a.put op.dst undef) (w.setCells b o v.cells.toList)) : wpList P ops Q (op :: rest) a w :=
  wpList_plain hgd fun _ hK => by
    unfold Oper.wp execOp
    simp only [ho, hx, hy, Instr.storeAt, Instr.sureAddr, Sem.run_bind, Sem.run_pure, Result.andThen_ok, run_storeVar_any w b o ty v ht hi h1]
    exact hK _ _ h
theorem results_cell_any {fn : Func} {p : Tmp} {ty : TypeId} (h : fn.results = #[.cell p ty]) (tmps : Array Value) (w : World) (b : Nat) (cs : List Value) (d : TypeDesc)
    (hp : tmps.getD p undef = .pointer (some ⟨b, 0, none⟩)) (hc : w.rangeAt b 0 cs) (hu : P.underlying ty = some d) (hd : d.isRow = true) (hi : (P.info? ty).map (·.size) = some cs.length) :
    (results fn tmps).run P w = .ok (.agg cs.toArray) w := by
  have hp' : tmps[p]?.getD undef = .pointer (some ⟨b, 0, none⟩) := by simpa using hp
  simp [results, h, hp', asAddr, run_loadVar_mid w b 0 ty cs d hc hu hd hi]
end

/-! ### a range read, whatever is new -/
theorem range_bel {w w' : World} {b o : Nat} {cs : List Value} (h : w.rangeAt b o cs) (hb : Bel w w') (hl : b < w.heap.size) : w'.rangeAt b o cs := fun j v hv => (hb.cell _ _ hl).trans (h j v hv)
theorem there_bel {w w' : World} {b o n : Nat} (h : w.there b o n) (hb : Bel w w') (hl : b < w.heap.size) : w'.there b o n := fun j hj => by
  rw [hb.cell _ _ hl, hb.frozen _ _ hl]; exact h j hj
theorem range_sub {w : World} {b o : Nat} {cs : List Value} (h : w.rangeAt b o cs) (k n : Nat) : w.rangeAt b (o + k) ((cs.drop k).take n) := fun j v hv => by
  rw [List.getElem?_take] at hv
  split at hv
  · rw [List.getElem?_drop] at hv
    rw [Nat.add_assoc]
    exact h (k + j) v hv
  · cases hv
theorem range_new (w : World) (cs : List Value) (t : TypeId) : (w.alloc (.cells cs.toArray t)).rangeAt w.heap.size 0 cs := fun j v hv => by
  rw [Nat.zero_add]; exact new_cells w cs t j v hv
theorem there_new (w : World) (c : Array Value) (t : TypeId) : (w.alloc (.cells c t)).there w.heap.size 0 c.size := fun j hj => by
  rw [Nat.zero_add]
  exact ⟨by rw [World.cell?_alloc_new]; simp [hj], World.frozen?_alloc_new _ _ _ _⟩
theorem setCells_gb (b : Nat) : ∀ (vs : List Value) (o : Nat) (w : World), w.grownBy (w.setCells b o vs) (some b)
  | [], _, w => World.grownBy.refl _ _
  | v :: vs, o, w => by
    rw [World.setCells]
    have h1 : w.grownBy (w.setCell ⟨b, o, none⟩ v) (some b) := ⟨rfl, rfl, rfl, by simp [World.setCell], fun k hk hne => Below.heap_setCell _ _ _ _ (fun e => hne (by rw [e]))⟩
    exact h1.trans (setCells_gb b vs (o + 1) _)
theorem range_app {w : World} {b o : Nat} {cs ds : List Value} (h : w.rangeAt b o cs) (k : w.rangeAt b (o + cs.length) ds) : w.rangeAt b o (cs ++ ds) := fun j v hv => by
  by_cases hj : j < cs.length
  · rw [List.getElem?_append_left hj] at hv; exact h j v hv
  · rw [List.getElem?_append_right (by omega)] at hv
    have := k (j - cs.length) v hv
    rwa [show o + cs.length + (j - cs.length) = o + j by omega] at this

/-- block g3 is being filled from block g1; g2 is for the result -/
structure Cp (w0 w : World) (g1 g2 g3 N : Nat) (S D : List Value) : Prop where
  bel : Bel w0 w
  l0 : w0.heap.size ≤ g1
  l1 : g1 < g2
  l2 : g2 < g3
  l3 : g3 < w.heap.size
  src : w.rangeAt g1 0 S
  t2 : w.there g2 0 N
  t3 : w.there g3 0 N
  got : w.rangeAt g3 0 D
theorem Cp.keep {w0 w w' : World} {g1 g2 g3 N : Nat} {S D : List Value} (h : Cp w0 w g1 g2 g3 N S D) (hb : Bel w w') : Cp w0 w' g1 g2 g3 N S D := by
  obtain ⟨h1, h2, h3, h4, h5, h6, h7, h8, h9⟩ := h
  exact ⟨h1.trans hb, h2, h3, h4, Nat.lt_of_lt_of_le h5 hb.sz, range_bel h6 hb (by omega), there_bel h7 hb (by omega), there_bel h8 hb h5, range_bel h9 hb h5⟩
theorem Cp.put {w0 w : World} {g1 g2 g3 N : Nat} {S D : List Value} (h : Cp w0 w g1 g2 g3 N S D) (vs : List Value) (hl : D.length + vs.length ≤ N) : Cp w0 (w.setCells g3 D.length vs) g1 g2 g3 N S (D ++ vs) := by
  obtain ⟨h1, h2, h3, h4, h5, h6, h7, h8, h9⟩ := h
  have hg := setCells_gb g3 vs D.length w
  refine ⟨h1.grown hg (fun k e => by injection e with e; omega), h2, h3, h4, Nat.lt_of_lt_of_le h5 hg.size, ?_, World.there_setCells h7 _ _ _, World.there_setCells h8 _ _ _, ?_⟩
  · exact World.rangeAt_setCells_apart h6 _ _ _ (.inl (by omega))
  · refine range_app (World.rangeAt_setCells_apart h9 _ _ _ (.inr (.inl (by omega)))) ?_
    rw [Nat.zero_add]
    refine World.rangeAt_setCells_same _ _ _ _ (fun j hj => ?_)
    have := h8 (D.length + j) (by omega)
    rwa [Nat.zero_add] at this
theorem Cp.start (w : World) (S z2 z3 : List Value) (t1 t2 t3 : TypeId) (N : Nat) (h2 : z2.length = N) (h3 : z3.length = N) : Cp w (((w.alloc (.cells S.toArray t1)).alloc (.cells z2.toArray t2)).alloc (.cells z3.toArray t3)) w.heap.size (w.heap.size + 1) (w.heap.size + 2) N S [] := by
  have b1 : Bel w (w.alloc (.cells S.toArray t1)) := (Bel.refl w).alloc _
  have b2 : Bel (w.alloc (.cells S.toArray t1)) ((w.alloc (.cells S.toArray t1)).alloc (.cells z2.toArray t2)) := (Bel.refl _).alloc _
  have b3 : Bel ((w.alloc (.cells S.toArray t1)).alloc (.cells z2.toArray t2)) (((w.alloc (.cells S.toArray t1)).alloc (.cells z2.toArray t2)).alloc (.cells z3.toArray t3)) := (Bel.refl _).alloc _
  have s1 : (w.alloc (.cells S.toArray t1)).heap.size = w.heap.size + 1 := by simp
  have s2 : ((w.alloc (.cells S.toArray t1)).alloc (.cells z2.toArray t2)).heap.size = w.heap.size + 2 := by simp
  have n2 := there_new (w.alloc (.cells S.toArray t1)) z2.toArray t2
  have n3 := there_new ((w.alloc (.cells S.toArray t1)).alloc (.cells z2.toArray t2)) z3.toArray t3
  rw [s1] at n2
  rw [s2] at n3
  refine ⟨(b1.trans b2).trans b3, Nat.le_refl _, by omega, by omega, by simp, ?_, ?_, ?_, fun j v hv => by simp at hv⟩
  · exact range_bel (range_bel (range_new w S t1) b2 (by omega)) b3 (by omega)
  · have := there_bel n2 b3 (by omega)
    simpa [h2] using this
  · simpa [h3] using n3

/-- the next field is read -/
theorem Cp.load {w0 w : World} {g1 g2 g3 N : Nat} {S D : List Value} {ops : Array Oper} {rest : List Oper} {op : Oper} {a : Act} {Q : Exit → Act → World → Prop} (H : Hid (Cp w0 w g1 g2 g3 N S D)) (hgd : op.guard = none) (ty : TypeId) (x : Operand) (ho : op.op = .load ty x)
    (o n : Nat) (hx : a.eval x = .pointer (some ⟨g1, o, none⟩)) (d : TypeDesc) (hu : Try.prog.underlying ty = some d) (hi : (Try.prog.info? ty).map (·.size) = some n) (hn : ((S.drop o).take n).length = n) (h1 : d.isRow = true ∨ n = 1)
    (h : wpList Try.prog ops Q rest (a.put op.dst (valOf d ((S.drop o).take n))) w) : wpList Try.prog ops Q (op :: rest) a w :=
  wpList_load_any hgd ty x ho g1 o hx _ d (by have := range_sub H.out.src o n; rwa [Nat.zero_add] at this) hu (by rw [hn]; exact hi) (by rw [hn]; exact h1) h
/-- the next field is written -/
theorem Cp.store {w0 w : World} {g1 g2 g3 N : Nat} {S D : List Value} {ops : Array Oper} {rest : List Oper} {op : Oper} {a : Act} {Q : Exit → Act → World → Prop} (H : Hid (Cp w0 w g1 g2 g3 N S D)) (hgd : op.guard = none) (ty : TypeId) (x y : Operand) (ho : op.op = .store ty x y)
    (o n : Nat) (v : Value) (hx : a.eval x = .pointer (some ⟨g3, o, none⟩)) (hy : a.eval y = v) (hi : (Try.prog.info? ty).map (·.size) = some n) (hD : D.length = o) (hv : v.cells.size = n) (hN : o + n ≤ N) (h1 : ∀ u ∈ v.cells.toList, u.oneCell' = true)
    (h : ∀ w', Hid (Cp w0 w' g1 g2 g3 N S (D ++ v.cells.toList)) → wpList Try.prog ops Q rest (a.put op.dst undef) w') : wpList Try.prog ops Q (op :: rest) a w := by
  subst hD
  subst hv
  refine wpList_store_any hgd ty x y ho g3 D.length v hx hy (fun j hj => ?_) hi h1 (h _ (hid' (H.out.put v.cells.toList (by simpa using hN))))
  have := H.out.t3 (D.length + j) (by omega)
  rwa [Nat.zero_add] at this
/-- the whole is read -/
theorem Cp.whole {w0 w : World} {g1 g2 g3 N : Nat} {S D : List Value} {ops : Array Oper} {rest : List Oper} {op : Oper} {a : Act} {Q : Exit → Act → World → Prop} (H : Hid (Cp w0 w g1 g2 g3 N S D)) (hgd : op.guard = none) (ty : TypeId) (x : Operand) (ho : op.op = .load ty x)
    (hx : a.eval x = .pointer (some ⟨g3, 0, none⟩)) (d : TypeDesc) (hu : Try.prog.underlying ty = some d) (hd : d.isRow = true) (hi : (Try.prog.info? ty).map (·.size) = some N) (hN : D.length = N)
    (h : wpList Try.prog ops Q rest (a.put op.dst (.agg D.toArray)) w) : wpList Try.prog ops Q (op :: rest) a w :=
  wpList_load_mid hgd ty x ho g3 0 hx D d H.out.got hu hd (by rw [hN]; exact hi) h
/-- the result is written -/
theorem Cp.result {w0 w : World} {g1 g2 g3 N : Nat} {S D : List Value} {ops : Array Oper} {rest : List Oper} {op : Oper} {a : Act} {Q : Exit → Act → World → Prop} (H : Hid (Cp w0 w g1 g2 g3 N S D)) (hgd : op.guard = none) (ty : TypeId) (x y : Operand) (ho : op.op = .store ty x y)
    (hx : a.eval x = .pointer (some ⟨g2, 0, none⟩)) (hy : a.eval y = .agg D.toArray) (hi : (Try.prog.info? ty).map (·.size) = some N) (hN : D.length = N) (h1' : D.all (·.oneCell') = true)
    (h : ∀ w', Hid (w'.rangeAt g2 0 D ∧ Bel w0 w' ∧ w.grownBy w' (some g2)) → wpList Try.prog ops Q rest (a.put op.dst undef) w') : wpList Try.prog ops Q (op :: rest) a w := by
  have hg := setCells_gb g2 D 0 w
  have h1 : ∀ u ∈ D, u.oneCell' = true := fun u hu => (List.all_eq_true.1 h1') u hu
  refine wpList_store_any hgd ty x y ho g2 0 (.agg D.toArray) hx hy ?_ (by rw [show (Value.agg D.toArray).cells.size = D.length by simp [Value.cells], hN]; exact hi) (by simpa [Value.cells] using h1) (h _ (hid' ⟨?_, ?_, ?_⟩))
  · simpa [Value.cells, hN] using H.out.t2
  · have h2 := H.out.t2
    rw [← hN] at h2
    have h3 : (w.setCells g2 0 D).rangeAt g2 0 D := World.rangeAt_setCells_same _ _ _ _ h2
    simpa [Value.cells] using h3
  · have := H.out.l1
    have := H.out.l0
    exact H.out.bel.grown (by simpa [Value.cells] using hg) (fun k e => by injection e with e; omega)
  · simpa [Value.cells] using hg
theorem Cp.start0 (w : World) (S z2 z3 : List Value) (t1 t2 t3 : TypeId) (N : Nat) (h2 : z2.length = N) (h3 : z3.length = N) : Cp w (((w.alloc (.cells S.toArray t1)).alloc (.cells z2.toArray t2)).alloc (.cells z3.toArray t3)) w.heap.size (w.heap.size + 1) (w.heap.size + 2) N S (S.take 0) := Cp.start w S z2 z3 t1 t2 t3 N h2 h3
/-- a field copied as it is -/
theorem Cp.copy {w0 w : World} {g1 g2 g3 N : Nat} {S : List Value} {o : Nat} {ops : Array Oper} {rest : List Oper} {op : Oper} {a : Act} {Q : Exit → Act → World → Prop} (H : Hid (Cp w0 w g1 g2 g3 N S (S.take o))) (hgd : op.guard = none) (ty : TypeId) (x y : Operand) (ho : op.op = .store ty x y)
    (n : Nat) (v : Value) (hx : a.eval x = .pointer (some ⟨g3, o, none⟩)) (hy : a.eval y = v) (hi : (Try.prog.info? ty).map (·.size) = some n) (hS : S.length = N) (hv : v.cells.toList = (S.drop o).take n) (hN : o + n ≤ N) (h1 : v.cells.toList.all (·.oneCell') = true)
    (h : ∀ w', Hid (Cp w0 w' g1 g2 g3 N S (S.take (o + n))) → wpList Try.prog ops Q rest (a.put op.dst undef) w') : wpList Try.prog ops Q (op :: rest) a w := by
  have hl : v.cells.size = n := by
    have := congrArg List.length hv
    simp only [Array.length_toList, List.length_take, List.length_drop] at this
    omega
  refine Cp.store H hgd ty x y ho o n v hx hy hi (by rw [List.length_take]; omega) hl hN (fun u hu => (List.all_eq_true.1 h1) u hu) (fun w' H' => h w' ?_)
  rw [hv, ← List.take_add] at H'
  exact H'
theorem Cp.full {w0 w : World} {g1 g2 g3 N : Nat} {S : List Value} (H : Cp w0 w g1 g2 g3 N S (S.take N)) (hS : S.length = N) : Cp w0 w g1 g2 g3 N S S := by
  rwa [List.take_of_length_le (by omega)] at H
end Go.Proofs.Ytfmijkedhlnccaa
