/- A struct in a box, stored or loaded as a whole; the style that StyleNew makes. -/
import Derived.Test.YtfmijkedhlnccaaDrawVal
import Derived.Test.YtfmijkedhlnccaaCopy
import Derived.Test.YtfmijkedhlnccaaGiv
namespace Go.Proofs.Ytfmijkedhlnccaa
open Go.RowKit Go.ChangeShapes Go.WideShapes Go.ChangeAt
set_option linter.unusedVariables false
set_option linter.unusedSimpArgs false

theorem run_allocR {ty : TypeId} {N : Nat} {L : List Value} (h : (Try.prog.info? ty).map (fun i => (i.zero, i.size)) = some (some (.agg L.toArray), N)) (w : World) : (Instr.alloc ty true (.tuple #[])).run Try.prog w = .ok (.pointer (some ⟨w.heap.size, 0, none⟩)) (w.alloc (.cells L.toArray ty)) := by
  obtain ⟨zs, hzs⟩ : ∃ zs, L.toArray = zs := ⟨_, rfl⟩
  rw [hzs] at h ⊢
  cases hq : Try.prog.info? ty with
  | none => rw [hq] at h; simp at h
  | some i =>
    rw [hq] at h
    simp at h
    simp [Instr.alloc, zeroValue, typeInfo, hq, h.1, newVar, newRow, Value.cells, Sem.run_bind]
theorem allocR {ty : TypeId} {N : Nat} {L : List Value} (hi : (Try.prog.info? ty).map (fun i => (i.zero, i.size)) = some (some (.agg L.toArray), N)) {w : World} {ops : Array Oper} {rest : List Oper} {op : Oper} {a : Act} {Q : Exit → Act → World → Prop} (hgd : op.guard = none) (ho : op.op = .alloc ty)
    (h : ∀ w', Hid (w' = w.alloc (.cells L.toArray ty)) → wpList Try.prog ops Q rest (a.put op.dst (.pointer (some ⟨w.heap.size, 0, none⟩))) w') : wpList Try.prog ops Q (op :: rest) a w :=
  wpList_plain hgd fun _ hK => by
    unfold Oper.wp execOp
    simp only [ho, Sem.run_bind, Sem.run_pure, Result.andThen_ok, run_allocR hi]
    exact hK _ _ (h _ (hid' rfl))
/-- a whole struct stored -/
theorem storeR {ty N : Nat} {L : List Value} (hi : (Try.prog.info? ty).map (·.size) = some N) {w : World} {ops : Array Oper} {rest : List Oper} {op : Oper} {a : Act} {Q : Exit → Act → World → Prop} (hgd : op.guard = none) (x y : Operand) (ho : op.op = .store ty x y) (g : Nat) (hx : a.eval x = .pointer (some ⟨g, 0, none⟩))
    (hy : a.eval y = .agg L.toArray) (hL : L.length = N) (h1 : ∀ u ∈ L, u.oneCell' = true) (ht : w.there g 0 N) (h : ∀ w', Hid (w' = w.setCells g 0 L) → wpList Try.prog ops Q rest (a.put op.dst undef) w') : wpList Try.prog ops Q (op :: rest) a w := by
  refine wpList_store_any hgd ty x y ho g 0 (.agg L.toArray) hx hy (by simpa [Value.cells, hL] using ht) (by simpa [Value.cells, hL] using hi) (by simpa [Value.cells] using h1) (h _ (hid' ?_))
  simp [Value.cells]
section
variable {ks : List Bool} {w0 w w' : World} {p g g2 g3 j : Nat}
theorem BX.there (h : BX w g ks) (N : Nat) (hN : ks.length = N) : w.there g 0 N := fun j hj => by
  obtain ⟨hl, ⟨r, hr⟩, hf⟩ := h
  rw [Nat.zero_add]
  have hj2 : j < (rcells ks r).length := by rw [rcells_length]; omega
  exact ⟨by rw [hr j _ (List.getElem?_eq_getElem hj2)]; rfl, hf j⟩
theorem BX.range (h : BX w g ks) : ∃ r, w.rangeAt g 0 (rcells ks r) := by
  obtain ⟨hl, ⟨r, hr⟩, hf⟩ := h
  exact ⟨r, fun j v e => by rw [Nat.zero_add]; exact hr j v e⟩
theorem frozen_gb {w w' : World} {row : Option Nat} (h : w.grownBy w' row) {k o : Nat} (hk : k < w.heap.size) (hr : row ≠ some k) : w'.frozen? ⟨k, o, none⟩ = w.frozen? ⟨k, o, none⟩ := by
  have := h.block k hk hr.symm
  unfold World.frozen?
  rw [this]
theorem cell_gb {w w' : World} {row : Option Nat} (h : w.grownBy w' row) {k o : Nat} (hk : k < w.heap.size) (hr : row ≠ some k) : w'.cell? ⟨k, o, none⟩ = w.cell? ⟨k, o, none⟩ := by
  have := h.block k hk hr.symm
  unfold World.cell?
  rw [this]
theorem frozen_setCells (b : Nat) : ∀ (vs : List Value) (o : Nat) (w : World) (k i : Nat), (w.setCells b o vs).frozen? ⟨k, i, none⟩ = w.frozen? ⟨k, i, none⟩
  | [], o, w, k, i => rfl
  | v :: vs, o, w, k, i => by
    show ((w.setCell ⟨b, o, none⟩ v).setCells b (o + 1) vs).frozen? ⟨k, i, none⟩ = _
    rw [frozen_setCells b vs (o + 1) _ k i]
    simp
theorem BX.setAll (h : BX w g ks) (r : Rec) : BX (w.setCells g 0 (rcells ks r)) g ks :=
  ⟨Nat.lt_of_lt_of_le h.1 (setCells_gb g (rcells ks r) 0 w).size, ⟨r, fun j v e => by
    have := World.rangeAt_setCells_same w g 0 (rcells ks r) (h.there _ (by rw [rcells_length])) j v e
    rwa [Nat.zero_add] at this⟩, fun j => by rw [frozen_setCells]; exact h.2.2 j⟩
theorem BX.setAllO (h : BX w g ks) {q : Nat} (hq : q ≠ g) (L : List Value) : BX (w.setCells q 0 L) g ks := by
  obtain ⟨hl, ⟨r, hr⟩, hf⟩ := h
  have hg := setCells_gb q L 0 w
  exact ⟨Nat.lt_of_lt_of_le hl hg.size, ⟨r, fun j v e => (cell_gb hg hl (by simp [hq])).trans (hr j v e)⟩, fun j => by rw [frozen_setCells]; exact hf j⟩
theorem It.setAll (h : It ks w0 w p g2 g3) (r : Rec) : It ks w0 (w.setCells g3 0 (rcells ks r)) p g2 g3 := by
  have := h.lo2
  have := h.lo3
  have := h.plt
  have hne := h.ne
  exact ⟨h.cur.grown (setCells_gb g3 _ 0 w) (fun q e => by injection e with e; omega), h.cb.new (setCells_gb g3 _ 0 w) h.lo3, h.lo2, h.lo3, h.plt, h.ne, h.b2.setAllO (by omega) _, h.b3.setAll r⟩
theorem It.res (h : It ks w0 w p g2 g3) (r : Rec) : (w.setCells g2 0 (rcells ks r)).rangeAt g2 0 (rcells ks r) ∧ Cur (w.setCells g2 0 (rcells ks r)) p ∧ CB p w0 (w.setCells g2 0 (rcells ks r)) := by
  have := h.lo2
  have := h.plt
  exact ⟨World.rangeAt_setCells_same w g2 0 _ (h.b2.there _ (by rw [rcells_length])), h.cur.grown (setCells_gb g2 _ 0 w) (fun q e => by injection e with e; omega), h.cb.new (setCells_gb g2 _ 0 w) h.lo2⟩
end
end Go.Proofs.Ytfmijkedhlnccaa
