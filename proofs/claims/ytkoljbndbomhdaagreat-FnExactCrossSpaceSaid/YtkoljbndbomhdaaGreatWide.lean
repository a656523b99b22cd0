/- A struct of a number, a style and a tail, in a block of its own. -/
import Derived.Test.YtkoljbndbomhdaaGreatLayer
import Derived.Test.YtkoljbndbomhdaaGreatFlowS
namespace Go.Proofs.YtkoljbndbomhdaaGreat
open Go.RowKit Go.ChangeShapes Go.WideShapes
set_option linter.unusedVariables false
set_option linter.unusedSimpArgs false

theorem setRun_afterW : ∀ (vs : List Value) (xs : List Value) (p j : Nat), p + vs.length ≤ j → (setRun xs p vs)[j]? = xs[j]?
  | [], _, _, _, _ => rfl
  | v :: vs, xs, p, j, h => by
    simp only [List.length_cons] at h
    rw [setRun, setRun_afterW vs _ _ _ (by omega), List.getElem?_set, if_neg (by omega)]
def wideL (n : Int) (r : Rec) (tl : List Value) : List Value := .int .i64 n :: (styleL r ++ tl)
theorem wideL_length (n : Int) (r : Rec) (tl : List Value) : (wideL n r tl).length = 61 + tl.length := by simp [wideL, styleL_length]; omega
theorem wideL_get (n : Int) (r : Rec) (tl : List Value) (k : Nat) : (wideL n r tl)[61 + k]? = tl[k]? := by
  unfold wideL
  rw [show 61 + k = (60 + k) + 1 by omega, List.getElem?_cons_succ, List.getElem?_append_right (by rw [styleL_length]; omega), styleL_length, show 60 + k - 60 = k by omega]
theorem wideL_set (n : Int) (r : Rec) (tl vs : List Value) (k : Nat) (hf : k + vs.length ≤ tl.length) : setRun (wideL n r tl) (61 + k) vs = wideL n r (setRun tl k vs) := by
  apply List.ext_getElem?
  intro i
  by_cases h1 : i < 61 + k
  · rw [setRun_before _ _ _ _ h1]
    by_cases h2 : i < 61
    · unfold wideL
      rcases i with _ | i
      · rfl
      · rw [List.getElem?_cons_succ, List.getElem?_cons_succ, List.getElem?_append_left (by rw [styleL_length]; omega), List.getElem?_append_left (by rw [styleL_length]; omega)]
    · obtain ⟨q, rfl⟩ : ∃ q, i = 61 + q := ⟨i - 61, by omega⟩
      rw [wideL_get, wideL_get, setRun_before _ _ _ _ (by omega)]
  · obtain ⟨q, rfl⟩ : ∃ q, i = 61 + q := ⟨i - 61, by omega⟩
    rw [wideL_get]
    by_cases h3 : q < k + vs.length
    · obtain ⟨t, rfl⟩ : ∃ t, q = k + t := ⟨q - k, by omega⟩
      rw [← Nat.add_assoc, setRun_in _ _ _ _ (by rw [wideL_length]; omega) (by omega), setRun_in _ _ _ _ (by omega) (by omega)]
    · rw [setRun_afterW _ _ _ _ (by omega), setRun_afterW _ _ _ _ (by omega), wideL_get]
theorem wideL_style (n : Int) (r s : Rec) (tl : List Value) : setRun (wideL n r tl) 1 (styleL s) = wideL n s tl := by
  apply List.ext_getElem?
  intro i
  have h1 := styleL_length r
  have h2 := styleL_length s
  rcases i with _ | i
  · rw [setRun_before _ _ _ _ (by omega)]; rfl
  · by_cases h3 : i < 60
    · rw [Nat.add_comm, setRun_in _ _ _ _ (by rw [wideL_length]; omega) (by omega)]
      unfold wideL
      rw [Nat.add_comm, List.getElem?_cons_succ, List.getElem?_append_left (by omega)]
    · rw [setRun_afterW _ _ _ _ (by omega)]
      unfold wideL
      rw [List.getElem?_cons_succ, List.getElem?_cons_succ, List.getElem?_append_right (by omega), List.getElem?_append_right (by omega), h1, h2]
theorem wideL_one (n : Int) (r : Rec) {tl : List Value} (h : ∀ u ∈ tl, u.oneCell' = true) : ∀ u ∈ wideL n r tl, u.oneCell' = true := by
  intro u hu
  simp only [wideL, List.mem_cons, List.mem_append] at hu
  rcases hu with rfl | hu | hu
  · rfl
  · exact rcells_one _ _ u hu
  · exact h u hu
/-- the box of L in block g: new since w0 -/
structure WB (w0 u : World) (ty : TypeId) (N g : Nat) (L : List Value) : Prop where
  bel : Bel w0 u
  own : u.ownsRow w0.heap.size ty N (.slice (some ⟨g, 0, none⟩) 1 1) 1 L
theorem WB.len {w0 u : World} {ty : TypeId} {N g : Nat} {L : List Value} (h : WB w0 u ty N g L) : L.length = N := by have := h.own.1; omega
theorem WB.lt {w0 u : World} {ty : TypeId} {N g : Nat} {L : List Value} (h : WB w0 u ty N g L) : w0.heap.size ≤ g ∧ g < u.heap.size := h.own.lt g rfl
theorem WB.keep {w0 u u' : World} {ty : TypeId} {N g : Nat} {L : List Value} (h : WB w0 u ty N g L) (hb : Bel u u') : WB w0 u' ty N g L := ⟨h.bel.trans hb, own_keep h.own hb⟩
theorem WB.cell {w0 u : World} {ty : TypeId} {N g i : Nat} {L : List Value} {v : Value} (h : WB w0 u ty N g L) (hv : L[i]? = some v) : u.cell? ⟨g, i, none⟩ = some v := by
  have hi := lt_of_get hv
  rw [h.own.cellAt i (by have := h.len; omega)]
  exact hv
theorem WB.free {w0 u : World} {ty : TypeId} {N g : Nat} {L : List Value} (h : WB w0 u ty N g L) (i : Nat) : u.frozen? ⟨g, i, none⟩ = false := h.own.frozenAt _
theorem WB.rng {w0 u : World} {ty : TypeId} {N g : Nat} {L : List Value} (h : WB w0 u ty N g L) : u.rangeAt g 0 L := fun i v hv => by
  rw [Nat.zero_add]
  exact h.cell hv
theorem WB.there {w0 u : World} {ty : TypeId} {N g o m : Nat} {L : List Value} (h : WB w0 u ty N g L) (hl : o + m ≤ N) : u.there g o m := own_there h.own (by omega)
theorem WB.put {w0 u : World} {ty : TypeId} {N g : Nat} {L : List Value} (h : WB w0 u ty N g L) (off : Nat) (vs : List Value) : WB w0 (u.setCells g off vs) ty N g (setRun L off vs) :=
  ⟨h.bel.grown (setCells_gb g vs off u) (fun q e => by injection e with e; have := h.lt.1; omega), own_run vs off _ u h.own⟩
theorem WB.new {w0 w : World} {ty : TypeId} {N : Nat} {L : List Value} (hb : Bel w0 w) (hL : L.length = N) : WB w0 (w.alloc (.cells L.toArray ty)) ty N w.heap.size L :=
  ⟨hb.alloc _, own_low (World.ownsRow_lit (e := ty) (size := N) w L.toArray 1 (by omega) (by unfold maxLen; omega) (by simp; omega)) hb.sz⟩

/-! ### build with several parts -/
theorem fold_offW : ∀ (l : List Value) (p : Nat) (xs : List Value) (k : Nat), ((l.zipIdx k).foldl (fun (cs : Array Value) (q : Value × Nat) => cs.setIfInBounds (p + q.2) q.1) xs.toArray) = (setRun xs (p + k) l).toArray
  | [], p, xs, k => rfl
  | v :: l, p, xs, k => by
    simp only [List.zipIdx_cons, List.foldl_cons, setRun]
    have e : xs.toArray.setIfInBounds (p + k) v = (xs.set (p + k) v).toArray := by simp
    rw [e, fold_offW l p (xs.set (p + k) v) (k + 1), Nat.add_assoc]
theorem fill_step (place : Nat → Option (Nat × Nat)) (xs L : List Value) (i off n : Nat) (v : Value) (rest : List (Nat × Value)) (hp : place i = some (off, n)) (hv : v.cells = L.toArray) (hL : L.length = n) (hl : off + n ≤ xs.length) : Instr.fill place xs.toArray ((i, v) :: rest) = Instr.fill place (setRun xs off L).toArray rest := by
  have hz : v.cells.size = n := by simpa [hv] using hL
  have h0 : ¬ (v.cells.size ≠ n ∨ xs.toArray.size < off + v.cells.size) := by rw [hz]; simp; omega
  have e : (v.cells.zipIdx.foldl (fun cs (p : Value × Nat) => cs.setIfInBounds (off + p.2) p.1) xs.toArray) = (setRun xs off L).toArray := by
    have := fold_offW L off xs 0
    rw [Nat.add_zero] at this
    rw [← this]
    simp [hv]
  conv => lhs; unfold Instr.fill
  simp only [hp, Bool.or_eq_true, decide_eq_true_eq, if_neg h0]
  rw [← e]
end Go.Proofs.YtkoljbndbomhdaaGreat
