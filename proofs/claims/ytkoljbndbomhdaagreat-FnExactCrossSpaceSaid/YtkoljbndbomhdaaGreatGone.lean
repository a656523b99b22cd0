/- IsGone and RootOf, both sides; the chain of ancestors in a valid tree. -/
import Derived.Test.YtkoljbndbomhdaaGreatTreeOkS
namespace Go.Proofs.YtkoljbndbomhdaaGreat
open Go.RowKit Go.ChangeShapes Go.WideShapes
set_option linter.unusedVariables false
set_option linter.unusedSimpArgs false

/-- d steps up from m, each from a node, lead to 0 -/
def Chain (T : List NodeD) : Nat → Int → Prop
  | 0, m => m = 0
  | d + 1, m => isNodeB T m = true ∧ Chain T d (upOf T m)
theorem node_ne {T : List NodeD} {m : Int} (h : isNodeB T m = true) : m ≠ 0 := by have := isNode_iff.1 h; omega
theorem chain_depth {T : List NodeD} : ∀ (d f : Nat) (m k : Int), Chain T d m → d < f → depthFrom T f m k = k + (d : Int)
  | 0, f + 1, m, k, h, _ => by obtain rfl : m = 0 := h; rw [depth_zero]; simp
  | d + 1, f + 1, m, k, h, hf => by
    rw [depth_next _ _ (node_ne h.1) h.1, chain_depth d f _ _ h.2 (by omega)]
    omega
theorem depth_chain {T : List NodeD} : ∀ (f : Nat) (m k : Int), depthFrom T f m k ≠ 0 → ∃ d, d < f ∧ Chain T d m
  | 0, m, k, h => absurd rfl h
  | f + 1, m, k, h => by
    by_cases h0 : m = 0
    · exact ⟨0, by omega, h0⟩
    · cases hq : isNodeB T m
      · exact absurd (depth_no _ _ h0 hq) h
      · rw [depth_next _ _ h0 hq] at h
        obtain ⟨d, hd, hc⟩ := depth_chain f _ _ h
        exact ⟨d + 1, by omega, hq, hc⟩
theorem chain_depthOf {T : List NodeD} {d : Nat} {m : Int} (h : Chain T d m) (hd : d ≤ T.length) : depthOf T m = (d : Int) := by
  unfold depthOf
  rw [chain_depth d _ _ _ h (by omega)]
  omega
theorem treeOk_at {T : List NodeD} (h : treeOk T = true) {j : Nat} (hj : j < T.length) : nodeOk T j = true := by
  unfold treeOk at h
  rw [Bool.and_eq_true, List.all_eq_true] at h
  exact h.2 j (List.mem_range.2 hj)
theorem treeOk_len {T : List NodeD} (h : treeOk T = true) : T.length ≤ 12 := by
  unfold treeOk at h
  rw [Bool.and_eq_true] at h
  simpa using h.1
theorem treeOk_depth {T : List NodeD} (h : treeOk T = true) {j : Nat} (hj : j < T.length) : depthOk T j = true := by
  have := treeOk_at h hj
  unfold nodeOk at this
  simp only [Bool.and_eq_true] at this
  exact this.1.1.1.2
theorem treeOk_kids {T : List NodeD} (h : treeOk T = true) {j : Nat} (hj : j < T.length) : ∀ z ∈ (node_ T j).kids, kidOk T j z = true := by
  have := treeOk_at h hj
  unfold nodeOk at this
  simp only [Bool.and_eq_true] at this
  exact List.all_eq_true.1 this.1.1.2
theorem treeOk_chain {T : List NodeD} (h : treeOk T = true) {m : Int} (hm : isNodeB T m = true) : ∃ d, d ≤ 4 ∧ d ≤ T.length ∧ Chain T d m ∧ depthOf T m = (d : Int) := by
  obtain ⟨j, rfl, hj⟩ := isNode_split hm
  have hd := treeOk_depth h hj
  unfold depthOk inB at hd
  simp only [Bool.and_eq_true, decide_eq_true_eq] at hd
  have h0 : depthOf T ((j : Int) + 1) ≠ 0 := by omega
  obtain ⟨d, hd1, hc⟩ := depth_chain (T.length + 1) ((j : Int) + 1) 0 h0
  have := chain_depthOf hc (by omega)
  exact ⟨d, by omega, by omega, hc, this⟩

def goneFrom (T : List NodeD) : Nat → Int → Bool
  | 0, _ => false
  | d + 1, m => (nd T m).style.b 7 || goneFrom T d (upOf T m)
def isGone (T : List NodeD) (n : Int) : Bool := !treeOk T || !isNodeB T n || goneFrom T (depthOf T n).toNat n
def rootFrom (T : List NodeD) : Nat → Int → Int
  | 0, m => m
  | d + 1, m => if upOf T m = 0 then m else rootFrom T d (upOf T m)
def rootOf (T : List NodeD) (n : Int) : Int := if treeOk T = true ∧ isNodeB T n = true then rootFrom T (depthOf T n).toNat n else 0
theorem nd_eq (T : List NodeD) (j : Nat) : nd T ((j : Int) + 1) = node_ T j := by
  unfold nd
  congr 1
  omega

theorem field_style (x : NodeD) (K R : Value) (w : World) : (Instr.field 79 (.agg (nodeL x K R).toArray) 2).run Tryz.prog w = .ok (styleV x.style) w := by
  have hagg : (isAgg 47).run Tryz.prog w = .ok true w := by
    unfold isAgg
    rw [Sem.run_bind, run_underlying Tryz.underlying47 w]
    rfl
  have hsz : (sizeOf 47).run Tryz.prog w = .ok 60 w := by
    obtain ⟨i, hi, hs⟩ : ∃ i, (Tryz.prog).info? 47 = some i ∧ i.size = 60 := by
      have hk : ((Tryz.prog).info? 47).map (·.size) = some 60 := by kernel_rfl
      cases hq : (Tryz.prog).info? 47 with
      | none => rw [hq] at hk; simp at hk
      | some i => exact ⟨i, rfl, by rw [hq] at hk; simpa using hk⟩
    simp [sizeOf, typeInfo, hi, hs]
  have h0 : (nodeL x K R).toArray.extract 2 62 = (styleL x.style).toArray := by
    rw [← nodeL_style x K R, List.extract_toArray, List.extract_eq_drop_take']
    congr 1
  obtain ⟨cs, hcs⟩ : ∃ cs, (nodeL x K R).toArray = cs := ⟨_, rfl⟩
  rw [hcs] at h0 ⊢
  unfold Instr.field
  rw [Sem.run_bind, run_underlying Tryz.underlying79 w]
  simp only [Result.andThen_ok]
  show (asAgg (.agg cs) >>= fun z => part 47 z 2).run Tryz.prog w = _
  simp [asAgg, part, Sem.run_bind, hagg, hsz, h0, styleV]
theorem field_flag (r : Rec) (w : World) (o : Nat) (ho : o = 6 ∨ o = 7) : (Instr.field 47 (styleV r) o).run Tryz.prog w = .ok (.bool (r.b o)) w := by
  have hagg : (isAgg 4).run Tryz.prog w = .ok false w := by
    unfold isAgg
    rw [Sem.run_bind, run_underlying Tryz.underlying4 w]
    rfl
  have h0 : (styleL r).toArray[o]? = some (.bool (r.b o)) := by
    rw [List.getElem?_toArray]
    rcases ho with rfl | rfl
    · exact rcells_bool r rfl
    · exact rcells_bool r rfl
  unfold styleV
  obtain ⟨cs, hcs⟩ : ∃ cs, (styleL r).toArray = cs := ⟨_, rfl⟩
  rw [hcs] at h0 ⊢
  unfold Instr.field
  rw [Sem.run_bind, run_underlying Tryz.underlying47 w]
  simp only [Result.andThen_ok]
  rcases ho with rfl | rfl
  · show (asAgg (.agg cs) >>= fun z => part 4 z 6).run Tryz.prog w = _
    simp [asAgg, part, Sem.run_bind, hagg, h0]
  · show (asAgg (.agg cs) >>= fun z => part 4 z 7).run Tryz.prog w = _
    simp [asAgg, part, Sem.run_bind, hagg, h0]

end Go.Proofs.YtkoljbndbomhdaaGreat
