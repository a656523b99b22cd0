/- Slices of ints cut in two; the ways of a drawn region joined. -/
import Derived.Test.YtkoljbndbomhdaaGreatUnder
import Derived.Deep.RegionHeld3
import Derived.Deep.AppendLies
namespace Go.Proofs.YtkoljbndbomhdaaGreat
open Go.RowKit Go.ChangeShapes Go.WideShapes
set_option linter.unusedVariables false
set_option linter.unusedSimpArgs false

/-- the first at of them -/
theorem cut_take {w : World} {K : Option Addr} {l : List Int} (h : Ints w K l) (a : Nat) : Ints w K (l.take a) := fun i hi => by
  rw [List.length_take] at hi
  obtain ⟨b, o, e, hb, hc⟩ := h i (by omega)
  refine ⟨b, o, e, hb, fun j hj => ?_⟩
  rw [List.length_take] at hj
  rw [hc j (by omega)]
  congr 2
  unfold at_ List.getD
  rw [List.getElem?_take_of_lt (by omega)]
def addO (K : Option Addr) (a : Nat) : Option Addr := K.map (·.add a)
theorem cut_drop {w : World} {K : Option Addr} {l : List Int} (h : Ints w K l) (a : Nat) : Ints w (addO K a) (l.drop a) := fun i hi => by
  rw [List.length_drop] at hi
  obtain ⟨b, o, e, hb, hc⟩ := h i (by omega)
  have ea : addO K a = some ⟨b, o + a, none⟩ := by
    rw [e]
    unfold addO Addr.add
    simp only [Option.map_some]
    split
    · rename_i h0; subst h0; rfl
    · rfl
  refine ⟨b, o + a, ea, hb, fun j hj => ?_⟩
  rw [List.length_drop] at hj
  rw [Nat.add_assoc, hc (a + j) (by omega)]
  congr 2
  unfold at_ List.getD
  rw [List.getElem?_drop]
theorem run_cutH (t : TypeId) (ht : Tryz.prog.underlying t = some (.slice (Tryz.prog.elem t))) (hs : ∀ w, (sizeOf (Tryz.prog.elem t)).run Tryz.prog w = .ok 1 w) (K : Option Addr) (n ck a : Nat) (ha : a ≤ n) (hn : n ≤ ck) (w : World) :
    (Instr.slice t (.slice K n ck) none (some (.int .i64 (a : Int))) none).run Tryz.prog w = .ok (.slice K a ck) w := by
  rw [run_slice_h w t K n ck ht .i64 (a : Int) (by omega) (by omega), hs, Result.andThen_ok]
  have e : (if ck = 0 then K else K.map (·.add (0 * 1))) = K := by
    split
    · rfl
    · rcases K with _ | ad
      · rfl
      · simp [Addr.add]
  unfold sliced
  rw [e, Int.toNat_natCast, Nat.sub_zero, Nat.sub_zero]
def cutO (K : Option Addr) (a ck : Nat) : Option Addr := if ck = a then K else addO K a
theorem run_cutL (t : TypeId) (ht : Tryz.prog.underlying t = some (.slice (Tryz.prog.elem t))) (hs : ∀ w, (sizeOf (Tryz.prog.elem t)).run Tryz.prog w = .ok 1 w) (K : Option Addr) (n ck a : Nat) (ha : a ≤ n) (w : World) :
    (Instr.slice t (.slice K n ck) (some (.int .i64 (a : Int))) none none).run Tryz.prog w = .ok (.slice (cutO K a ck) (n - a) (ck - a)) w := by
  rw [run_slice_l w t K n ck ht .i64 (a : Int) (by omega) (by omega), hs, Result.andThen_ok]
  unfold sliced cutO addO
  rw [Int.toNat_natCast, Nat.mul_one]
theorem cut_dropO {w : World} {K : Option Addr} {l : List Int} {ck a : Nat} (h : Ints w K l) (hn : l.length ≤ ck) : Ints w (cutO K a ck) (l.drop a) := by
  unfold cutO
  split
  · rename_i e
    have : l.drop a = [] := List.drop_of_length_le (by omega)
    rw [this]
    exact Ints.nil _ _
  · exact cut_drop h a
theorem cut_none {K : Option Addr} {ck a : Nat} (h : K = none → ck = 0) : cutO K a ck = none → ck - a = 0 := by
  unfold cutO addO
  split
  · intro; omega
  · rcases K with _ | ad
    · intro; have := h rfl; omega
    · intro e; cases e
theorem size_int (w : World) : (sizeOf (Tryz.prog.elem 48)).run Tryz.prog w = .ok 1 w := by
  have he : Tryz.prog.elem 48 = 3 := by kernel_rfl
  rw [he]
  obtain ⟨i0, hi, hz0, hz1, hz2⟩ := info_parts Tryz.info_int
  simp [sizeOf, typeInfo, hi, hz1]
theorem elem_ints : Tryz.prog.underlying 48 = some (.slice (Tryz.prog.elem 48)) := by kernel_rfl
theorem ints_one {w : World} {b : Nat} {z : Int} (h : w.cell? ⟨b, 0, none⟩ = some (.int .i64 z)) (hb : b < w.heap.size) : Ints w (some ⟨b, 0, none⟩) [z] := fun i hi => ⟨b, 0, rfl, hb, fun q hq => by
  obtain rfl : q = 0 := by simpa using hq
  exact h⟩
def setAll (t : Array Value) (ds : List Nat) (y : Nat → Value) : Array Value := ds.foldl (fun t d => t.setIfInBounds d (y d)) t
theorem wp_join {P : Program} {c : Code} {Q : Exit → Act → World → Prop} {t : Array Value} {w : World} (ds : List Nat) (R : (Nat → Value) → World → Prop)
    (h : c.wp P (fun e a u => e = .normal ∧ ∃ y, a = ⟨setAll t ds y, []⟩ ∧ R y u) ⟨t, []⟩ w) (k : ∀ y u, R y u → Q .normal ⟨setAll t ds y, []⟩ u) : c.wp P Q ⟨t, []⟩ w :=
  Code.wp_mono (by rintro e a u ⟨rfl, y, rfl, hR⟩; exact k y u hR) h
theorem join_here {t t' : Array Value} {ds : List Nat} {R : (Nat → Value) → Prop} (hs : setAll t ds (fun i => t'.getD i undef) = t') (hR : R (fun i => t'.getD i undef)) :
    Exit.normal = .normal ∧ ∃ y, (⟨t', []⟩ : Act) = ⟨setAll t ds y, []⟩ ∧ R y := ⟨rfl, _, by rw [hs], hR⟩
theorem own_far {w w' : World} {base g n size : Nat} {e : TypeId} {v : Value} {xs : List Value} (h : w.ownsRow base e size v n xs) (hg : w.grownBy w' (some g)) (hb : g < base) : w'.ownsRow base e size v n xs :=
  h.kept hg (by
    cases hv : v.ownBlock with
    | none => exact .inl rfl
    | some q =>
      right
      intro e
      injection e with e
      have := (h.lt q hv).1
      omega)
theorem grown_set (u : World) (b : Nat) (v : Value) : u.grownBy (u.setCell ⟨b, 0, none⟩ v) (some b) := ⟨rfl, rfl, rfl, by simp [World.setCell], fun k hk hne => Below.heap_setCell _ _ _ _ (fun e => hne (by rw [e]))⟩
theorem own_pos {w : World} {base n size : Nat} {e : TypeId} {v : Value} {xs : List Value} (h : w.ownsRow base e size v (n + 1) xs) : ∃ g c, v = .slice (some ⟨g, 0, none⟩) (n + 1) c := by
  rcases h.2 with ⟨_, h0⟩ | ⟨g, c, cur, h1, _⟩
  · omega
  · exact ⟨g, c, h1⟩
theorem new_cell1 (w : World) (v : Value) (t : TypeId) : (w.alloc (.cells #[v] t)).cell? ⟨w.heap.size, 0, none⟩ = some v ∧ (w.alloc (.cells #[v] t)).frozen? ⟨w.heap.size, 0, none⟩ = false := by
  constructor <;> simp
theorem there_kept {w w' : World} {g o n : Nat} (h : w.there g o n) (hb : Bel w w') (hg : g < w.heap.size) : w'.there g o n := fun j hj => by
  obtain ⟨h1, h2⟩ := h j hj
  exact ⟨by rw [hb.cell _ _ hg]; exact h1, by rw [hb.frozen _ _ hg]; exact h2⟩
section
variable {P : Program} {a : Act} {u : World}
theorem y_move {o : Oper} {x : Operand} {v : Value} (ho : o.op = .move x) (hx : a.eval x = v) : (execOp a.eval o).run P u = .ok (.value v) u := by
  unfold execOp
  simp [ho, hx]
theorem y_assign {o : Oper} {x : Operand} {v : Value} (ho : o.op = .assign x) (hx : a.eval x = v) : (execOp a.eval o).run P u = .ok (.value v) u := by
  unfold execOp
  simp [ho, hx]
theorem y_extract0 {o : Oper} {x : Operand} {v v' : Value} (ho : o.op = .extract x 0) (hx : a.eval x = .tuple #[v, v']) : (execOp a.eval o).run P u = .ok (.value v) u := by
  unfold execOp
  simp [ho, hx, Instr.extract]
theorem y_extract1 {o : Oper} {x : Operand} {v v' : Value} (ho : o.op = .extract x 1) (hx : a.eval x = .tuple #[v, v']) : (execOp a.eval o).run P u = .ok (.value v') u := by
  unfold execOp
  simp [ho, hx, Instr.extract]
theorem op_callN {o : Oper} {w : World} {K : Act → World → Prop} {Q : Exit → Act → World → Prop} {f : FuncId} {xs : Array Operand} {ts : Array TypeId} {vs : Array Value} (ho : o.op = .call { callee := .value (.func f), args := xs, argTypes := ts }) (hv0 : xs.toList.map a.eval = vs.toList)
    (hrun : ∀ args w, (callFunc f args).run P w = .ok (.enter f args) w) (h : Calls P f vs w fun e w' => ∃ r, e = .returned r ∧ K (a.put o.dst r) w') : o.wp P a w K Q := by
  have hv : xs.map a.eval = vs := by apply Array.toList_inj.1; simpa using hv0
  clear hv0
  unfold Oper.wp
  have hr : (execOp a.eval o).run P w = .ok (.enter f vs) w := by
    have hf : a.eval (.func f) = .func (.func f) #[] #[] := rfl
    obtain ⟨ρ, hρ⟩ : ∃ ρ, a.eval = ρ := ⟨_, rfl⟩
    rw [hρ] at hv hf ⊢
    unfold execOp
    simp [ho, go_sem, resolve, invoke, hv, hf, hrun]
  rw [hr, Oper.upon_enter]
  refine h.mono ?_
  rintro e w' ⟨r, rfl, h'⟩
  exact h'
end
theorem getop0 {o0 : Oper} {l : List Oper} : (o0 :: l).toArray[0]? = some o0 := rfl
theorem getop1 {o0 o1 : Oper} {l : List Oper} : (o0 :: o1 :: l).toArray[1]? = some o1 := rfl
theorem getop2 {o0 o1 o2 : Oper} {l : List Oper} : (o0 :: o1 :: o2 :: l).toArray[2]? = some o2 := rfl
theorem getop3 {o0 o1 o2 o3 : Oper} {l : List Oper} : (o0 :: o1 :: o2 :: o3 :: l).toArray[3]? = some o3 := rfl
theorem getop4 {o0 o1 o2 o3 o4 : Oper} {l : List Oper} : (o0 :: o1 :: o2 :: o3 :: o4 :: l).toArray[4]? = some o4 := rfl
theorem getop5 {o0 o1 o2 o3 o4 o5 : Oper} {l : List Oper} : (o0 :: o1 :: o2 :: o3 :: o4 :: o5 :: l).toArray[5]? = some o5 := rfl
theorem getop6 {o0 o1 o2 o3 o4 o5 o6 : Oper} {l : List Oper} : (o0 :: o1 :: o2 :: o3 :: o4 :: o5 :: o6 :: l).toArray[6]? = some o6 := rfl
theorem getop7 {o0 o1 o2 o3 o4 o5 o6 o7 : Oper} {l : List Oper} : (o0 :: o1 :: o2 :: o3 :: o4 :: o5 :: o6 :: o7 :: l).toArray[7]? = some o7 := rfl
theorem getop8 {o0 o1 o2 o3 o4 o5 o6 o7 o8 : Oper} {l : List Oper} : (o0 :: o1 :: o2 :: o3 :: o4 :: o5 :: o6 :: o7 :: o8 :: l).toArray[8]? = some o8 := rfl
theorem getop9 {o0 o1 o2 o3 o4 o5 o6 o7 o8 o9 : Oper} {l : List Oper} : (o0 :: o1 :: o2 :: o3 :: o4 :: o5 :: o6 :: o7 :: o8 :: o9 :: l).toArray[9]? = some o9 := rfl
theorem getop10 {o0 o1 o2 o3 o4 o5 o6 o7 o8 o9 o10 : Oper} {l : List Oper} : (o0 :: o1 :: o2 :: o3 :: o4 :: o5 :: o6 :: o7 :: o8 :: o9 :: o10 :: l).toArray[10]? = some o10 := rfl
theorem getop11 {o0 o1 o2 o3 o4 o5 o6 o7 o8 o9 o10 o11 : Oper} {l : List Oper} : (o0 :: o1 :: o2 :: o3 :: o4 :: o5 :: o6 :: o7 :: o8 :: o9 :: o10 :: o11 :: l).toArray[11]? = some o11 := rfl
theorem getop12 {o0 o1 o2 o3 o4 o5 o6 o7 o8 o9 o10 o11 o12 : Oper} {l : List Oper} : (o0 :: o1 :: o2 :: o3 :: o4 :: o5 :: o6 :: o7 :: o8 :: o9 :: o10 :: o11 :: o12 :: l).toArray[12]? = some o12 := rfl
theorem getop13 {o0 o1 o2 o3 o4 o5 o6 o7 o8 o9 o10 o11 o12 o13 : Oper} {l : List Oper} : (o0 :: o1 :: o2 :: o3 :: o4 :: o5 :: o6 :: o7 :: o8 :: o9 :: o10 :: o11 :: o12 :: o13 :: l).toArray[13]? = some o13 := rfl
theorem range_one {w : World} {b : Nat} {v : Value} (h : w.cell? ⟨b, 0, none⟩ = some v) : w.rangeAt b 0 [v] := fun j u hu => by
  cases j with
  | zero => simp at hu; subst hu; exact h
  | succ j => simp at hu
theorem getop14 {o0 o1 o2 o3 o4 o5 o6 o7 o8 o9 o10 o11 o12 o13 o14 : Oper} {l : List Oper} : (o0 :: o1 :: o2 :: o3 :: o4 :: o5 :: o6 :: o7 :: o8 :: o9 :: o10 :: o11 :: o12 :: o13 :: o14 :: l).toArray[14]? = some o14 := rfl
theorem getop15 {o0 o1 o2 o3 o4 o5 o6 o7 o8 o9 o10 o11 o12 o13 o14 o15 : Oper} {l : List Oper} : (o0 :: o1 :: o2 :: o3 :: o4 :: o5 :: o6 :: o7 :: o8 :: o9 :: o10 :: o11 :: o12 :: o13 :: o14 :: o15 :: l).toArray[15]? = some o15 := rfl
theorem getop16 {o0 o1 o2 o3 o4 o5 o6 o7 o8 o9 o10 o11 o12 o13 o14 o15 o16 : Oper} {l : List Oper} : (o0 :: o1 :: o2 :: o3 :: o4 :: o5 :: o6 :: o7 :: o8 :: o9 :: o10 :: o11 :: o12 :: o13 :: o14 :: o15 :: o16 :: l).toArray[16]? = some o16 := rfl
theorem getop17 {o0 o1 o2 o3 o4 o5 o6 o7 o8 o9 o10 o11 o12 o13 o14 o15 o16 o17 : Oper} {l : List Oper} : (o0 :: o1 :: o2 :: o3 :: o4 :: o5 :: o6 :: o7 :: o8 :: o9 :: o10 :: o11 :: o12 :: o13 :: o14 :: o15 :: o16 :: o17 :: l).toArray[17]? = some o17 := rfl
theorem getop18 {o0 o1 o2 o3 o4 o5 o6 o7 o8 o9 o10 o11 o12 o13 o14 o15 o16 o17 o18 : Oper} {l : List Oper} : (o0 :: o1 :: o2 :: o3 :: o4 :: o5 :: o6 :: o7 :: o8 :: o9 :: o10 :: o11 :: o12 :: o13 :: o14 :: o15 :: o16 :: o17 :: o18 :: l).toArray[18]? = some o18 := rfl
theorem getop19 {o0 o1 o2 o3 o4 o5 o6 o7 o8 o9 o10 o11 o12 o13 o14 o15 o16 o17 o18 o19 : Oper} {l : List Oper} : (o0 :: o1 :: o2 :: o3 :: o4 :: o5 :: o6 :: o7 :: o8 :: o9 :: o10 :: o11 :: o12 :: o13 :: o14 :: o15 :: o16 :: o17 :: o18 :: o19 :: l).toArray[19]? = some o19 := rfl
section
variable {P : Program} {a : Act} {u : World}
theorem y_build {o : Oper} {ty : TypeId} {xs : Array (Nat × Operand)} {vs : Array (Nat × Value)} {v : Value} (ho : o.op = .build ty xs) (hx0 : xs.toList.map (fun p => (p.1, a.eval p.2)) = vs.toList) (hr : (Instr.build ty vs).run P u = .ok v u) : (execOp a.eval o).run P u = .ok (.value v) u := by
  have hx : xs.map (fun p => (p.1, a.eval p.2)) = vs := by apply Array.toList_inj.1; simpa using hx0
  unfold execOp
  simp [ho, hx, hr, Sem.run_bind]
end
end Go.Proofs.YtkoljbndbomhdaaGreat
