/- A region whose order is open, its ways joined: what stands behind it is walked once. -/
import Derived.Test.YtcdneamoemmohaaFamRes
import Derived.Deep.RegionHeld3
namespace Go.Proofs.Ytcdneamoemmohaa
open Go.RowKit Go.ChangeShapes Go.WideShapes
set_option linter.unusedVariables false
set_option linter.unusedSimpArgs false

def setAll (t : Array Value) (ds : List Nat) (y : Nat → Value) : Array Value := ds.foldl (fun t d => t.setIfInBounds d (y d)) t
theorem wp_join {P : Program} {c : Code} {Q : Exit → Act → World → Prop} {t : Array Value} {w : World} (ds : List Nat) (R : (Nat → Value) → World → Prop)
    (h : c.wp P (fun e a u => e = .normal ∧ ∃ y, a = ⟨setAll t ds y, []⟩ ∧ R y u) ⟨t, []⟩ w) (k : ∀ y u, R y u → Q .normal ⟨setAll t ds y, []⟩ u) : c.wp P Q ⟨t, []⟩ w :=
  Code.wp_mono (by rintro e a u ⟨rfl, y, rfl, hR⟩; exact k y u hR) h
theorem join_here {t t' : Array Value} {ds : List Nat} {R : (Nat → Value) → Prop} (hs : setAll t ds (fun i => t'.getD i undef) = t') (hR : R (fun i => t'.getD i undef)) :
    Exit.normal = .normal ∧ ∃ y, (⟨t', []⟩ : Act) = ⟨setAll t ds y, []⟩ ∧ R y := ⟨rfl, _, by rw [hs], hR⟩
theorem there_kept {w w' : World} {g o n : Nat} (h : w.there g o n) (hb : Bel w w') (hg : g < w.heap.size) : w'.there g o n := fun j hj => by
  obtain ⟨h1, h2⟩ := h j hj
  exact ⟨by rw [hb.cell _ _ hg]; exact h1, by rw [hb.frozen _ _ hg]; exact h2⟩
/-- a tree answered, and its box laid behind the call -/
theorem joinA {w x u : World} {v : Value} {T : List NodeD} (hx : Bel w x) (hu : Bel x u) (ht : TreeAt u x.heap.size v T) :
    ∃ KS RS, KS.length = T.length ∧ RS.length = T.length ∧ Fam (u.alloc (.cells #[v] 30)) w.heap.size (boxF u.heap.size v ++ treeF v T KS RS) ∧ Bel w (u.alloc (.cells #[v] 30)) := by
  obtain ⟨KS, RS, h1, h2, hF⟩ := ht
  exact ⟨KS, RS, h1, h2, (hF.base hx.sz).more ((Bel.refl u).alloc _) (boxF_new u v) (hx.trans hu).sz, (hx.trans hu).alloc _⟩
/-- and its box laid ahead of it, at p -/
theorem joinB {w p x u : World} {v : Value} {T : List NodeD} (hp : Bel w p) (hx : Bel (p.alloc (.cells #[.slice none 0 0] 30)) x) (hu : Bel x u) (ht : TreeAt u x.heap.size v T) :
    ∃ KS RS, KS.length = T.length ∧ RS.length = T.length ∧ Fam (u.setCell ⟨p.heap.size, 0, none⟩ v) w.heap.size (boxF p.heap.size v ++ treeF v T KS RS) ∧ Bel w (u.setCell ⟨p.heap.size, 0, none⟩ v) := by
  obtain ⟨KS, RS, h1, h2, hF⟩ := ht
  have hpx : Bel w x := (hp.alloc _).trans hx
  have hb0 : Fam x w.heap.size (boxF p.heap.size (.slice none 0 0)) := ((boxF_new p _).keep hx).base hp.sz
  have hb1 : Fam u w.heap.size (boxF p.heap.size (.slice none 0 0) ++ treeF v T KS RS) := hb0.add hu hF hpx.sz
  have ho : u.ownsRow w.heap.size 30 1 (.slice (some ⟨p.heap.size, 0, none⟩) 1 1) 1 [.slice none 0 0] := hb1.1 ⟨30, 1, .slice (some ⟨p.heap.size, 0, none⟩) 1 1, 1, [.slice none 0 0]⟩ (by simp [boxF])
  have hs := ho.stored 0 v
  have hb2 := Fam.write (i := 0) (r := ⟨30, 1, .slice (some ⟨p.heap.size, 0, none⟩) 1 1, 1, [.slice none 0 0]⟩) hb1 rfl hs.2 ⟨30, 1, .slice (some ⟨p.heap.size, 0, none⟩) 1 1, 1, [v]⟩ (.inl rfl) hs.1
  exact ⟨KS, RS, h1, h2, hb2, (hpx.trans hu).setCell hp.sz _⟩
theorem Fam.more2 {w w' : World} {base : Nat} {F A B : List Row} (h : Fam w base F) (hb : Bel w w') (hG : Fam w' w.heap.size (A ++ B)) (hs : base ≤ w.heap.size) : Fam w' base (A ++ (B ++ F)) := by
  have := h.more hb hG hs
  rwa [List.append_assoc] at this
theorem range_below {base : Nat} {a b : World} {k o : Nat} {L : List Value} (h : a.rangeAt k o L) (hl : Below base a b) (hk : k < base) : b.rangeAt k o L := fun j v hv => (Below.cell (p := ⟨k, o + j, none⟩) hl hk).trans (h j v hv)
theorem range_lit (w : World) (L : List Value) (t : TypeId) : (w.alloc (.cells L.toArray t)).rangeAt w.heap.size 0 L := fun q v hq => by
  rw [Nat.zero_add]
  exact new_cells _ _ _ q v hq
section
variable {P : Program} {a : Act} {u : World}
theorem y_move {o : Oper} {x : Operand} {v : Value} (ho : o.op = .move x) (hx : a.eval x = v) : (execOp a.eval o).run P u = .ok (.value v) u := by
  unfold execOp
  simp [ho, hx]
theorem y_assign {o : Oper} {x : Operand} {v : Value} (ho : o.op = .assign x) (hx : a.eval x = v) : (execOp a.eval o).run P u = .ok (.value v) u := by
  unfold execOp
  simp [ho, hx]
theorem y_extract0 {o : Oper} {x : Operand} {v v' : Value} (ho : o.op = .extract x 0) (hx : a.eval x = .tuple #[v, v']) : (execOp a.eval o).run P u = .ok (.value v) u := by
  unfold execOp
  simp [ho, hx, Instr.extract]
theorem y_extract1 {o : Oper} {x : Operand} {v v' : Value} (ho : o.op = .extract x 1) (hx : a.eval x = .tuple #[v, v']) : (execOp a.eval o).run P u = .ok (.value v') u := by
  unfold execOp
  simp [ho, hx, Instr.extract]
theorem op_callN {o : Oper} {w : World} {K : Act → World → Prop} {Q : Exit → Act → World → Prop} {f : FuncId} {xs : Array Operand} {ts : Array TypeId} {vs : Array Value} (ho : o.op = .call { callee := .value (.func f), args := xs, argTypes := ts }) (hv0 : xs.toList.map a.eval = vs.toList)
    (hrun : ∀ args w, (callFunc f args).run P w = .ok (.enter f args) w) (h : Calls P f vs w fun e w' => ∃ r, e = .returned r ∧ K (a.put o.dst r) w') : o.wp P a w K Q := by
  have hv : xs.map a.eval = vs := by apply Array.toList_inj.1; simpa using hv0
  clear hv0
  unfold Oper.wp
  have hr : (execOp a.eval o).run P w = .ok (.enter f vs) w := by
    have hf : a.eval (.func f) = .func (.func f) #[] #[] := rfl
    obtain ⟨ρ, hρ⟩ : ∃ ρ, a.eval = ρ := ⟨_, rfl⟩
    rw [hρ] at hv hf ⊢
    unfold execOp
    simp [ho, go_sem, resolve, invoke, hv, hf, hrun]
  rw [hr, Oper.upon_enter]
  refine h.mono ?_
  rintro e w' ⟨r, rfl, h'⟩
  exact h'
end
theorem run_allocTree (w : World) : (Instr.alloc 30 true (.tuple #[])).run Try.prog w = .ok (.pointer (some ⟨w.heap.size, 0, none⟩)) (w.alloc (.cells #[.slice none 0 0] 30)) := by
  obtain ⟨i0, hi, hz0, hz1, hz2⟩ := info_parts (show (Try.prog.info? 30).map (fun i => (i.zero, i.size, i.bytes)) = some (some (.agg #[.slice none 0 0]), 1, 24) by kernel_rfl)
  simp [Instr.alloc, zeroValue, typeInfo, hi, hz0, newVar, newRow, Value.cells, Sem.run_bind]
theorem op_allocTree {w : World} {op : Oper} {a : Act} {K : Act → World → Prop} {Q : Exit → Act → World → Prop} (ho : op.op = .alloc 30)
    (h : K (a.put op.dst (.pointer (some ⟨w.heap.size, 0, none⟩))) (w.alloc (.cells #[.slice none 0 0] 30))) : op.wp Try.prog a w K Q := by
  unfold Oper.wp execOp
  simp only [ho, Sem.run_bind, Sem.run_pure, Result.andThen_ok, run_allocTree]
  exact h
theorem op_storeTree {w : World} {op : Oper} {a : Act} {K : Act → World → Prop} {Q : Exit → Act → World → Prop} {x y : Operand} (ho : op.op = .store 30 x y) {b : Nat} {A : Option Addr} {n c : Nat} (hx : a.eval x = .pointer (some ⟨b, 0, none⟩)) (hy : a.eval y = treeV A n c) (ht : w.there b 0 1)
    (h : K (a.put op.dst undef) (w.setCell ⟨b, 0, none⟩ (.slice A n c))) : op.wp Try.prog a w K Q :=
  wp_store_mid 30 x y ho b 0 #[.slice A n c] hx hy ht (by show _ = some 1; kernel_rfl) (all_oneCell_toArray (cs := [.slice A n c]) (by intro q hq; simp at hq; subst hq; rfl)) h
/-- and its box laid behind the call, then filled -/
theorem joinC {w x u : World} {v : Value} {T : List NodeD} (hx : Bel w x) (hu : Bel x u) (ht : TreeAt u x.heap.size v T) :
    ∃ KS RS, KS.length = T.length ∧ RS.length = T.length ∧ Fam ((u.alloc (.cells #[.slice none 0 0] 30)).setCell ⟨u.heap.size, 0, none⟩ v) w.heap.size (boxF u.heap.size v ++ treeF v T KS RS) ∧ Bel w ((u.alloc (.cells #[.slice none 0 0] 30)).setCell ⟨u.heap.size, 0, none⟩ v) := by
  obtain ⟨KS, RS, h1, h2, hF⟩ := ht
  have hwu := hx.trans hu
  have hb1 : Fam (u.alloc (.cells #[.slice none 0 0] 30)) w.heap.size (boxF u.heap.size (.slice none 0 0) ++ treeF v T KS RS) := (hF.base hx.sz).more ((Bel.refl u).alloc _) (boxF_new u _) hwu.sz
  have ho : (u.alloc (.cells #[.slice none 0 0] 30)).ownsRow w.heap.size 30 1 (.slice (some ⟨u.heap.size, 0, none⟩) 1 1) 1 [.slice none 0 0] := hb1.1 ⟨30, 1, .slice (some ⟨u.heap.size, 0, none⟩) 1 1, 1, [.slice none 0 0]⟩ (by simp [boxF])
  have hs := ho.stored 0 v
  have hb2 := Fam.write (i := 0) (r := ⟨30, 1, .slice (some ⟨u.heap.size, 0, none⟩) 1 1, 1, [.slice none 0 0]⟩) hb1 rfl hs.2 ⟨30, 1, .slice (some ⟨u.heap.size, 0, none⟩) 1 1, 1, [v]⟩ (.inl rfl) hs.1
  exact ⟨KS, RS, h1, h2, hb2, (hwu.alloc _).setCell hwu.sz _⟩
theorem getop0 {o0 : Oper} {l : List Oper} : (o0 :: l).toArray[0]? = some o0 := rfl
theorem getop1 {o0 o1 : Oper} {l : List Oper} : (o0 :: o1 :: l).toArray[1]? = some o1 := rfl
theorem getop2 {o0 o1 o2 : Oper} {l : List Oper} : (o0 :: o1 :: o2 :: l).toArray[2]? = some o2 := rfl
theorem getop3 {o0 o1 o2 o3 : Oper} {l : List Oper} : (o0 :: o1 :: o2 :: o3 :: l).toArray[3]? = some o3 := rfl
theorem getop4 {o0 o1 o2 o3 o4 : Oper} {l : List Oper} : (o0 :: o1 :: o2 :: o3 :: o4 :: l).toArray[4]? = some o4 := rfl
theorem getop5 {o0 o1 o2 o3 o4 o5 : Oper} {l : List Oper} : (o0 :: o1 :: o2 :: o3 :: o4 :: o5 :: l).toArray[5]? = some o5 := rfl
theorem getop6 {o0 o1 o2 o3 o4 o5 o6 : Oper} {l : List Oper} : (o0 :: o1 :: o2 :: o3 :: o4 :: o5 :: o6 :: l).toArray[6]? = some o6 := rfl
theorem getop7 {o0 o1 o2 o3 o4 o5 o6 o7 : Oper} {l : List Oper} : (o0 :: o1 :: o2 :: o3 :: o4 :: o5 :: o6 :: o7 :: l).toArray[7]? = some o7 := rfl
theorem getop8 {o0 o1 o2 o3 o4 o5 o6 o7 o8 : Oper} {l : List Oper} : (o0 :: o1 :: o2 :: o3 :: o4 :: o5 :: o6 :: o7 :: o8 :: l).toArray[8]? = some o8 := rfl
theorem getop9 {o0 o1 o2 o3 o4 o5 o6 o7 o8 o9 : Oper} {l : List Oper} : (o0 :: o1 :: o2 :: o3 :: o4 :: o5 :: o6 :: o7 :: o8 :: o9 :: l).toArray[9]? = some o9 := rfl
theorem getop10 {o0 o1 o2 o3 o4 o5 o6 o7 o8 o9 o10 : Oper} {l : List Oper} : (o0 :: o1 :: o2 :: o3 :: o4 :: o5 :: o6 :: o7 :: o8 :: o9 :: o10 :: l).toArray[10]? = some o10 := rfl
theorem getop11 {o0 o1 o2 o3 o4 o5 o6 o7 o8 o9 o10 o11 : Oper} {l : List Oper} : (o0 :: o1 :: o2 :: o3 :: o4 :: o5 :: o6 :: o7 :: o8 :: o9 :: o10 :: o11 :: l).toArray[11]? = some o11 := rfl
theorem getop12 {o0 o1 o2 o3 o4 o5 o6 o7 o8 o9 o10 o11 o12 : Oper} {l : List Oper} : (o0 :: o1 :: o2 :: o3 :: o4 :: o5 :: o6 :: o7 :: o8 :: o9 :: o10 :: o11 :: o12 :: l).toArray[12]? = some o12 := rfl
theorem getop13 {o0 o1 o2 o3 o4 o5 o6 o7 o8 o9 o10 o11 o12 o13 : Oper} {l : List Oper} : (o0 :: o1 :: o2 :: o3 :: o4 :: o5 :: o6 :: o7 :: o8 :: o9 :: o10 :: o11 :: o12 :: o13 :: l).toArray[13]? = some o13 := rfl
theorem range_one {w : World} {b : Nat} {v : Value} (h : w.cell? ⟨b, 0, none⟩ = some v) : w.rangeAt b 0 [v] := fun j u hu => by
  cases j with
  | zero => simp at hu; subst hu; exact h
  | succ j => simp at hu
theorem there_one (p : World) (v : Value) (t : TypeId) : (p.alloc (.cells #[v] t)).there p.heap.size 0 1 := there_new p #[v] t
end Go.Proofs.Ytcdneamoemmohaa
