/- layer.place: what it builds. -/
import Derived.Test.YtkoljbndbomhdaaGreatWide
import Derived.Test.YtkoljbndbomhdaaGreatStep
import Derived.Deep.RegionHeld3
namespace Go.Proofs.YtkoljbndbomhdaaGreat
open Go.RowKit Go.ChangeShapes Go.WideShapes Go.ChangeAt
set_option linter.unusedVariables false
set_option linter.unusedSimpArgs false

theorem run_allocW {ty : TypeId} {N : Nat} {L : List Value} (h : (Tryz.prog.info? ty).map (fun i => (i.zero, i.size)) = some (some (.agg L.toArray), N)) (w : World) : (Instr.alloc ty true (.tuple #[])).run Tryz.prog w = .ok (.pointer (some ⟨w.heap.size, 0, none⟩)) (w.alloc (.cells L.toArray ty)) := by
  obtain ⟨zs, hzs⟩ : ∃ zs, L.toArray = zs := ⟨_, rfl⟩
  rw [hzs] at h ⊢
  cases hq : Tryz.prog.info? ty with
  | none => rw [hq] at h; simp at h
  | some i =>
    rw [hq] at h
    simp at h
    simp [Instr.alloc, zeroValue, typeInfo, hq, h.1, newVar, newRow, Value.cells, Sem.run_bind]
theorem allocW {ty : TypeId} {N : Nat} {L : List Value} (hi : (Tryz.prog.info? ty).map (fun i => (i.zero, i.size)) = some (some (.agg L.toArray), N)) {w : World} {ops : Array Oper} {rest : List Oper} {op : Oper} {a : Act} {Q : Exit → Act → World → Prop} (hgd : op.guard = none) (ho : op.op = .alloc ty)
    (h : ∀ w', Hid (w' = w.alloc (.cells L.toArray ty)) → wpList Tryz.prog ops Q rest (a.put op.dst (.pointer (some ⟨w.heap.size, 0, none⟩))) w') : wpList Tryz.prog ops Q (op :: rest) a w :=
  wpList_plain hgd fun _ hK => by
    unfold Oper.wp execOp
    simp only [ho, Sem.run_bind, Sem.run_pure, Result.andThen_ok, run_allocW hi]
    exact hK _ _ (h _ (hid' rfl))
theorem run_storeW {w : World} {g N : Nat} {L : List Value} (hL : L.length = N) (h1 : ∀ u ∈ L, u.oneCell' = true) (ht : w.there g 0 N) : (storeCells ⟨g, 0, none⟩ L).run Tryz.prog w = .ok () (w.setCells g 0 L) := by
  have := run_storeCells_cells (P := Tryz.prog) g 0 L 0 w (fun j hj => (ht j (by omega)).1) (fun j hj => (ht j (by omega)).2) h1
  simpa using this
theorem sizeof_of {t n : Nat} (h : (Tryz.prog.info? t).map (·.size) = some n) (u : World) : (sizeOf t).run Tryz.prog u = .ok n u := by
  cases hq : Tryz.prog.info? t with
  | none => rw [hq] at h; simp at h
  | some i => rw [hq] at h; simp at h; simp [sizeOf, typeInfo, hq, h]
theorem storeW {ty : TypeId} {N : Nat} {L : List Value} (hi : (Tryz.prog.info? ty).map (·.size) = some N) {w : World} {ops : Array Oper} {rest : List Oper} {op : Oper} {a : Act} {Q : Exit → Act → World → Prop} (hgd : op.guard = none) (x y : Operand) (ho : op.op = .store ty x y) (g : Nat) (hx : a.eval x = .pointer (some ⟨g, 0, none⟩))
    (hy : a.eval y = .agg L.toArray) (hL : L.length = N) (h1 : ∀ u ∈ L, u.oneCell' = true) (ht : w.there g 0 N) (h : ∀ w', Hid (w'.rangeAt g 0 L ∧ w.grownBy w' (some g)) → wpList Tryz.prog ops Q rest (a.put op.dst undef) w') : wpList Tryz.prog ops Q (op :: rest) a w := by
  refine wpList_store_any hgd ty x y ho g 0 (.agg L.toArray) hx hy (by simpa [Value.cells, hL] using ht) (by simpa [Value.cells, hL] using hi) (by simpa [Value.cells] using h1) (h _ (hid' ⟨?_, ?_⟩))
  · have := World.rangeAt_setCells_same w g 0 L (by rw [hL]; exact ht)
    simpa [Value.cells] using this
  · have := setCells_gb g L 0 w
    simpa [Value.cells] using this
theorem op_allocW {ty : TypeId} {N : Nat} {L : List Value} (hi : (Tryz.prog.info? ty).map (fun i => (i.zero, i.size)) = some (some (.agg L.toArray), N)) {w : World} {op : Oper} {a : Act} {K : Act → World → Prop} {Q : Exit → Act → World → Prop} (ho : op.op = .alloc ty)
    (h : K (a.put op.dst (.pointer (some ⟨w.heap.size, 0, none⟩))) (w.alloc (.cells L.toArray ty))) : op.wp Tryz.prog a w K Q := by
  unfold Oper.wp execOp
  simp only [ho, Sem.run_bind, Sem.run_pure, Result.andThen_ok, run_allocW hi]
  exact h
theorem op_storeW {ty : TypeId} {N : Nat} {L : List Value} (hi : (Tryz.prog.info? ty).map (·.size) = some N) {w : World} {op : Oper} {a : Act} {K : Act → World → Prop} {Q : Exit → Act → World → Prop} {x y : Operand} {g : Nat} (ho : op.op = .store ty x y) (hx : a.eval x = .pointer (some ⟨g, 0, none⟩)) (hy : a.eval y = .agg L.toArray)
    (hL : L.length = N) (h1 : ∀ u ∈ L, u.oneCell' = true) (ht : w.there g 0 N) (h : K (a.put op.dst undef) (w.setCells g 0 L)) : op.wp Tryz.prog a w K Q :=
  wp_store_mid ty x y ho g 0 L.toArray hx hy (by simpa [hL] using ht) (by simpa [hL] using hi) (all_oneCell_toArray h1) (by simpa using h)
theorem op_storeM {ty : TypeId} (cs : List Value) {w : World} {op : Oper} {a : Act} {K : Act → World → Prop} {Q : Exit → Act → World → Prop} {x y : Operand} {g o : Nat} (hi : (Tryz.prog.info? ty).map (·.size) = some cs.length) (ho : op.op = .store ty x y) (hx : a.eval x = .pointer (some ⟨g, o, none⟩)) (hy : a.eval y = .agg cs.toArray)
    (h1 : ∀ u ∈ cs, u.oneCell' = true) (ht : w.there g o cs.length) (h : K (a.put op.dst undef) (w.setCells g o cs)) : op.wp Tryz.prog a w K Q :=
  wp_store_mid ty x y ho g o cs.toArray hx hy (by simpa using ht) (by simpa using hi) (all_oneCell_toArray h1) (by simpa using h)
theorem range_two {w : World} {b : Nat} {u v : Value} (h0 : w.cell? ⟨b, 0, none⟩ = some u) (h1 : w.cell? ⟨b, 1, none⟩ = some v) : w.rangeAt b 0 [u, v] := fun j x hx => by
  match j, hx with
  | 0, hx => simp at hx; subst hx; exact h0
  | 1, hx => simp at hx; subst hx; exact h1
theorem setRun_whole (vs xs : List Value) (h : vs.length = xs.length) : setRun xs 0 vs = vs := by
  apply List.ext_getElem?
  intro i
  by_cases hi : i < vs.length
  · have := setRun_in vs xs 0 i (by omega) hi
    rwa [Nat.zero_add] at this
  · rw [List.getElem?_eq_none (by rw [setRun_length]; omega), List.getElem?_eq_none (by omega)]
theorem WB.whole {w0 u : World} {ty : TypeId} {N g : Nat} {L L' : List Value} (h : WB w0 u ty N g L) (hL : L'.length = N) : WB w0 (u.setCells g 0 L') ty N g L' := by
  have := h.put 0 L'
  rwa [setRun_whole _ _ (by rw [hL, h.len])] at this
def tailP (m1 n1 m2 n2 : Int) (row : Bool) (a1 b1 a2 b2 a3 b3 a4 b4 : Int) (v : Value) : List Value :=
  [.int .i64 m1, .int .i64 n1, .int .i64 m2, .int .i64 n2, .bool row, .int .i64 a1, .int .i64 b1, .int .i64 a2, .int .i64 b2, .int .i64 a3, .int .i64 b3, .int .i64 a4, .int .i64 b4, v]
theorem info_place : (Tryz.prog.info? 54).map (fun i => (i.zero, i.size)) = some (some (.agg (wideL 0 Rec.zero (tailP 0 0 0 0 false 0 0 0 0 0 0 0 0 (.slice none 0 0))).toArray), 75) := by kernel_rfl
set_option maxRecDepth 100000 in
theorem run_buildP (w : World) (n : Int) (r : Rec) (m1 n1 m2 n2 : Int) (row : Bool) (A : Option Addr) (l c : Nat) :
    (Instr.build 54 #[(0, .int .i64 n), (1, .agg (styleL r).toArray), (2, spaceV m1 n1), (3, spaceV m2 n2), (4, .bool row), (9, .slice A l c)]).run Tryz.prog w = .ok (.agg (wideL n r (tailP m1 n1 m2 n2 row 0 0 0 0 0 0 0 0 (.slice A l c))).toArray) w := by
  have s1 := sizeof_of (t := 3) (n := 1) (by kernel_rfl)
  have s2 := sizeof_of (t := 48) (n := 1) (by kernel_rfl)
  have s3 := sizeof_of (t := 47) (n := 60) (by kernel_rfl)
  have s4 := sizeof_of (t := 4) (n := 1) (by kernel_rfl)
  have s5 := sizeof_of (t := 28) (n := 2) (by kernel_rfl)
  obtain ⟨zs, hzs⟩ : ∃ zs, (wideL 0 Rec.zero (tailP 0 0 0 0 false 0 0 0 0 0 0 0 0 (.slice none 0 0))).toArray = zs := ⟨_, rfl⟩
  obtain ⟨sv, hsv⟩ : ∃ sv, (styleL r).toArray = sv := ⟨_, rfl⟩
  have hz : (zeroValue 54).run Tryz.prog w = .ok (.agg zs) w := by
    have h0 := info_place
    rw [hzs] at h0
    cases hq : Tryz.prog.info? 54 with
    | none => rw [hq] at h0; simp at h0
    | some i => rw [hq] at h0; simp at h0; simp [zeroValue, typeInfo, hq, h0.1]
  have hf : Instr.fill (fun x => [(0, 1), (1, 60), (61, 2), (63, 2), (65, 1), (66, 2), (68, 2), (70, 2), (72, 2), (74, 1)][x]?) zs [(0, .int .i64 n), (1, .agg sv), (2, spaceV m1 n1), (3, spaceV m2 n2), (4, .bool row), (9, .slice A l c)] = some (wideL n r (tailP m1 n1 m2 n2 row 0 0 0 0 0 0 0 0 (.slice A l c))).toArray := by
    rw [← hzs, ← hsv]
    have hlen : ∀ (n : Int) (r : Rec) (m1 n1 m2 n2 : Int) (row : Bool) (v : Value), (wideL n r (tailP m1 n1 m2 n2 row 0 0 0 0 0 0 0 0 v)).length = 75 := fun n r m1 n1 m2 n2 row v => by rw [wideL_length]; rfl
    rw [fill_step _ _ [.int .i64 n] 0 0 1 _ _ rfl rfl rfl (by rw [hlen]; omega)]
    rw [show setRun (wideL 0 Rec.zero (tailP 0 0 0 0 false 0 0 0 0 0 0 0 0 (.slice none 0 0))) 0 [.int .i64 n] = wideL n Rec.zero (tailP 0 0 0 0 false 0 0 0 0 0 0 0 0 (.slice none 0 0)) from rfl]
    rw [fill_step _ _ (styleL r) 1 1 60 _ _ rfl rfl (styleL_length r) (by rw [hlen]; omega), wideL_style]
    rw [fill_step _ _ [.int .i64 m1, .int .i64 n1] 2 61 2 _ _ rfl rfl rfl (by rw [hlen]; omega), wideL_set n r _ _ 0 (by simp [tailP])]
    rw [show setRun (tailP 0 0 0 0 false 0 0 0 0 0 0 0 0 (.slice none 0 0)) 0 [.int .i64 m1, .int .i64 n1] = tailP m1 n1 0 0 false 0 0 0 0 0 0 0 0 (.slice none 0 0) from rfl]
    rw [fill_step _ _ [.int .i64 m2, .int .i64 n2] 3 63 2 _ _ rfl rfl rfl (by rw [hlen]; omega), wideL_set n r _ _ 2 (by simp [tailP])]
    rw [show setRun (tailP m1 n1 0 0 false 0 0 0 0 0 0 0 0 (.slice none 0 0)) 2 [.int .i64 m2, .int .i64 n2] = tailP m1 n1 m2 n2 false 0 0 0 0 0 0 0 0 (.slice none 0 0) from rfl]
    rw [fill_step _ _ [.bool row] 4 65 1 _ _ rfl rfl rfl (by rw [hlen]; omega), wideL_set n r _ _ 4 (by simp [tailP])]
    rw [show setRun (tailP m1 n1 m2 n2 false 0 0 0 0 0 0 0 0 (.slice none 0 0)) 4 [.bool row] = tailP m1 n1 m2 n2 row 0 0 0 0 0 0 0 0 (.slice none 0 0) from rfl]
    rw [fill_step _ _ [.slice A l c] 9 74 1 _ _ rfl rfl rfl (by rw [hlen]; omega), wideL_set n r _ _ 13 (by simp [tailP])]
    rw [show setRun (tailP m1 n1 m2 n2 row 0 0 0 0 0 0 0 0 (.slice none 0 0)) 13 [.slice A l c] = tailP m1 n1 m2 n2 row 0 0 0 0 0 0 0 0 (.slice A l c) from rfl]
    rfl
  obtain ⟨R, hR⟩ : ∃ R, (wideL n r (tailP m1 n1 m2 n2 row 0 0 0 0 0 0 0 0 (.slice A l c))).toArray = R := ⟨_, rfl⟩
  rw [hR] at hf ⊢
  rw [hsv]
  unfold Instr.build
  rw [Sem.run_bind, hz]
  simp only [Result.andThen_ok]
  rw [Sem.run_bind, run_underlying Tryz.underlying54 w]
  simp only [Result.andThen_ok]
  simp [Sem.run_bind, s1, s2, s3, s4, s5, Value.cells, hf]
theorem tailP_one (m1 n1 m2 n2 : Int) (row : Bool) (a1 b1 a2 b2 a3 b3 a4 b4 : Int) (A : Option Addr) (l c : Nat) : ∀ u ∈ tailP m1 n1 m2 n2 row a1 b1 a2 b2 a3 b3 a4 b4 (.slice A l c), u.oneCell' = true := by
  intro u hu
  simp only [tailP, List.mem_cons, List.not_mem_nil, or_false] at hu
  rcases hu with rfl | rfl | rfl | rfl | rfl | rfl | rfl | rfl | rfl | rfl | rfl | rfl | rfl | rfl <;> rfl
def mainM (row : Bool) (m1 m2 : Int) : Int := if row = true then m1 else m2
def placeOf (T : List NodeD) (j : Nat) (m1 n1 m2 n2 : Int) (v : Value) : List Value :=
  let r := (node_ T j).style
  let x1 := innerOf m1 n1 (wideE r)
  let x2 := innerOf m2 n2 (highE r)
  wideL ((j : Int) + 1) r (tailP m1 n1 m2 n2 (isRow r) m1 x1 m2 x2 (mainM (isRow r) m1 m2) (mainM (isRow r) x1 x2) (mainM (isRow r) m2 m1) (mainM (isRow r) x2 x1) v)
set_option maxRecDepth 100000 in
set_option maxHeartbeats 4000000 in
theorem iPlace_c (A : Option Addr) (c : Nat) (T : List NodeD) (j : Nat) (m1 n1 m2 n2 : Int) (w : World) (h : Nodes w A T) (hok : treeOk T = true) (hj : j < T.length) :
    Calls Tryz.prog 19 #[.agg #[.slice A T.length c, .bool false, .pointer none], .int .i64 ((j : Int) + 1), spaceV m1 n1, spaceV m2 n2] w fun e w' => ∃ B l d, e = .returned (.agg (placeOf T j m1 n1 m2 n2 (.slice B l d)).toArray) ∧ Bel w w' := by
  have h12 := treeOk_len hok
  have HOK := Lib.hid hok
  obtain ⟨b, o, K, ck, R, cr, rfl, hbl, hrg, -⟩ := h.open1 hj
  have HRG := Lib.hid hrg
  obtain ⟨zL, hzL⟩ : ∃ zL, wideL 0 Rec.zero (tailP 0 0 0 0 false 0 0 0 0 0 0 0 0 (.slice none 0 0)) = zL := ⟨_, rfl⟩
  have hip := info_place
  rw [hzL] at hip
  have HIP := Lib.hid hip
  have HZL : Hid (zL.length = 75) := hid' (by rw [← hzL, wideL_length]; rfl)
  have HKL : Hid (∀ W2, W2 = (((w.alloc (.cells #[.slice (some ⟨b, o, none⟩) T.length c, .bool false, .pointer none] 57)).alloc (.cells #[.int .i64 m1, .int .i64 n1] 28)).alloc (.cells #[.int .i64 m2, .int .i64 n2] 28)).alloc (.cells zL.toArray 54) →
      Hid (∀ u, Bel W2 u → u.cell? ⟨w.heap.size, 0, none⟩ = some (.slice (some ⟨b, o, none⟩) T.length c) ∧ u.cell? ⟨w.heap.size + 1, 0, none⟩ = some (.int .i64 m1) ∧ u.cell? ⟨w.heap.size + 1, 1, none⟩ = some (.int .i64 n1) ∧ u.cell? ⟨w.heap.size + 1 + 1, 0, none⟩ = some (.int .i64 m2) ∧ u.cell? ⟨w.heap.size + 1 + 1, 1, none⟩ = some (.int .i64 n2)) ∧
      Hid (WB w W2 54 75 (w.heap.size + 1 + 1 + 1) zL)) := hid' (fun W2 e => by
    have z1 : (w.alloc (.cells #[.slice (some ⟨b, o, none⟩) T.length c, .bool false, .pointer none] 57)).heap.size = w.heap.size + 1 := by simp
    have z2 : ((w.alloc (.cells #[.slice (some ⟨b, o, none⟩) T.length c, .bool false, .pointer none] 57)).alloc (.cells #[.int .i64 m1, .int .i64 n1] 28)).heap.size = w.heap.size + 1 + 1 := by simp
    have z3 : (((w.alloc (.cells #[.slice (some ⟨b, o, none⟩) T.length c, .bool false, .pointer none] 57)).alloc (.cells #[.int .i64 m1, .int .i64 n1] 28)).alloc (.cells #[.int .i64 m2, .int .i64 n2] 28)).heap.size = w.heap.size + 1 + 1 + 1 := by simp
    refine ⟨hid' (fun u hu => ?_), hid' ?_⟩
    · rw [e] at hu
      have q1 := box_at (L := [.slice (some ⟨b, o, none⟩) T.length c, .bool false, .pointer none]) ((((Bel.refl _).alloc _).alloc _).alloc _ |>.trans hu) (i := 0) rfl
      have q2 := box_at (L := [.int .i64 m1, .int .i64 n1]) (((Bel.refl _).alloc _).alloc _ |>.trans hu) (i := 0) rfl
      have q3 := box_at (L := [.int .i64 m1, .int .i64 n1]) (((Bel.refl _).alloc _).alloc _ |>.trans hu) (i := 1) rfl
      have q4 := box_at (L := [.int .i64 m2, .int .i64 n2]) ((Bel.refl _).alloc _ |>.trans hu) (i := 0) rfl
      have q5 := box_at (L := [.int .i64 m2, .int .i64 n2]) ((Bel.refl _).alloc _ |>.trans hu) (i := 1) rfl
      rw [z1] at q2 q3
      rw [z2] at q4 q5
      exact ⟨q1, q2, q3, q4, q5⟩
    · rw [e, ← z3]
      exact WB.new ((((Bel.refl w).alloc _).alloc _).alloc _) HZL.out)
  clear hzL hrg hip hok
  go_enter Tryz.func19, Tryz.ntmps19
  go_wp2_with ((with_reducible show wpList _ _ _ (Oper.mk _ (Op.alloc _) _ _ _ _ :: _) _ _); refine allocW HIP.out rfl rfl ?_; intro w1 HA; have HX := HKL.out _ HA.out; have hcL := (HX.1.out _ (Bel.refl _)).1)
  obtain ⟨HK, HWR⟩ := HX
  clear HA hcL
  have HB1 := hid' HWR.out.bel
  refine (iNode_at b o c T j K _ ck R _ cr w1 (Nat.lt_of_lt_of_le hbl HB1.out.sz) (range_bel HRG.out HB1.out hbl) hj (by omega)).mono ?_; rintro e w2 ⟨rfl, hb2⟩
  have hfs := field_style (node_ T j) (.slice K (node_ T j).kids.length ck) (.slice R (node_ T j).rules.length cr) w2
  go_wp2_with (first
    | ((with_reducible show wpList _ _ _ (Oper.mk _ (Op.alloc _) _ _ _ _ :: _) _ _); refine allocStyle rfl rfl ?_; intro w3 HA3)
    | ((with_reducible show wpList _ _ _ (Oper.mk _ (Op.store _ _ _) _ _ _ _ :: _) _ _); refine storeStyle rfl _ _ rfl HA3 rfl (node_ T j).style rfl ?_; intro w4 H4))
  clear hfs HA3
  obtain ⟨r, hr⟩ : ∃ r, (node_ T j).style = r := ⟨_, rfl⟩
  have HRR := Lib.hid hr
  rw [hr] at H4
  rw [hr]
  clear hr
  have HB14 := hid' (hb2.trans H4.out.bel)
  have HG9 := hid' (And.intro H4.out.rng H4.out.hi)
  obtain ⟨g9, hg9⟩ : ∃ g, w2.heap.size = g := ⟨_, rfl⟩
  rw [hg9] at HG9 ⊢
  clear H4 hg9 hb2
  have HSS : Hid (∀ u, Bel w4 u → u.rangeAt g9 0 (styleL r) ∧ u.cell? ⟨w.heap.size, 0, none⟩ = some (.slice (some ⟨b, o, none⟩) T.length c) ∧ u.cell? ⟨w.heap.size + 1, 0, none⟩ = some (.int .i64 m1) ∧ u.cell? ⟨w.heap.size + 1, 1, none⟩ = some (.int .i64 n1) ∧ u.cell? ⟨w.heap.size + 1 + 1, 0, none⟩ = some (.int .i64 m2) ∧ u.cell? ⟨w.heap.size + 1 + 1, 1, none⟩ = some (.int .i64 n2)) :=
    hid' (fun u hu => ⟨range_bel HG9.out.1 hu HG9.out.2, HK.out _ (HB14.out.trans hu)⟩)
  have h60 := styleL_length r
  obtain ⟨LP, hLP⟩ : ∃ LP : Value → List Value, LP = fun v => wideL ((j : Int) + 1) r (tailP m1 n1 m2 n2 (isRow r) 0 0 0 0 0 0 0 0 v) := ⟨_, rfl⟩
  have HLP : Hid (∀ v, LP v = wideL ((j : Int) + 1) r (tailP m1 n1 m2 n2 (isRow r) 0 0 0 0 0 0 0 0 v)) := hid' (fun v => by rw [hLP])
  have hbd : ∀ (u : World) (B : Option Addr) (l d : Nat), (Instr.build 54 #[(0, .int .i64 ((j : Int) + 1)), (1, .agg (styleL r).toArray), (2, spaceV m1 n1), (3, spaceV m2 n2), (4, .bool (isRow r)), (9, .slice B l d)]).run Tryz.prog u = .ok (.agg (LP (.slice B l d)).toArray) u := fun u B l d => by rw [HLP.out]; exact run_buildP u _ r m1 n1 m2 n2 (isRow r) B l d
  have hszP : (Tryz.prog.info? 54).map (·.size) = some 75 := by kernel_rfl
  have HLPL : Hid (∀ v, (LP v).length = 75) := hid' (fun v => by rw [HLP.out, wideL_length]; rfl)
  have HLPO : Hid (∀ B l d, ∀ u ∈ LP (.slice B l d), u.oneCell' = true) := hid' (fun B l d => by rw [HLP.out]; exact wideL_one _ _ (tailP_one _ _ _ _ _ _ _ _ _ _ _ _ _ _ _ _))
  clear hLP
  go_wp2_with fail
  have hd0 : Bel w4 w4.drew := (Bel.refl w4).drew
  refine wp_join [10, 16, 17, 18, 19, 20, 21, 22, 23, 24, 25, 26] (fun y u => ∃ g B l d, y 10 = .pointer (some ⟨g, 0, none⟩) ∧ Hid (WB w4 u 54 75 g (LP (.slice B l d)))) ?_ ?_
  ·
    refine wp_region_held_drew (S := (fun u => Bel w4 u)) (by kernel_rfl) hd0 (fun _ => ?_)
    refine wpAnyH_take (i := 0) (v := .int .i64 ((j : Int) + 1)) getop0 (by kernel_rfl) (by kernel_rfl) (by kernel_rfl) (by rintro c a w ⟨h, _⟩; cases h) (Or.inl ⟨rfl, fun u _ => y_move rfl rfl⟩) (hd0) ?_
    simp only [Act.put, List.setIfInBounds_toArray, List.set_cons_zero, List.set_cons_succ]
    refine wpAnyH_take (i := 1) (v := (.agg (styleL r).toArray)) getop1 (by kernel_rfl) (by kernel_rfl) (by kernel_rfl) (by rintro c a w ⟨h, _⟩; cases h) (yieldsIf_load_mid (by rfl) 47 _ rfl (g9) 0 rfl (styleL r) _ (fun u hu => (HSS.out u hu).1) Tryz.underlying47 rfl (by rw [h60]; kernel_rfl)) (hd0) ?_
    simp only [Act.put, List.setIfInBounds_toArray, List.set_cons_zero, List.set_cons_succ]
    refine wpAnyH_take (i := 2) (v := (spaceV m1 n1)) getop2 (by kernel_rfl) (by kernel_rfl) (by kernel_rfl) (by rintro c a w ⟨h, _⟩; cases h) (yieldsIf_load_mid (by rfl) 28 _ rfl (w.heap.size + 1) 0 rfl [.int .i64 m1, .int .i64 n1] _ (fun u hu => range_two ((HSS.out u hu).2.2.1) ((HSS.out u hu).2.2.2.1)) Tryz.underlying28 rfl (by kernel_rfl)) (hd0) ?_
    simp only [Act.put, List.setIfInBounds_toArray, List.set_cons_zero, List.set_cons_succ]
    refine wpAnyH_take (i := 3) (v := (spaceV m2 n2)) getop3 (by kernel_rfl) (by kernel_rfl) (by kernel_rfl) (by rintro c a w ⟨h, _⟩; cases h) (yieldsIf_load_mid (by rfl) 28 _ rfl (w.heap.size + 1 + 1) 0 rfl [.int .i64 m2, .int .i64 n2] _ (fun u hu => range_two ((HSS.out u hu).2.2.2.2.1) ((HSS.out u hu).2.2.2.2.2)) Tryz.underlying28 rfl (by kernel_rfl)) (hd0) ?_
    simp only [Act.put, List.setIfInBounds_toArray, List.set_cons_zero, List.set_cons_succ]
    refine wpAnyH_take (i := 4) (v := (.agg (styleL r).toArray)) getop4 (by kernel_rfl) (by kernel_rfl) (by kernel_rfl) (by rintro c a w ⟨h, _⟩; cases h) (yieldsIf_load_mid (by rfl) 47 _ rfl (g9) 0 rfl (styleL r) _ (fun u hu => (HSS.out u hu).1) Tryz.underlying47 rfl (by rw [h60]; kernel_rfl)) (hd0) ?_
    simp only [Act.put, List.setIfInBounds_toArray, List.set_cons_zero, List.set_cons_succ]
    refine wpAnyH_take (i := 6) (v := .pointer (some ⟨w.heap.size, 0, none⟩)) getop6 (by kernel_rfl) (by kernel_rfl) (by kernel_rfl) (by rintro c a w ⟨h, _⟩; cases h) (Or.inl ⟨rfl, fun u _ => by go_simp⟩) (hd0) ?_
    simp only [Act.put, List.setIfInBounds_toArray, List.set_cons_zero, List.set_cons_succ]
    refine wpAnyH_take (i := 7) (v := (.agg #[.slice (some ⟨b, o, none⟩) T.length c])) getop7 (by kernel_rfl) (by kernel_rfl) (by kernel_rfl) (by rintro c a w ⟨h, _⟩; cases h) (yieldsIf_load_mid (by rfl) 32 _ rfl (w.heap.size) 0 rfl [.slice (some ⟨b, o, none⟩) T.length c] _ (fun u hu => range_one ((HSS.out u hu).2.1)) Tryz.underlying32 rfl (by kernel_rfl)) (hd0) ?_
    simp only [Act.put, List.setIfInBounds_toArray, List.set_cons_zero, List.set_cons_succ]
    refine wpAnyH_take (i := 8) (v := .int .i64 ((j : Int) + 1)) getop8 (by kernel_rfl) (by kernel_rfl) (by kernel_rfl) (by rintro c a w ⟨h, _⟩; cases h) (Or.inl ⟨rfl, fun u _ => y_move rfl rfl⟩) (hd0) ?_
    simp only [Act.put, List.setIfInBounds_toArray, List.set_cons_zero, List.set_cons_succ]
    refine wpAnyH_ready (rs := [5, 11]) (by kernel_rfl) (by simp) ?_
    refine AllReadyH.cons getop5 (fun K hK => ?_) ?_
    ·
      rw [if_pos (by rfl)]
      refine op_callN (xs := #[.tmp 20]) (vs := #[(.agg (styleL r).toArray)]) rfl rfl (run_callFunc Tryz.func36 (by kernel_rfl) rfl) ((iIsRow_c r _).mono ?_)
      rintro e u1 ⟨rfl, g1⟩
      refine ⟨_, rfl, hK.out _ _ ((hd0).trans g1) (fun _ => ?_)⟩
      clear hK K
      simp only [Act.put, List.setIfInBounds_toArray, List.set_cons_zero, List.set_cons_succ]
      refine wpAnyH_ready (rs := [9, 11]) (by kernel_rfl) (by simp) ?_
      refine AllReadyH.cons getop9 (fun K hK => ?_) ?_
      ·
        rw [if_pos (by rfl)]
        refine op_callN (xs := #[.tmp 23, .tmp 24]) (vs := #[.agg #[.slice (some ⟨b, o, none⟩) T.length c], .int .i64 ((j : Int) + 1)]) rfl rfl (run_callFunc Tryz.func37 (by kernel_rfl) rfl) ((iFlowKids_r _ c T j _ (h.keep (HB1.out.trans (HB14.out.trans ((hd0).trans g1)))) HOK.out hj).mono ?_)
        rintro e u2 ⟨v2, rfl, ho2, g2⟩
        obtain ⟨B2, d2, rfl, -, -, -, -⟩ := own_openC ho2
        clear ho2
        refine ⟨_, rfl, hK.out _ _ (((hd0).trans g1).trans g2) (fun _ => ?_)⟩
        clear hK K
        simp only [Act.put, List.setIfInBounds_toArray, List.set_cons_zero, List.set_cons_succ]
        refine wpAnyH_take (i := 10) (v := .agg (LP (.slice B2 (flowKids T ((j : Int) + 1)).length d2)).toArray) getop10 (by kernel_rfl) (by kernel_rfl) (by kernel_rfl) (by rintro c a w ⟨h, _⟩; cases h) (Or.inl ⟨rfl, fun u _ => y_build (vs := #[(0, .int .i64 ((j : Int) + 1)), (1, (.agg (styleL r).toArray)), (2, (spaceV m1 n1)), (3, (spaceV m2 n2)), (4, .bool (isRow r)), (9, .slice B2 (flowKids T ((j : Int) + 1)).length d2)]) rfl rfl (hbd u B2 _ d2)⟩) (((hd0).trans g1).trans g2) ?_
        simp only [Act.put, List.setIfInBounds_toArray, List.set_cons_zero, List.set_cons_succ]
        refine wpAnyH_ready (rs := [11]) (by kernel_rfl) (by simp) ?_
        refine AllReadyH.cons getop11 (fun K hK => ?_) ?_
        ·
          rw [if_pos (by rfl)]
          refine op_allocW HIP.out rfl ?_
          refine hK.out _ _ ((((hd0).trans g1).trans g2).alloc _) (fun _ => ?_)
          clear hK K
          simp only [Act.put, List.setIfInBounds_toArray, List.set_cons_zero, List.set_cons_succ]
          refine wpAnyH_ready (rs := [12]) (by kernel_rfl) (by simp) ?_
          refine AllReadyH.cons getop12 (fun K hK => ?_) ?_
          ·
            rw [if_pos (by rfl)]
            have HWF := (WB.new (ty := 54) (((hd0).trans g1).trans g2) HZL.out).keep (Bel.refl (u2.alloc (.cells zL.toArray 54)))
            have HJ := HWF.whole (HLPL.out (.slice B2 (flowKids T ((j : Int) + 1)).length d2))
            refine op_storeW hszP rfl rfl rfl (HLPL.out (.slice B2 (flowKids T ((j : Int) + 1)).length d2)) (HLPO.out _ _ _) (HWF.there (o := 0) (m := 75) (by omega)) ?_
            refine hK.out _ _ (HJ.bel) (fun _ => ?_)
            clear hK K
            simp only [Act.put, List.setIfInBounds_toArray, List.set_cons_zero, List.set_cons_succ]
            exact wpAnyH_done (by kernel_rfl) (join_here (by kernel_rfl) ⟨_, _, _, _, rfl, hid' HJ⟩) _
          exact AllReadyH.nil
        exact AllReadyH.nil
      refine AllReadyH.cons getop11 (fun K hK => ?_) ?_
      ·
        rw [if_pos (by rfl)]
        refine op_allocW HIP.out rfl ?_
        refine hK.out _ _ (((hd0).trans g1).alloc _) (fun _ => ?_)
        clear hK K
        simp only [Act.put, List.setIfInBounds_toArray, List.set_cons_zero, List.set_cons_succ]
        refine wpAnyH_ready (rs := [9]) (by kernel_rfl) (by simp) ?_
        refine AllReadyH.cons getop9 (fun K hK => ?_) ?_
        ·
          rw [if_pos (by rfl)]
          refine op_callN (xs := #[.tmp 23, .tmp 24]) (vs := #[.agg #[.slice (some ⟨b, o, none⟩) T.length c], .int .i64 ((j : Int) + 1)]) rfl rfl (run_callFunc Tryz.func37 (by kernel_rfl) rfl) ((iFlowKids_r _ c T j _ (h.keep (HB1.out.trans (HB14.out.trans (((hd0).trans g1).alloc _)))) HOK.out hj).mono ?_)
          rintro e u3 ⟨v3, rfl, ho3, g3⟩
          obtain ⟨B3, d3, rfl, -, -, -, -⟩ := own_openC ho3
          clear ho3
          refine ⟨_, rfl, hK.out _ _ ((((hd0).trans g1).alloc _).trans g3) (fun _ => ?_)⟩
          clear hK K
          simp only [Act.put, List.setIfInBounds_toArray, List.set_cons_zero, List.set_cons_succ]
          refine wpAnyH_take (i := 10) (v := .agg (LP (.slice B3 (flowKids T ((j : Int) + 1)).length d3)).toArray) getop10 (by kernel_rfl) (by kernel_rfl) (by kernel_rfl) (by rintro c a w ⟨h, _⟩; cases h) (Or.inl ⟨rfl, fun u _ => y_build (vs := #[(0, .int .i64 ((j : Int) + 1)), (1, (.agg (styleL r).toArray)), (2, (spaceV m1 n1)), (3, (spaceV m2 n2)), (4, .bool (isRow r)), (9, .slice B3 (flowKids T ((j : Int) + 1)).length d3)]) rfl rfl (hbd u B3 _ d3)⟩) ((((hd0).trans g1).alloc _).trans g3) ?_
          simp only [Act.put, List.setIfInBounds_toArray, List.set_cons_zero, List.set_cons_succ]
          refine wpAnyH_ready (rs := [12]) (by kernel_rfl) (by simp) ?_
          refine AllReadyH.cons getop12 (fun K hK => ?_) ?_
          ·
            rw [if_pos (by rfl)]
            have HWF := (WB.new (ty := 54) ((hd0).trans g1) HZL.out).keep ((Bel.refl (u1.alloc (.cells zL.toArray 54))).trans g3)
            have HJ := HWF.whole (HLPL.out (.slice B3 (flowKids T ((j : Int) + 1)).length d3))
            refine op_storeW hszP rfl rfl rfl (HLPL.out (.slice B3 (flowKids T ((j : Int) + 1)).length d3)) (HLPO.out _ _ _) (HWF.there (o := 0) (m := 75) (by omega)) ?_
            refine hK.out _ _ (HJ.bel) (fun _ => ?_)
            clear hK K
            simp only [Act.put, List.setIfInBounds_toArray, List.set_cons_zero, List.set_cons_succ]
            exact wpAnyH_done (by kernel_rfl) (join_here (by kernel_rfl) ⟨_, _, _, _, rfl, hid' HJ⟩) _
          exact AllReadyH.nil
        exact AllReadyH.nil
      exact AllReadyH.nil
    refine AllReadyH.cons getop11 (fun K hK => ?_) ?_
    ·
      rw [if_pos (by rfl)]
      refine op_allocW HIP.out rfl ?_
      refine hK.out _ _ ((hd0).alloc _) (fun _ => ?_)
      clear hK K
      simp only [Act.put, List.setIfInBounds_toArray, List.set_cons_zero, List.set_cons_succ]
      refine wpAnyH_ready (rs := [5]) (by kernel_rfl) (by simp) ?_
      refine AllReadyH.cons getop5 (fun K hK => ?_) ?_
      ·
        rw [if_pos (by rfl)]
        refine op_callN (xs := #[.tmp 20]) (vs := #[(.agg (styleL r).toArray)]) rfl rfl (run_callFunc Tryz.func36 (by kernel_rfl) rfl) ((iIsRow_c r _).mono ?_)
        rintro e u4 ⟨rfl, g4⟩
        refine ⟨_, rfl, hK.out _ _ (((hd0).alloc _).trans g4) (fun _ => ?_)⟩
        clear hK K
        simp only [Act.put, List.setIfInBounds_toArray, List.set_cons_zero, List.set_cons_succ]
        refine wpAnyH_ready (rs := [9]) (by kernel_rfl) (by simp) ?_
        refine AllReadyH.cons getop9 (fun K hK => ?_) ?_
        ·
          rw [if_pos (by rfl)]
          refine op_callN (xs := #[.tmp 23, .tmp 24]) (vs := #[.agg #[.slice (some ⟨b, o, none⟩) T.length c], .int .i64 ((j : Int) + 1)]) rfl rfl (run_callFunc Tryz.func37 (by kernel_rfl) rfl) ((iFlowKids_r _ c T j _ (h.keep (HB1.out.trans (HB14.out.trans (((hd0).alloc _).trans g4)))) HOK.out hj).mono ?_)
          rintro e u5 ⟨v5, rfl, ho5, g5⟩
          obtain ⟨B5, d5, rfl, -, -, -, -⟩ := own_openC ho5
          clear ho5
          refine ⟨_, rfl, hK.out _ _ ((((hd0).alloc _).trans g4).trans g5) (fun _ => ?_)⟩
          clear hK K
          simp only [Act.put, List.setIfInBounds_toArray, List.set_cons_zero, List.set_cons_succ]
          refine wpAnyH_take (i := 10) (v := .agg (LP (.slice B5 (flowKids T ((j : Int) + 1)).length d5)).toArray) getop10 (by kernel_rfl) (by kernel_rfl) (by kernel_rfl) (by rintro c a w ⟨h, _⟩; cases h) (Or.inl ⟨rfl, fun u _ => y_build (vs := #[(0, .int .i64 ((j : Int) + 1)), (1, (.agg (styleL r).toArray)), (2, (spaceV m1 n1)), (3, (spaceV m2 n2)), (4, .bool (isRow r)), (9, .slice B5 (flowKids T ((j : Int) + 1)).length d5)]) rfl rfl (hbd u B5 _ d5)⟩) ((((hd0).alloc _).trans g4).trans g5) ?_
          simp only [Act.put, List.setIfInBounds_toArray, List.set_cons_zero, List.set_cons_succ]
          refine wpAnyH_ready (rs := [12]) (by kernel_rfl) (by simp) ?_
          refine AllReadyH.cons getop12 (fun K hK => ?_) ?_
          ·
            rw [if_pos (by rfl)]
            have HWF := (WB.new (ty := 54) (hd0) HZL.out).keep (((Bel.refl (w4.drew.alloc (.cells zL.toArray 54))).trans g4).trans g5)
            have HJ := HWF.whole (HLPL.out (.slice B5 (flowKids T ((j : Int) + 1)).length d5))
            refine op_storeW hszP rfl rfl rfl (HLPL.out (.slice B5 (flowKids T ((j : Int) + 1)).length d5)) (HLPO.out _ _ _) (HWF.there (o := 0) (m := 75) (by omega)) ?_
            refine hK.out _ _ (HJ.bel) (fun _ => ?_)
            clear hK K
            simp only [Act.put, List.setIfInBounds_toArray, List.set_cons_zero, List.set_cons_succ]
            exact wpAnyH_done (by kernel_rfl) (join_here (by kernel_rfl) ⟨_, _, _, _, rfl, hid' HJ⟩) _
          exact AllReadyH.nil
        exact AllReadyH.nil
      exact AllReadyH.nil
    exact AllReadyH.nil
  rintro y w5 ⟨g, B, l, d, hy, HP⟩
  simp only [setAll, List.foldl_cons, List.foldl_nil, List.setIfInBounds_toArray, List.set_cons_zero, List.set_cons_succ]
  rw [hy]
  clear hy hd0 hbd
  go_wp2_with fail
  have hd0 : Bel w4 w5.drew := HP.out.bel.drew
  refine wp_join [27, 28, 29, 30, 31, 32, 33, 34, 35, 36, 37, 38] (fun y u => Hid (WB w4 u 54 75 g (setRun (setRun (LP (.slice B l d)) 66 [.int .i64 m1, .int .i64 (innerOf m1 n1 (wideE r))]) 68 [.int .i64 m2, .int .i64 (innerOf m2 n2 (highE r))]))) ?_ ?_
  ·
    refine wp_region_held_drew (S := (fun u => Bel w4 u)) (by kernel_rfl) hd0 (fun _ => ?_)
    refine wpAnyH_take (i := 0) (v := (spaceV m1 n1)) getop0 (by kernel_rfl) (by kernel_rfl) (by kernel_rfl) (by rintro c a w ⟨h, _⟩; cases h) (yieldsIf_load_mid (by rfl) 28 _ rfl (w.heap.size + 1) 0 rfl [.int .i64 m1, .int .i64 n1] _ (fun u hu => range_two ((HSS.out u hu).2.2.1) ((HSS.out u hu).2.2.2.1)) Tryz.underlying28 rfl (by kernel_rfl)) (hd0) ?_
    simp only [Act.put, List.setIfInBounds_toArray, List.set_cons_zero, List.set_cons_succ]
    refine wpAnyH_take (i := 1) (v := (.agg (styleL r).toArray)) getop1 (by kernel_rfl) (by kernel_rfl) (by kernel_rfl) (by rintro c a w ⟨h, _⟩; cases h) (yieldsIf_load_mid (by rfl) 47 _ rfl (g9) 0 rfl (styleL r) _ (fun u hu => (HSS.out u hu).1) Tryz.underlying47 rfl (by rw [h60]; kernel_rfl)) (hd0) ?_
    simp only [Act.put, List.setIfInBounds_toArray, List.set_cons_zero, List.set_cons_succ]
    refine wpAnyH_take (i := 5) (v := (spaceV m2 n2)) getop5 (by kernel_rfl) (by kernel_rfl) (by kernel_rfl) (by rintro c a w ⟨h, _⟩; cases h) (yieldsIf_load_mid (by rfl) 28 _ rfl (w.heap.size + 1 + 1) 0 rfl [.int .i64 m2, .int .i64 n2] _ (fun u hu => range_two ((HSS.out u hu).2.2.2.2.1) ((HSS.out u hu).2.2.2.2.2)) Tryz.underlying28 rfl (by kernel_rfl)) (hd0) ?_
    simp only [Act.put, List.setIfInBounds_toArray, List.set_cons_zero, List.set_cons_succ]
    refine wpAnyH_take (i := 6) (v := (.agg (styleL r).toArray)) getop6 (by kernel_rfl) (by kernel_rfl) (by kernel_rfl) (by rintro c a w ⟨h, _⟩; cases h) (yieldsIf_load_mid (by rfl) 47 _ rfl (g9) 0 rfl (styleL r) _ (fun u hu => (HSS.out u hu).1) Tryz.underlying47 rfl (by rw [h60]; kernel_rfl)) (hd0) ?_
    simp only [Act.put, List.setIfInBounds_toArray, List.set_cons_zero, List.set_cons_succ]
    refine wpAnyH_ready (rs := [2]) (by kernel_rfl) (by simp) ?_
    refine AllReadyH.cons getop2 (fun K hK => ?_) ?_
    ·
      rw [if_pos (by rfl)]
      refine op_callN (xs := #[.tmp 28]) (vs := #[(.agg (styleL r).toArray)]) rfl rfl (run_callFunc Tryz.func40 (by kernel_rfl) rfl) ((iFrameOf_c r _).mono ?_)
      rintro e u1 ⟨rfl, g1⟩
      refine ⟨_, rfl, hK.out _ _ ((hd0).trans g1) (fun _ => ?_)⟩
      clear hK K
      simp only [Act.put, List.setIfInBounds_toArray, List.set_cons_zero, List.set_cons_succ]
      refine wpAnyH_ready (rs := [3]) (by kernel_rfl) (by simp) ?_
      refine AllReadyH.cons getop3 (fun K hK => ?_) ?_
      ·
        rw [if_pos (by rfl)]
        refine op_callN (xs := #[.tmp 29]) (vs := #[edgeV (frameE r 0) (frameE r 1) (frameE r 2) (frameE r 3)]) rfl rfl (run_callFunc Tryz.func39 (by kernel_rfl) rfl) ((iWideOf_c _ _ _ _ _).mono ?_)
        rintro e u2 ⟨rfl, g2⟩
        refine ⟨_, rfl, hK.out _ _ (((hd0).trans g1).trans g2) (fun _ => ?_)⟩
        clear hK K
        simp only [Act.put, List.setIfInBounds_toArray, List.set_cons_zero, List.set_cons_succ]
        refine wpAnyH_ready (rs := [4]) (by kernel_rfl) (by simp) ?_
        refine AllReadyH.cons getop4 (fun K hK => ?_) ?_
        ·
          rw [if_pos (by rfl)]
          refine op_callN (xs := #[.tmp 27, .tmp 30]) (vs := #[(spaceV m1 n1), .int .i64 (wideE r)]) rfl rfl (run_callFunc Tryz.func38 (by kernel_rfl) rfl) ((iInnerOf_c _ _ _ _).mono ?_)
          rintro e u3 ⟨rfl, g3⟩
          refine ⟨_, rfl, hK.out _ _ ((((hd0).trans g1).trans g2).trans g3) (fun _ => ?_)⟩
          clear hK K
          simp only [Act.put, List.setIfInBounds_toArray, List.set_cons_zero, List.set_cons_succ]
          refine wpAnyH_take (i := 10) (v := .pointer (some ⟨g, 66, none⟩)) getop10 (by kernel_rfl) (by kernel_rfl) (by kernel_rfl) (by rintro c a w ⟨h, _⟩; cases h) (Or.inl ⟨rfl, fun u _ => by go_simp⟩) ((((hd0).trans g1).trans g2).trans g3) ?_
          simp only [Act.put, List.setIfInBounds_toArray, List.set_cons_zero, List.set_cons_succ]
          refine wpAnyH_ready (rs := [7]) (by kernel_rfl) (by simp) ?_
          refine AllReadyH.cons getop7 (fun K hK => ?_) ?_
          ·
            rw [if_pos (by rfl)]
            refine op_callN (xs := #[.tmp 33]) (vs := #[(.agg (styleL r).toArray)]) rfl rfl (run_callFunc Tryz.func40 (by kernel_rfl) rfl) ((iFrameOf_c r _).mono ?_)
            rintro e u4 ⟨rfl, g4⟩
            refine ⟨_, rfl, hK.out _ _ (((((hd0).trans g1).trans g2).trans g3).trans g4) (fun _ => ?_)⟩
            clear hK K
            simp only [Act.put, List.setIfInBounds_toArray, List.set_cons_zero, List.set_cons_succ]
            refine wpAnyH_ready (rs := [8]) (by kernel_rfl) (by simp) ?_
            refine AllReadyH.cons getop8 (fun K hK => ?_) ?_
            ·
              rw [if_pos (by rfl)]
              refine op_callN (xs := #[.tmp 34]) (vs := #[edgeV (frameE r 0) (frameE r 1) (frameE r 2) (frameE r 3)]) rfl rfl (run_callFunc Tryz.func41 (by kernel_rfl) rfl) ((iHighOf_c _ _ _ _ _).mono ?_)
              rintro e u5 ⟨rfl, g5⟩
              refine ⟨_, rfl, hK.out _ _ ((((((hd0).trans g1).trans g2).trans g3).trans g4).trans g5) (fun _ => ?_)⟩
              clear hK K
              simp only [Act.put, List.setIfInBounds_toArray, List.set_cons_zero, List.set_cons_succ]
              refine wpAnyH_ready (rs := [9]) (by kernel_rfl) (by simp) ?_
              refine AllReadyH.cons getop9 (fun K hK => ?_) ?_
              ·
                rw [if_pos (by rfl)]
                refine op_callN (xs := #[.tmp 32, .tmp 35]) (vs := #[(spaceV m2 n2), .int .i64 (highE r)]) rfl rfl (run_callFunc Tryz.func38 (by kernel_rfl) rfl) ((iInnerOf_c _ _ _ _).mono ?_)
                rintro e u6 ⟨rfl, g6⟩
                refine ⟨_, rfl, hK.out _ _ (((((((hd0).trans g1).trans g2).trans g3).trans g4).trans g5).trans g6) (fun _ => ?_)⟩
                clear hK K
                simp only [Act.put, List.setIfInBounds_toArray, List.set_cons_zero, List.set_cons_succ]
                refine wpAnyH_ready (rs := [11]) (by kernel_rfl) (by simp) ?_
                refine AllReadyH.cons getop11 (fun K hK => ?_) ?_
                ·
                  rw [if_pos (by rfl)]
                  have HQ0 := (HP.out.keep ((((((((Bel.refl w5).drew).trans g1).trans g2).trans g3).trans g4).trans g5).trans g6)).put 66 [.int .i64 m1, .int .i64 (innerOf m1 n1 (wideE r))]
                  refine op_storeM [.int .i64 m1, .int .i64 (innerOf m1 n1 (wideE r))] (by kernel_rfl) rfl rfl rfl (by intro u hu; simp at hu; rcases hu with rfl | rfl <;> rfl) ((HP.out.keep ((((((((Bel.refl w5).drew).trans g1).trans g2).trans g3).trans g4).trans g5).trans g6)).there (o := 66) (m := 2) (by omega)) ?_
                  refine hK.out _ _ (HQ0.bel) (fun _ => ?_)
                  clear hK K
                  simp only [Act.put, List.setIfInBounds_toArray, List.set_cons_zero, List.set_cons_succ]
                  refine wpAnyH_take (i := 12) (v := .pointer (some ⟨g, 68, none⟩)) getop12 (by kernel_rfl) (by kernel_rfl) (by kernel_rfl) (by rintro c a w ⟨h, _⟩; cases h) (Or.inl ⟨rfl, fun u _ => by go_simp⟩) (HQ0.bel) ?_
                  simp only [Act.put, List.setIfInBounds_toArray, List.set_cons_zero, List.set_cons_succ]
                  refine wpAnyH_ready (rs := [13]) (by kernel_rfl) (by simp) ?_
                  refine AllReadyH.cons getop13 (fun K hK => ?_) ?_
                  ·
                    rw [if_pos (by rfl)]
                    have HQ1 := HQ0.put 68 [.int .i64 m2, .int .i64 (innerOf m2 n2 (highE r))]
                    refine op_storeM [.int .i64 m2, .int .i64 (innerOf m2 n2 (highE r))] (by kernel_rfl) rfl rfl rfl (by intro u hu; simp at hu; rcases hu with rfl | rfl <;> rfl) (HQ0.there (o := 68) (m := 2) (by omega)) ?_
                    refine hK.out _ _ (HQ1.bel) (fun _ => ?_)
                    clear hK K
                    simp only [Act.put, List.setIfInBounds_toArray, List.set_cons_zero, List.set_cons_succ]
                    exact wpAnyH_done (by kernel_rfl) (join_here (by kernel_rfl) (hid' HQ1)) _
                  exact AllReadyH.nil
                exact AllReadyH.nil
              exact AllReadyH.nil
            exact AllReadyH.nil
          exact AllReadyH.nil
        exact AllReadyH.nil
      exact AllReadyH.nil
    exact AllReadyH.nil
  rintro y w6 HQ
  simp only [setAll, List.foldl_cons, List.foldl_nil, List.setIfInBounds_toArray, List.set_cons_zero, List.set_cons_succ]
  clear hd0 HP
  obtain ⟨x1, hx1⟩ : ∃ x, innerOf m1 n1 (wideE r) = x := ⟨_, rfl⟩
  obtain ⟨x2, hx2⟩ : ∃ x, innerOf m2 n2 (highE r) = x := ⟨_, rfl⟩
  rw [hx1, hx2] at HQ
  have HQ2 : Hid (WB w4 w6 54 75 g (wideL ((j : Int) + 1) r (tailP m1 n1 m2 n2 (isRow r) m1 x1 m2 x2 0 0 0 0 (.slice B l d)))) := hid' (by
    have h0 := HQ.out
    have e1 : setRun (LP (.slice B l d)) 66 [.int .i64 m1, .int .i64 x1] = wideL ((j : Int) + 1) r (tailP m1 n1 m2 n2 (isRow r) m1 x1 0 0 0 0 0 0 (.slice B l d)) := by rw [HLP.out]; exact wideL_set _ _ _ _ 5 (by simp [tailP])
    have e2 : setRun (wideL ((j : Int) + 1) r (tailP m1 n1 m2 n2 (isRow r) m1 x1 0 0 0 0 0 0 (.slice B l d))) 68 [.int .i64 m2, .int .i64 x2] = wideL ((j : Int) + 1) r (tailP m1 n1 m2 n2 (isRow r) m1 x1 m2 x2 0 0 0 0 (.slice B l d)) := wideL_set _ _ _ _ 7 (by simp [tailP])
    rw [e1, e2] at h0
    exact h0)
  clear HQ
  have HRS : Hid (placeOf T j m1 n1 m2 n2 (.slice B l d) = wideL ((j : Int) + 1) r (tailP m1 n1 m2 n2 (isRow r) m1 x1 m2 x2 (mainM (isRow r) m1 m2) (mainM (isRow r) x1 x2) (mainM (isRow r) m2 m1) (mainM (isRow r) x2 x1) (.slice B l d))) := hid' (by rw [← hx1, ← hx2]; unfold placeOf; rw [HRR.out])
  have HF : Hid (WB w4 ((((w6.setCell ⟨g, 70, none⟩ (.int .i64 m2)).setCell ⟨g, 71, none⟩ (.int .i64 x2)).setCell ⟨g, 72, none⟩ (.int .i64 m1)).setCell ⟨g, 73, none⟩ (.int .i64 x1)) 54 75 g (wideL ((j : Int) + 1) r (tailP m1 n1 m2 n2 (isRow r) m1 x1 m2 x2 m2 x2 m1 x1 (.slice B l d)))) := hid' (by
    have h0 := (HQ2.out.put 70 [.int .i64 m2, .int .i64 x2]).put 72 [.int .i64 m1, .int .i64 x1]
    have e1 : setRun (wideL ((j : Int) + 1) r (tailP m1 n1 m2 n2 (isRow r) m1 x1 m2 x2 0 0 0 0 (.slice B l d))) 70 [.int .i64 m2, .int .i64 x2] = wideL ((j : Int) + 1) r (tailP m1 n1 m2 n2 (isRow r) m1 x1 m2 x2 m2 x2 0 0 (.slice B l d)) := wideL_set _ _ _ _ 9 (by simp [tailP])
    have e2 : setRun (wideL ((j : Int) + 1) r (tailP m1 n1 m2 n2 (isRow r) m1 x1 m2 x2 m2 x2 0 0 (.slice B l d))) 72 [.int .i64 m1, .int .i64 x1] = wideL ((j : Int) + 1) r (tailP m1 n1 m2 n2 (isRow r) m1 x1 m2 x2 m2 x2 m1 x1 (.slice B l d)) := wideL_set _ _ _ _ 11 (by simp [tailP])
    rw [e1, e2] at h0
    simp only [World.setCells, Nat.reduceAdd] at h0
    exact h0)
  have HF2 : Hid (WB w4 ((((((((w6.setCell ⟨g, 70, none⟩ (.int .i64 m2)).setCell ⟨g, 71, none⟩ (.int .i64 x2)).setCell ⟨g, 72, none⟩ (.int .i64 m1)).setCell ⟨g, 73, none⟩ (.int .i64 x1)).setCell ⟨g, 70, none⟩ (.int .i64 m1)).setCell ⟨g, 71, none⟩ (.int .i64 x1)).setCell ⟨g, 72, none⟩ (.int .i64 m2)).setCell ⟨g, 73, none⟩ (.int .i64 x2)) 54 75 g (wideL ((j : Int) + 1) r (tailP m1 n1 m2 n2 (isRow r) m1 x1 m2 x2 m1 x1 m2 x2 (.slice B l d)))) := hid' (by
    have h0 := (HF.out.put 70 [.int .i64 m1, .int .i64 x1]).put 72 [.int .i64 m2, .int .i64 x2]
    have e1 : setRun (wideL ((j : Int) + 1) r (tailP m1 n1 m2 n2 (isRow r) m1 x1 m2 x2 m2 x2 m1 x1 (.slice B l d))) 70 [.int .i64 m1, .int .i64 x1] = wideL ((j : Int) + 1) r (tailP m1 n1 m2 n2 (isRow r) m1 x1 m2 x2 m1 x1 m1 x1 (.slice B l d)) := wideL_set _ _ _ _ 9 (by simp [tailP])
    have e2 : setRun (wideL ((j : Int) + 1) r (tailP m1 n1 m2 n2 (isRow r) m1 x1 m2 x2 m1 x1 m1 x1 (.slice B l d))) 72 [.int .i64 m2, .int .i64 x2] = wideL ((j : Int) + 1) r (tailP m1 n1 m2 n2 (isRow r) m1 x1 m2 x2 m1 x1 m2 x2 (.slice B l d)) := wideL_set _ _ _ _ 11 (by simp [tailP])
    rw [e1, e2] at h0
    simp only [World.setCells, Nat.reduceAdd] at h0
    exact h0)
  have c65 := HQ2.out.cell ((wideL_get _ _ _ 4).trans rfl)
  have c66 := HQ2.out.cell ((wideL_get _ _ _ 5).trans rfl)
  have c67 := HQ2.out.cell ((wideL_get _ _ _ 6).trans rfl)
  have c68 := HQ2.out.cell ((wideL_get _ _ _ 7).trans rfl)
  have c69 := HQ2.out.cell ((wideL_get _ _ _ 8).trans rfl)
  have c70 := HQ2.out.cell ((wideL_get _ _ _ 9).trans rfl)
  have c71 := HQ2.out.cell ((wideL_get _ _ _ 10).trans rfl)
  have c72 := HQ2.out.cell ((wideL_get _ _ _ 11).trans rfl)
  have c73 := HQ2.out.cell ((wideL_get _ _ _ 12).trans rfl)
  have f70 := HQ2.out.free 70
  have f71 := HQ2.out.free 71
  have f72 := HQ2.out.free 72
  have f73 := HQ2.out.free 73
  clear hx1 hx2
  cases hrow : isRow r
  · have HP1 := HF
    have e65 := HP1.out.cell ((wideL_get _ _ _ 4).trans rfl)
    rw [hrow, show 61 + 4 = 65 from rfl] at e65
    have HE1 : Hid (placeOf T j m1 n1 m2 n2 (.slice B l d) = wideL ((j : Int) + 1) r (tailP m1 n1 m2 n2 false m1 x1 m2 x2 m2 x2 m1 x1 (.slice B l d))) := hid' (by rw [HRS.out, hrow]; simp only [mainM, if_true, Bool.false_eq_true, if_false])
    rw [hrow, ← HE1.out] at HP1
    have HPL : Hid ((placeOf T j m1 n1 m2 n2 (.slice B l d)).length = 75) := hid' HP1.out.len
    have HPO : Hid (∀ u ∈ placeOf T j m1 n1 m2 n2 (.slice B l d), u.oneCell' = true) := hid' (by rw [HRS.out]; exact wideL_one _ _ (tailP_one _ _ _ _ _ _ _ _ _ _ _ _ _ _ _ _))
    clear HE1
    obtain ⟨PO, hPO⟩ : ∃ PO, placeOf T j m1 n1 m2 n2 (.slice B l d) = PO := ⟨_, rfl⟩
    rw [hPO] at HP1 HPL HPO
    have HPOE := Lib.hid hPO
    rw [hrow] at c65
    clear hrow hPO
    have HTH := hid' ((HWR.out.keep (HB14.out.trans HP1.out.bel)).there (o := 0) (m := 75) (by omega))
    obtain ⟨W7, hW7⟩ : ∃ W7, ((((w6.setCell ⟨g, 70, none⟩ (.int .i64 m2)).setCell ⟨g, 71, none⟩ (.int .i64 x2)).setCell ⟨g, 72, none⟩ (.int .i64 m1)).setCell ⟨g, 73, none⟩ (.int .i64 x1)) = W7 := ⟨_, rfl⟩
    rw [hW7] at HP1 HTH e65
    go_wp2_with (first
      | ((with_reducible show wpList _ _ _ (Oper.mk _ (Op.load 54 _) _ _ _ _ :: _) _ _); (try rw [hW7]); go_loud (refine wpList_load_mid rfl 54 _ rfl g 0 rfl PO _ HP1.out.rng Tryz.underlying54 rfl (by rw [HPL.out]; kernel_rfl) ?_))
      | ((with_reducible show wpList _ _ _ (Oper.mk _ (Op.store 54 _ _) _ _ _ _ :: _) _ _); refine storeW (ty := 54) (N := 75) (L := PO) (by kernel_rfl) rfl _ _ rfl (w.heap.size + 1 + 1 + 1) (by rfl) (by rfl) HPL.out HPO.out HTH.out ?_; intro w9 H9))
    exact bodyPost_ret_by (results_cell_any Tryz.results19 _ _ (w.heap.size + 1 + 1 + 1) _ _ rfl H9.out.1 Tryz.underlying54 rfl (by rw [HPL.out]; kernel_rfl)) rfl ⟨B, l, d, by rw [HPOE.out], (HB1.out.trans (HB14.out.trans HP1.out.bel)).grown H9.out.2 (fun q e => by injection e with e; omega)⟩
  · have HP1 := HF2
    have e65 := HP1.out.cell ((wideL_get _ _ _ 4).trans rfl)
    rw [hrow, show 61 + 4 = 65 from rfl] at e65
    have HE1 : Hid (placeOf T j m1 n1 m2 n2 (.slice B l d) = wideL ((j : Int) + 1) r (tailP m1 n1 m2 n2 true m1 x1 m2 x2 m1 x1 m2 x2 (.slice B l d))) := hid' (by rw [HRS.out, hrow]; simp only [mainM, if_true, Bool.false_eq_true, if_false])
    rw [hrow, ← HE1.out] at HP1
    have HPL : Hid ((placeOf T j m1 n1 m2 n2 (.slice B l d)).length = 75) := hid' HP1.out.len
    have HPO : Hid (∀ u ∈ placeOf T j m1 n1 m2 n2 (.slice B l d), u.oneCell' = true) := hid' (by rw [HRS.out]; exact wideL_one _ _ (tailP_one _ _ _ _ _ _ _ _ _ _ _ _ _ _ _ _))
    clear HE1
    obtain ⟨PO, hPO⟩ : ∃ PO, placeOf T j m1 n1 m2 n2 (.slice B l d) = PO := ⟨_, rfl⟩
    rw [hPO] at HP1 HPL HPO
    have HPOE := Lib.hid hPO
    rw [hrow] at c65
    clear hrow hPO
    have HTH := hid' ((HWR.out.keep (HB14.out.trans HP1.out.bel)).there (o := 0) (m := 75) (by omega))
    obtain ⟨W7, hW7⟩ : ∃ W7, ((((((((w6.setCell ⟨g, 70, none⟩ (.int .i64 m2)).setCell ⟨g, 71, none⟩ (.int .i64 x2)).setCell ⟨g, 72, none⟩ (.int .i64 m1)).setCell ⟨g, 73, none⟩ (.int .i64 x1)).setCell ⟨g, 70, none⟩ (.int .i64 m1)).setCell ⟨g, 71, none⟩ (.int .i64 x1)).setCell ⟨g, 72, none⟩ (.int .i64 m2)).setCell ⟨g, 73, none⟩ (.int .i64 x2)) = W7 := ⟨_, rfl⟩
    rw [hW7] at HP1 HTH e65
    go_wp2_with (first
      | ((with_reducible show wpList _ _ _ (Oper.mk _ (Op.load 54 _) _ _ _ _ :: _) _ _); (try rw [hW7]); go_loud (refine wpList_load_mid rfl 54 _ rfl g 0 rfl PO _ HP1.out.rng Tryz.underlying54 rfl (by rw [HPL.out]; kernel_rfl) ?_))
      | ((with_reducible show wpList _ _ _ (Oper.mk _ (Op.store 54 _ _) _ _ _ _ :: _) _ _); refine storeW (ty := 54) (N := 75) (L := PO) (by kernel_rfl) rfl _ _ rfl (w.heap.size + 1 + 1 + 1) (by rfl) (by rfl) HPL.out HPO.out HTH.out ?_; intro w9 H9))
    exact bodyPost_ret_by (results_cell_any Tryz.results19 _ _ (w.heap.size + 1 + 1 + 1) _ _ rfl H9.out.1 Tryz.underlying54 rfl (by rw [HPL.out]; kernel_rfl)) rfl ⟨B, l, d, by rw [HPOE.out], (HB1.out.trans (HB14.out.trans HP1.out.bel)).grown H9.out.2 (fun q e => by injection e with e; omega)⟩
end Go.Proofs.YtkoljbndbomhdaaGreat
