/- DepthOf, IsUnder and what they call, both sides. -/
import Derived.Test.YtkoljbndbomhdaaGreatTreeO
namespace Go.Proofs.YtkoljbndbomhdaaGreat
open Go.RowKit Go.ChangeShapes Go.WideShapes
set_option linter.unusedVariables false
set_option linter.unusedSimpArgs false

abbrev treeV (A : Option Addr) (n c : Nat) : Value := .agg #[.slice A n c]
theorem wpList_field {P : Program} {w : World} {ops : Array Oper} {rest : List Oper} {op : Oper} {a : Act} {Q : Exit → Act → World → Prop} (hgd : op.guard = none) (ty : TypeId) (x : Operand) (i : Nat) (ho : op.op = .field ty x i) (u : Value) (hx : a.eval x = u) (v : Value)
    (hr : (Instr.field ty u i).run P w = .ok v w) (h : wpList P ops Q rest (a.put op.dst v) w) : wpList P ops Q (op :: rest) a w :=
  wpList_plain hgd fun _ hK => by
    unfold Oper.wp execOp
    simp only [ho, hx, Sem.run_bind, Sem.run_pure, Result.andThen_ok, hr]
    exact hK _ _ h
theorem gen_world {P : Program} {w : World} {ops : Array Oper} {rest : List Oper} {a : Act} {Q : Exit → Act → World → Prop} (h : ∀ w', Hid (w' = w) → wpList P ops Q rest a w') : wpList P ops Q rest a w := h w (hid' rfl)
theorem nodeL_get0 (x : NodeD) (K R : Value) : (nodeL x K R).toArray[0]? = some (.int .i64 x.up) := rfl
theorem nodeL_get1 (x : NodeD) (K R : Value) : (nodeL x K R).toArray[1]? = some K := rfl
theorem field_up (x : NodeD) (K R : Value) (w : World) : (Instr.field 79 (.agg (nodeL x K R).toArray) 0).run Tryz.prog w = .ok (.int .i64 x.up) w := by
  have hagg : (isAgg 3).run Tryz.prog w = .ok false w := by
    unfold isAgg
    rw [Sem.run_bind, run_underlying Tryz.underlying3 w]
    rfl
  have h0 := nodeL_get0 x K R
  obtain ⟨cs, hcs⟩ : ∃ cs, (nodeL x K R).toArray = cs := ⟨_, rfl⟩
  rw [hcs] at h0 ⊢
  unfold Instr.field
  rw [Sem.run_bind, run_underlying Tryz.underlying79 w]
  simp only [Result.andThen_ok]
  show (asAgg (.agg cs) >>= fun z => part 3 z 0).run Tryz.prog w = _
  simp [asAgg, part, Sem.run_bind, hagg, h0]
theorem field_kids (x : NodeD) (K R : Value) (w : World) : (Instr.field 79 (.agg (nodeL x K R).toArray) 1).run Tryz.prog w = .ok K w := by
  have hagg : (isAgg 48).run Tryz.prog w = .ok false w := by
    unfold isAgg
    rw [Sem.run_bind, run_underlying Tryz.underlying48 w]
    rfl
  have h0 := nodeL_get1 x K R
  obtain ⟨cs, hcs⟩ : ∃ cs, (nodeL x K R).toArray = cs := ⟨_, rfl⟩
  rw [hcs] at h0 ⊢
  unfold Instr.field
  rw [Sem.run_bind, run_underlying Tryz.underlying79 w]
  simp only [Result.andThen_ok]
  show (asAgg (.agg cs) >>= fun z => part 48 z 1).run Tryz.prog w = _
  simp [asAgg, part, Sem.run_bind, hagg, h0]

set_option maxRecDepth 100000 in
set_option maxHeartbeats 1000000 in
theorem iIsNode_c (A : Option Addr) (c : Nat) (T : List NodeD) (n : Int) (w : World) : Calls Tryz.prog 33 #[treeV A T.length c, .int .i64 n] w fun e w' => e = .returned (.bool (isNodeB T n)) ∧ Bel w w' := by
  go_enter Tryz.func33, Tryz.ntmps33
  go_wp2_with (go_at_call 58; refine (in_c _ _ _ _).mono ?_; rintro e w' ⟨rfl, rfl⟩)
  go_ret
  refine ⟨rfl, ?_⟩
  repeat (first | exact Bel.refl _ | assumption | refine Bel.alloc ?_ _ | refine Bel.drew ?_ | refine Bel.drewN ?_ _ | refine Bel.trans ?_ (by assumption) | refine Bel.setCell ?_ (by first | (simp; done) | (simp; omega) | (simp at *; omega)) _)
set_option maxRecDepth 100000 in
set_option maxHeartbeats 1000000 in
theorem sIsNode_c (A : Option Addr) (c : Nat) (T : List NodeD) (n : Int) (w : World) : Calls Tryz.prog 23 #[treeV A T.length c, .int .i64 n] w fun e w' => e = .returned (.bool (isNodeB T n)) ∧ Bel w w' := by
  go_enter Tryz.func23, Tryz.ntmps23
  go_wp2_with (go_at_call 46; refine (l01In_c _ _ _ _).mono ?_; rintro e w' ⟨rfl, rfl⟩)
  go_ret
  refine ⟨rfl, ?_⟩
  repeat (first | exact Bel.refl _ | assumption | refine Bel.alloc ?_ _ | refine Bel.drew ?_ | refine Bel.drewN ?_ _ | refine Bel.trans ?_ (by assumption) | refine Bel.setCell ?_ (by first | (simp; done) | (simp; omega) | (simp at *; omega)) _)
set_option maxRecDepth 100000 in
set_option maxHeartbeats 2000000 in
theorem iNode_c (A : Option Addr) (c : Nat) (T : List NodeD) (k : Nat) (w : World) (h : Nodes w A T) (hk : k < T.length) (hn : T.length ≤ 1048576) :
    Calls Tryz.prog 35 #[treeV A T.length c, .int .i64 ((k : Int) + 1)] w fun e w' => ∃ L, e = .returned (.agg L.toArray) ∧ NodeAt w' (node_ T k) L ∧ Bel w w' := by
  obtain ⟨b, o, rfl, hbl, hR⟩ := h k hk
  obtain ⟨L, hL, hrg⟩ := hR k hk
  have hL' := hL
  obtain ⟨K, ck, R, cr, rfl, -⟩ := hL
  have h64 : (nodeL (node_ T k) (.slice K (node_ T k).kids.length ck) (.slice R (node_ T k).rules.length cr)).length = 64 := nodeL_length _ _ _
  have HT := hid' (hid' (show ((w.alloc (.cells #[.slice (some ⟨b, o, none⟩) T.length c] 32)).alloc (.cells znode.toArray 79)).there (w.heap.size + 1) 0 64 from by
    have := there_new (w.alloc (.cells #[.slice (some ⟨b, o, none⟩) T.length c] 32)) znode.toArray 79
    rwa [show (w.alloc (.cells #[.slice (some ⟨b, o, none⟩) T.length c] 32)).heap.size = w.heap.size + 1 by simp] at this))
  have HB := hid' (((Bel.refl w).alloc (.cells #[.slice (some ⟨b, o, none⟩) T.length c] 32)).alloc (.cells znode.toArray 79))
  have HG := hid' (range_bel hrg HB.out hbl)
  have HL := Lib.hid hL'
  have hkt : (k : Int) < (T.length : Int) := by omega
  have TK := hid' True.intro
  clear hR hL' hrg
  go_enter Tryz.func35, Tryz.ntmps35
  go_wp2_with (first
    | ((with_reducible show wpList _ _ _ (Oper.mk _ (Op.fieldAddr _ _ _) _ _ _ _ :: _) _ _); clear TK; refine gen_world ?_; intro w1 HW
       have hc1 : w1.cell? ⟨w.heap.size, 0, none⟩ = some (.slice (some ⟨b, o, none⟩) T.length c) := by rw [HW.out]; simp
       have HG1 : Hid (w1.rangeAt b (o + k * 64) (nodeL (node_ T k) (.slice K (node_ T k).kids.length ck) (.slice R (node_ T k).rules.length cr))) := hid' (by rw [HW.out]; exact HG.out)
       have HT1 : Hid (w1.there (w.heap.size + 1) 0 64) := hid' (by rw [HW.out]; exact HT.out.out)
       have HB1 : Hid (Bel w w1) := hid' (by rw [HW.out]; exact HB.out)
       clear HG HT HB HW)
    | ((with_reducible show wpList _ _ _ (Oper.mk _ (Op.load _ _) _ _ _ _ :: _) _ _); refine wpList_load_mid rfl 79 _ rfl b (o + k * 64) rfl (nodeL (node_ T k) (.slice K (node_ T k).kids.length ck) (.slice R (node_ T k).rules.length cr)) _ HG1.out Tryz.underlying79 rfl (by rw [h64]; kernel_rfl) ?_)
    | ((with_reducible show wpList _ _ _ (Oper.mk _ (Op.store _ _ _) _ _ _ _ :: _) _ _); refine storeNode rfl _ _ rfl (w.heap.size + 1) 0 rfl (node_ T k) (.slice K (node_ T k).kids.length ck) (.slice R (node_ T k).rules.length cr) rfl rfl rfl HT1 ?_))
  have hg := setCells_gb (w.heap.size + 1) (nodeL (node_ T k) (.slice K (node_ T k).kids.length ck) (.slice R (node_ T k).rules.length cr)) 0 w1
  have hb2 : Bel w _ := HB1.out.grown hg (fun q e => by injection e with e; omega)
  have hr : World.rangeAt _ (w.heap.size + 1) 0 (nodeL (node_ T k) (.slice K (node_ T k).kids.length ck) (.slice R (node_ T k).rules.length cr)) := World.rangeAt_setCells_same w1 _ _ _ (by rw [h64]; exact HT1.out)
  exact bodyPost_ret_by (results_cell_any Tryz.results35 _ _ (w.heap.size + 1) _ _ rfl hr Tryz.underlying79 rfl (by rw [h64]; kernel_rfl)) rfl ⟨_, rfl, HL.out.keep hb2, hb2⟩
set_option maxRecDepth 100000 in
set_option maxHeartbeats 2000000 in
theorem sNode_c (A : Option Addr) (c : Nat) (T : List NodeD) (k : Nat) (w : World) (h : Nodes w A T) (hk : k < T.length) (hn : T.length ≤ 1048576) :
    Calls Tryz.prog 25 #[treeV A T.length c, .int .i64 ((k : Int) + 1)] w fun e w' => ∃ L, e = .returned (.agg L.toArray) ∧ NodeAt w' (node_ T k) L ∧ Bel w w' := by
  obtain ⟨b, o, rfl, hbl, hR⟩ := h k hk
  obtain ⟨L, hL, hrg⟩ := hR k hk
  have hL' := hL
  obtain ⟨K, ck, R, cr, rfl, -⟩ := hL
  have h64 : (nodeL (node_ T k) (.slice K (node_ T k).kids.length ck) (.slice R (node_ T k).rules.length cr)).length = 64 := nodeL_length _ _ _
  have HT := hid' (hid' (show ((w.alloc (.cells #[.slice (some ⟨b, o, none⟩) T.length c] 32)).alloc (.cells znode.toArray 79)).there (w.heap.size + 1) 0 64 from by
    have := there_new (w.alloc (.cells #[.slice (some ⟨b, o, none⟩) T.length c] 32)) znode.toArray 79
    rwa [show (w.alloc (.cells #[.slice (some ⟨b, o, none⟩) T.length c] 32)).heap.size = w.heap.size + 1 by simp] at this))
  have HB := hid' (((Bel.refl w).alloc (.cells #[.slice (some ⟨b, o, none⟩) T.length c] 32)).alloc (.cells znode.toArray 79))
  have HG := hid' (range_bel hrg HB.out hbl)
  have HL := Lib.hid hL'
  have hkt : (k : Int) < (T.length : Int) := by omega
  have TK := hid' True.intro
  clear hR hL' hrg
  go_enter Tryz.func25, Tryz.ntmps25
  go_wp2_with (first
    | ((with_reducible show wpList _ _ _ (Oper.mk _ (Op.fieldAddr _ _ _) _ _ _ _ :: _) _ _); clear TK; refine gen_world ?_; intro w1 HW
       have hc1 : w1.cell? ⟨w.heap.size, 0, none⟩ = some (.slice (some ⟨b, o, none⟩) T.length c) := by rw [HW.out]; simp
       have HG1 : Hid (w1.rangeAt b (o + k * 64) (nodeL (node_ T k) (.slice K (node_ T k).kids.length ck) (.slice R (node_ T k).rules.length cr))) := hid' (by rw [HW.out]; exact HG.out)
       have HT1 : Hid (w1.there (w.heap.size + 1) 0 64) := hid' (by rw [HW.out]; exact HT.out.out)
       have HB1 : Hid (Bel w w1) := hid' (by rw [HW.out]; exact HB.out)
       clear HG HT HB HW)
    | ((with_reducible show wpList _ _ _ (Oper.mk _ (Op.load _ _) _ _ _ _ :: _) _ _); refine wpList_load_mid rfl 79 _ rfl b (o + k * 64) rfl (nodeL (node_ T k) (.slice K (node_ T k).kids.length ck) (.slice R (node_ T k).rules.length cr)) _ HG1.out Tryz.underlying79 rfl (by rw [h64]; kernel_rfl) ?_)
    | ((with_reducible show wpList _ _ _ (Oper.mk _ (Op.store _ _ _) _ _ _ _ :: _) _ _); refine storeNode rfl _ _ rfl (w.heap.size + 1) 0 rfl (node_ T k) (.slice K (node_ T k).kids.length ck) (.slice R (node_ T k).rules.length cr) rfl rfl rfl HT1 ?_))
  have hg := setCells_gb (w.heap.size + 1) (nodeL (node_ T k) (.slice K (node_ T k).kids.length ck) (.slice R (node_ T k).rules.length cr)) 0 w1
  have hb2 : Bel w _ := HB1.out.grown hg (fun q e => by injection e with e; omega)
  have hr : World.rangeAt _ (w.heap.size + 1) 0 (nodeL (node_ T k) (.slice K (node_ T k).kids.length ck) (.slice R (node_ T k).rules.length cr)) := World.rangeAt_setCells_same w1 _ _ _ (by rw [h64]; exact HT1.out)
  exact bodyPost_ret_by (results_cell_any Tryz.results25 _ _ (w.heap.size + 1) _ _ rfl hr Tryz.underlying79 rfl (by rw [h64]; kernel_rfl)) rfl ⟨_, rfl, HL.out.keep hb2, hb2⟩
end Go.Proofs.YtkoljbndbomhdaaGreat
