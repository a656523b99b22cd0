/- spec.l18New: what it builds. -/
import Derived.Test.YtkoljbndbomhdaaGreatPlaceW
namespace Go.Proofs.YtkoljbndbomhdaaGreat
open Go.RowKit Go.ChangeShapes Go.WideShapes Go.ChangeAt
set_option linter.unusedVariables false
set_option linter.unusedSimpArgs false

set_option maxRecDepth 100000 in
set_option maxHeartbeats 400000 in
theorem sKnown_c (m n : Int) (w : World) : Calls Tryz.prog 30 #[spaceV m n] w fun r w' => ∃ z, r = .returned (.int .i64 z) ∧ Bel w w' := by
  go_enter Tryz.func30, Tryz.ntmps30
  go_wp2
  all_goals (go_ret; refine ⟨_, rfl, ?_⟩)
  all_goals
    repeat (first | exact Bel.refl _ | assumption | refine Bel.alloc ?_ _ | refine Bel.drew ?_ | refine Bel.drewN ?_ _ | refine Bel.trans ?_ (by assumption) | refine Bel.setCell ?_ (by first | (simp; done) | (simp; omega) | (simp at *; omega)) _)
def tailU (row : Bool) (a1 b1 a2 b2 z : Int) (v : Value) : List Value := [.bool row, .int .i64 a1, .int .i64 b1, .int .i64 a2, .int .i64 b2, .int .i64 z, v]
theorem info_up : (Tryz.prog.info? 50).map (fun i => (i.zero, i.size)) = some (some (.agg (wideL 0 Rec.zero (tailU false 0 0 0 0 0 (.slice none 0 0))).toArray), 68) := by kernel_rfl
theorem info_space : (Tryz.prog.info? 28).map (fun i => (i.zero, i.size)) = some (some (.agg [.int .i64 0, .int .i64 0].toArray), 2) := by kernel_rfl
set_option maxRecDepth 100000 in
theorem run_buildU (w : World) (n : Int) (r : Rec) (row : Bool) (A : Option Addr) (l c : Nat) :
    (Instr.build 50 #[(0, .int .i64 n), (1, .agg (styleL r).toArray), (2, .bool row), (6, .slice A l c)]).run Tryz.prog w = .ok (.agg (wideL n r (tailU row 0 0 0 0 0 (.slice A l c))).toArray) w := by
  have s1 := sizeof_of (t := 3) (n := 1) (by kernel_rfl)
  have s2 := sizeof_of (t := 48) (n := 1) (by kernel_rfl)
  have s3 := sizeof_of (t := 47) (n := 60) (by kernel_rfl)
  have s4 := sizeof_of (t := 4) (n := 1) (by kernel_rfl)
  have s5 := sizeof_of (t := 28) (n := 2) (by kernel_rfl)
  obtain ⟨zs, hzs⟩ : ∃ zs, (wideL 0 Rec.zero (tailU false 0 0 0 0 0 (.slice none 0 0))).toArray = zs := ⟨_, rfl⟩
  obtain ⟨sv, hsv⟩ : ∃ sv, (styleL r).toArray = sv := ⟨_, rfl⟩
  have hz : (zeroValue 50).run Tryz.prog w = .ok (.agg zs) w := by
    have h0 := info_up
    rw [hzs] at h0
    cases hq : Tryz.prog.info? 50 with
    | none => rw [hq] at h0; simp at h0
    | some i => rw [hq] at h0; simp at h0; simp [zeroValue, typeInfo, hq, h0.1]
  have hf : Instr.fill (fun x => [(0, 1), (1, 60), (61, 1), (62, 2), (64, 2), (66, 1), (67, 1)][x]?) zs [(0, .int .i64 n), (1, .agg sv), (2, .bool row), (6, .slice A l c)] = some (wideL n r (tailU row 0 0 0 0 0 (.slice A l c))).toArray := by
    rw [← hzs, ← hsv]
    have hlen : ∀ (n : Int) (r : Rec) (row : Bool) (v : Value), (wideL n r (tailU row 0 0 0 0 0 v)).length = 68 := fun n r row v => by rw [wideL_length]; rfl
    rw [fill_step _ _ [.int .i64 n] 0 0 1 _ _ rfl rfl rfl (by rw [hlen]; omega)]
    rw [show setRun (wideL 0 Rec.zero (tailU false 0 0 0 0 0 (.slice none 0 0))) 0 [.int .i64 n] = wideL n Rec.zero (tailU false 0 0 0 0 0 (.slice none 0 0)) from rfl]
    rw [fill_step _ _ (styleL r) 1 1 60 _ _ rfl rfl (styleL_length r) (by rw [hlen]; omega), wideL_style]
    rw [fill_step _ _ [.bool row] 2 61 1 _ _ rfl rfl rfl (by rw [hlen]; omega), wideL_set n r _ _ 0 (by simp [tailU])]
    rw [show setRun (tailU false 0 0 0 0 0 (.slice none 0 0)) 0 [.bool row] = tailU row 0 0 0 0 0 (.slice none 0 0) from rfl]
    rw [fill_step _ _ [.slice A l c] 6 67 1 _ _ rfl rfl rfl (by rw [hlen]; omega), wideL_set n r _ _ 6 (by simp [tailU])]
    rw [show setRun (tailU row 0 0 0 0 0 (.slice none 0 0)) 6 [.slice A l c] = tailU row 0 0 0 0 0 (.slice A l c) from rfl]
    rfl
  obtain ⟨R, hR⟩ : ∃ R, (wideL n r (tailU row 0 0 0 0 0 (.slice A l c))).toArray = R := ⟨_, rfl⟩
  rw [hR] at hf ⊢
  rw [hsv]
  unfold Instr.build
  rw [Sem.run_bind, hz]
  simp only [Result.andThen_ok]
  rw [Sem.run_bind, run_underlying Tryz.underlying50 w]
  simp only [Result.andThen_ok]
  simp [Sem.run_bind, s1, s2, s3, s4, s5, Value.cells, hf]
theorem tailU_one (row : Bool) (a1 b1 a2 b2 z : Int) (A : Option Addr) (l c : Nat) : ∀ u ∈ tailU row a1 b1 a2 b2 z (.slice A l c), u.oneCell' = true := by
  intro u hu
  simp only [tailU, List.mem_cons, List.not_mem_nil, or_false] at hu
  rcases hu with rfl | rfl | rfl | rfl | rfl | rfl | rfl <;> rfl
def upNew (T : List NodeD) (j : Nat) (m1 n1 m2 n2 z : Int) (v : Value) : List Value :=
  let r := (node_ T j).style
  let x1 := innerOf m1 n1 (wideE r)
  let x2 := innerOf m2 n2 (highE r)
  wideL ((j : Int) + 1) r (tailU (isRow r) (mainM (isRow r) m1 m2) (mainM (isRow r) x1 x2) (mainM (isRow r) m2 m1) (mainM (isRow r) x2 x1) z v)
set_option maxRecDepth 100000 in
set_option maxHeartbeats 4000000 in
theorem sUp_c (A : Option Addr) (c : Nat) (T : List NodeD) (j : Nat) (m1 n1 m2 n2 : Int) (w : World) (h : Nodes w A T) (hok : treeOk T = true) (hj : j < T.length) (hkr : ∀ j, j < T.length → (node_ T j).kids.length ≤ 1048576 ∧ (node_ T j).rules.length ≤ 1048576) :
    Calls Tryz.prog 16 #[treeV A T.length c, .int .i64 ((j : Int) + 1), spaceV m1 n1, spaceV m2 n2] w fun e w' => ∃ z B l d, e = .returned (.agg (upNew T j m1 n1 m2 n2 z (.slice B l d)).toArray) ∧ Bel w w' := by
  have h12 := treeOk_len hok
  have HOK := Lib.hid hok
  have HKR := Lib.hid hkr
  obtain ⟨b, o, K, ck, R, cr, rfl, hbl, hrg, -⟩ := h.open1 hj
  have HRG := Lib.hid hrg
  obtain ⟨zL, hzL⟩ : ∃ zL, wideL 0 Rec.zero (tailU false 0 0 0 0 0 (.slice none 0 0)) = zL := ⟨_, rfl⟩
  have hip := info_up
  rw [hzL] at hip
  have HIP := Lib.hid hip
  have HIS := Lib.hid info_space
  have HZL : Hid (zL.length = 68) := hid' (by rw [← hzL, wideL_length]; rfl)
  have HKL : Hid (∀ W2, W2 = (((w.alloc (.cells #[.slice (some ⟨b, o, none⟩) T.length c] 32)).alloc (.cells #[.int .i64 m1, .int .i64 n1] 28)).alloc (.cells #[.int .i64 m2, .int .i64 n2] 28)).alloc (.cells zL.toArray 50) →
      Hid (∀ u, Bel W2 u → u.cell? ⟨w.heap.size, 0, none⟩ = some (.slice (some ⟨b, o, none⟩) T.length c) ∧ u.cell? ⟨w.heap.size + 1, 0, none⟩ = some (.int .i64 m1) ∧ u.cell? ⟨w.heap.size + 1, 1, none⟩ = some (.int .i64 n1) ∧ u.cell? ⟨w.heap.size + 1 + 1, 0, none⟩ = some (.int .i64 m2) ∧ u.cell? ⟨w.heap.size + 1 + 1, 1, none⟩ = some (.int .i64 n2)) ∧
      Hid (WB w W2 50 68 (w.heap.size + 1 + 1 + 1) zL)) := hid' (fun W2 e => by
    have z1 : (w.alloc (.cells #[.slice (some ⟨b, o, none⟩) T.length c] 32)).heap.size = w.heap.size + 1 := by simp
    have z2 : ((w.alloc (.cells #[.slice (some ⟨b, o, none⟩) T.length c] 32)).alloc (.cells #[.int .i64 m1, .int .i64 n1] 28)).heap.size = w.heap.size + 1 + 1 := by simp
    have z3 : (((w.alloc (.cells #[.slice (some ⟨b, o, none⟩) T.length c] 32)).alloc (.cells #[.int .i64 m1, .int .i64 n1] 28)).alloc (.cells #[.int .i64 m2, .int .i64 n2] 28)).heap.size = w.heap.size + 1 + 1 + 1 := by simp
    refine ⟨hid' (fun u hu => ?_), hid' ?_⟩
    · rw [e] at hu
      have q1 := box_at (L := [.slice (some ⟨b, o, none⟩) T.length c]) ((((Bel.refl _).alloc _).alloc _).alloc _ |>.trans hu) (i := 0) rfl
      have q2 := box_at (L := [.int .i64 m1, .int .i64 n1]) (((Bel.refl _).alloc _).alloc _ |>.trans hu) (i := 0) rfl
      have q3 := box_at (L := [.int .i64 m1, .int .i64 n1]) (((Bel.refl _).alloc _).alloc _ |>.trans hu) (i := 1) rfl
      have q4 := box_at (L := [.int .i64 m2, .int .i64 n2]) ((Bel.refl _).alloc _ |>.trans hu) (i := 0) rfl
      have q5 := box_at (L := [.int .i64 m2, .int .i64 n2]) ((Bel.refl _).alloc _ |>.trans hu) (i := 1) rfl
      rw [z1] at q2 q3
      rw [z2] at q4 q5
      exact ⟨q1, q2, q3, q4, q5⟩
    · rw [e, ← z3]
      exact WB.new ((((Bel.refl w).alloc _).alloc _).alloc _) HZL.out)
  clear hzL hrg hip hok hkr
  go_enter Tryz.func16, Tryz.ntmps16
  go_wp2_with ((with_reducible show wpList _ _ _ (Oper.mk _ (Op.alloc _) _ _ _ _ :: _) _ _); refine allocW HIP.out rfl rfl ?_; intro w1 HA; have HX := HKL.out _ HA.out; have hcL := (HX.1.out _ (Bel.refl _)).1)
  obtain ⟨HK, HWR⟩ := HX
  clear HA hcL
  have HB1 := hid' HWR.out.bel
  refine (sNode_at b o c T j K _ ck R _ cr w1 (Nat.lt_of_lt_of_le hbl HB1.out.sz) (range_bel HRG.out HB1.out hbl) hj (by omega)).mono ?_; rintro e w2 ⟨rfl, hb2⟩
  have hfs := field_style (node_ T j) (.slice K (node_ T j).kids.length ck) (.slice R (node_ T j).rules.length cr) w2
  go_wp2_with (first
    | ((with_reducible show wpList _ _ _ (Oper.mk _ (Op.alloc _) _ _ _ _ :: _) _ _); refine allocStyle rfl rfl ?_; intro w3 HA3)
    | ((with_reducible show wpList _ _ _ (Oper.mk _ (Op.store _ _ _) _ _ _ _ :: _) _ _); refine storeStyle rfl _ _ rfl HA3 rfl (node_ T j).style rfl ?_; intro w4 H4))
  clear hfs HA3
  obtain ⟨r, hr⟩ : ∃ r, (node_ T j).style = r := ⟨_, rfl⟩
  have HRR := Lib.hid hr
  rw [hr] at H4
  rw [hr]
  clear hr
  have HB14 := hid' (hb2.trans H4.out.bel)
  have HG9 := hid' (And.intro H4.out.rng H4.out.hi)
  obtain ⟨g9, hg9⟩ : ∃ g, w2.heap.size = g := ⟨_, rfl⟩
  rw [hg9] at HG9 ⊢
  clear H4 hg9 hb2
  have HSS : Hid (∀ u, Bel w4 u → u.rangeAt g9 0 (styleL r) ∧ u.cell? ⟨w.heap.size, 0, none⟩ = some (.slice (some ⟨b, o, none⟩) T.length c) ∧ u.cell? ⟨w.heap.size + 1, 0, none⟩ = some (.int .i64 m1) ∧ u.cell? ⟨w.heap.size + 1, 1, none⟩ = some (.int .i64 n1) ∧ u.cell? ⟨w.heap.size + 1 + 1, 0, none⟩ = some (.int .i64 m2) ∧ u.cell? ⟨w.heap.size + 1 + 1, 1, none⟩ = some (.int .i64 n2)) :=
    hid' (fun u hu => ⟨range_bel HG9.out.1 hu HG9.out.2, HK.out _ (HB14.out.trans hu)⟩)
  have h60 := styleL_length r
  obtain ⟨LP, hLP⟩ : ∃ LP : Value → List Value, LP = fun v => wideL ((j : Int) + 1) r (tailU (isRow r) 0 0 0 0 0 v) := ⟨_, rfl⟩
  have HLP : Hid (∀ v, LP v = wideL ((j : Int) + 1) r (tailU (isRow r) 0 0 0 0 0 v)) := hid' (fun v => by rw [hLP])
  have hbd : ∀ (u : World) (B : Option Addr) (l d : Nat), (Instr.build 50 #[(0, .int .i64 ((j : Int) + 1)), (1, .agg (styleL r).toArray), (2, .bool (isRow r)), (6, .slice B l d)]).run Tryz.prog u = .ok (.agg (LP (.slice B l d)).toArray) u := fun u B l d => by rw [HLP.out]; exact run_buildU u _ r (isRow r) B l d
  have hszP : (Tryz.prog.info? 50).map (·.size) = some 68 := by kernel_rfl
  have hszS : (Tryz.prog.info? 28).map (·.size) = some 2 := by kernel_rfl
  have HLPL : Hid (∀ v, (LP v).length = 68) := hid' (fun v => by rw [HLP.out, wideL_length]; rfl)
  have HLPO : Hid (∀ B l d, ∀ u ∈ LP (.slice B l d), u.oneCell' = true) := hid' (fun B l d => by rw [HLP.out]; exact wideL_one _ _ (tailU_one _ _ _ _ _ _ _ _ _))
  clear hLP
  go_wp2_with fail
  have hd0 : Bel w4 w4.drew := (Bel.refl w4).drew
  refine wp_join [10, 17, 18, 19, 20, 21, 22, 23, 24] (fun y u => ∃ g B l d, y 10 = .pointer (some ⟨g, 0, none⟩) ∧ Hid (WB w4 u 50 68 g (LP (.slice B l d)))) ?_ ?_
  ·
    refine wp_region_held_drew (S := (fun u => Bel w4 u)) (by kernel_rfl) hd0 (fun _ => ?_)
    refine wpAnyH_take (i := 0) (v := .int .i64 ((j : Int) + 1)) getop0 (by kernel_rfl) (by kernel_rfl) (by kernel_rfl) (by rintro c a w ⟨h, _⟩; cases h) (Or.inl ⟨rfl, fun u _ => y_move rfl rfl⟩) (hd0) ?_
    simp only [Act.put, List.setIfInBounds_toArray, List.set_cons_zero, List.set_cons_succ]
    refine wpAnyH_take (i := 1) (v := (.agg (styleL r).toArray)) getop1 (by kernel_rfl) (by kernel_rfl) (by kernel_rfl) (by rintro c a w ⟨h, _⟩; cases h) (yieldsIf_load_mid (by rfl) 47 _ rfl (g9) 0 rfl (styleL r) _ (fun u hu => (HSS.out u hu).1) Tryz.underlying47 rfl (by rw [h60]; kernel_rfl)) (hd0) ?_
    simp only [Act.put, List.setIfInBounds_toArray, List.set_cons_zero, List.set_cons_succ]
    refine wpAnyH_take (i := 2) (v := (.agg (styleL r).toArray)) getop2 (by kernel_rfl) (by kernel_rfl) (by kernel_rfl) (by rintro c a w ⟨h, _⟩; cases h) (yieldsIf_load_mid (by rfl) 47 _ rfl (g9) 0 rfl (styleL r) _ (fun u hu => (HSS.out u hu).1) Tryz.underlying47 rfl (by rw [h60]; kernel_rfl)) (hd0) ?_
    simp only [Act.put, List.setIfInBounds_toArray, List.set_cons_zero, List.set_cons_succ]
    refine wpAnyH_take (i := 4) (v := (.agg #[.slice (some ⟨b, o, none⟩) T.length c])) getop4 (by kernel_rfl) (by kernel_rfl) (by kernel_rfl) (by rintro c a w ⟨h, _⟩; cases h) (yieldsIf_load_mid (by rfl) 32 _ rfl (w.heap.size) 0 rfl [.slice (some ⟨b, o, none⟩) T.length c] _ (fun u hu => range_one ((HSS.out u hu).2.1)) Tryz.underlying32 rfl (by kernel_rfl)) (hd0) ?_
    simp only [Act.put, List.setIfInBounds_toArray, List.set_cons_zero, List.set_cons_succ]
    refine wpAnyH_take (i := 5) (v := .int .i64 ((j : Int) + 1)) getop5 (by kernel_rfl) (by kernel_rfl) (by kernel_rfl) (by rintro c a w ⟨h, _⟩; cases h) (Or.inl ⟨rfl, fun u _ => y_move rfl rfl⟩) (hd0) ?_
    simp only [Act.put, List.setIfInBounds_toArray, List.set_cons_zero, List.set_cons_succ]
    refine wpAnyH_ready (rs := [3, 8]) (by kernel_rfl) (by simp) ?_
    refine AllReadyH.cons getop3 (fun K hK => ?_) ?_
    ·
      rw [if_pos (by rfl)]
      refine op_callN (xs := #[.tmp 19]) (vs := #[(.agg (styleL r).toArray)]) rfl rfl (run_callFunc Tryz.func26 (by kernel_rfl) rfl) ((sIsRow_c r _).mono ?_)
      rintro e u1 ⟨rfl, g1⟩
      refine ⟨_, rfl, hK.out _ _ ((hd0).trans g1) (fun _ => ?_)⟩
      clear hK K
      simp only [Act.put, List.setIfInBounds_toArray, List.set_cons_zero, List.set_cons_succ]
      refine wpAnyH_ready (rs := [6, 8]) (by kernel_rfl) (by simp) ?_
      refine AllReadyH.cons getop6 (fun K hK => ?_) ?_
      ·
        rw [if_pos (by rfl)]
        refine op_callN (xs := #[.tmp 21, .tmp 22]) (vs := #[.agg #[.slice (some ⟨b, o, none⟩) T.length c], .int .i64 ((j : Int) + 1)]) rfl rfl (run_callFunc Tryz.func27 (by kernel_rfl) rfl) ((sFlowKids_r _ c T j _ (h.keep (HB1.out.trans (HB14.out.trans ((hd0).trans g1)))) HOK.out hj HKR.out).mono ?_)
        rintro e u2 ⟨v2, rfl, ho2, g2⟩
        obtain ⟨B2, d2, rfl, -, -, -, -⟩ := own_openC ho2
        clear ho2
        refine ⟨_, rfl, hK.out _ _ (((hd0).trans g1).trans g2) (fun _ => ?_)⟩
        clear hK K
        simp only [Act.put, List.setIfInBounds_toArray, List.set_cons_zero, List.set_cons_succ]
        refine wpAnyH_take (i := 7) (v := .agg (LP (.slice B2 (flowKids T ((j : Int) + 1)).length d2)).toArray) getop7 (by kernel_rfl) (by kernel_rfl) (by kernel_rfl) (by rintro c a w ⟨h, _⟩; cases h) (Or.inl ⟨rfl, fun u _ => y_build (vs := #[(0, .int .i64 ((j : Int) + 1)), (1, (.agg (styleL r).toArray)), (2, .bool (isRow r)), (6, .slice B2 (flowKids T ((j : Int) + 1)).length d2)]) rfl rfl (hbd u B2 _ d2)⟩) (((hd0).trans g1).trans g2) ?_
        simp only [Act.put, List.setIfInBounds_toArray, List.set_cons_zero, List.set_cons_succ]
        refine wpAnyH_ready (rs := [8]) (by kernel_rfl) (by simp) ?_
        refine AllReadyH.cons getop8 (fun K hK => ?_) ?_
        ·
          rw [if_pos (by rfl)]
          refine op_allocW HIP.out rfl ?_
          refine hK.out _ _ ((((hd0).trans g1).trans g2).alloc _) (fun _ => ?_)
          clear hK K
          simp only [Act.put, List.setIfInBounds_toArray, List.set_cons_zero, List.set_cons_succ]
          refine wpAnyH_ready (rs := [9]) (by kernel_rfl) (by simp) ?_
          refine AllReadyH.cons getop9 (fun K hK => ?_) ?_
          ·
            rw [if_pos (by rfl)]
            have HWF := (WB.new (ty := 50) (((hd0).trans g1).trans g2) HZL.out).keep (Bel.refl (u2.alloc (.cells zL.toArray 50)))
            have HJ := HWF.whole (HLPL.out (.slice B2 (flowKids T ((j : Int) + 1)).length d2))
            refine op_storeW hszP rfl rfl rfl (HLPL.out (.slice B2 (flowKids T ((j : Int) + 1)).length d2)) (HLPO.out _ _ _) (HWF.there (o := 0) (m := 68) (by omega)) ?_
            refine hK.out _ _ (HJ.bel) (fun _ => ?_)
            clear hK K
            simp only [Act.put, List.setIfInBounds_toArray, List.set_cons_zero, List.set_cons_succ]
            exact wpAnyH_done (by kernel_rfl) (join_here (by kernel_rfl) ⟨_, _, _, _, rfl, hid' HJ⟩) _
          exact AllReadyH.nil
        exact AllReadyH.nil
      refine AllReadyH.cons getop8 (fun K hK => ?_) ?_
      ·
        rw [if_pos (by rfl)]
        refine op_allocW HIP.out rfl ?_
        refine hK.out _ _ (((hd0).trans g1).alloc _) (fun _ => ?_)
        clear hK K
        simp only [Act.put, List.setIfInBounds_toArray, List.set_cons_zero, List.set_cons_succ]
        refine wpAnyH_ready (rs := [6]) (by kernel_rfl) (by simp) ?_
        refine AllReadyH.cons getop6 (fun K hK => ?_) ?_
        ·
          rw [if_pos (by rfl)]
          refine op_callN (xs := #[.tmp 21, .tmp 22]) (vs := #[.agg #[.slice (some ⟨b, o, none⟩) T.length c], .int .i64 ((j : Int) + 1)]) rfl rfl (run_callFunc Tryz.func27 (by kernel_rfl) rfl) ((sFlowKids_r _ c T j _ (h.keep (HB1.out.trans (HB14.out.trans (((hd0).trans g1).alloc _)))) HOK.out hj HKR.out).mono ?_)
          rintro e u3 ⟨v3, rfl, ho3, g3⟩
          obtain ⟨B3, d3, rfl, -, -, -, -⟩ := own_openC ho3
          clear ho3
          refine ⟨_, rfl, hK.out _ _ ((((hd0).trans g1).alloc _).trans g3) (fun _ => ?_)⟩
          clear hK K
          simp only [Act.put, List.setIfInBounds_toArray, List.set_cons_zero, List.set_cons_succ]
          refine wpAnyH_take (i := 7) (v := .agg (LP (.slice B3 (flowKids T ((j : Int) + 1)).length d3)).toArray) getop7 (by kernel_rfl) (by kernel_rfl) (by kernel_rfl) (by rintro c a w ⟨h, _⟩; cases h) (Or.inl ⟨rfl, fun u _ => y_build (vs := #[(0, .int .i64 ((j : Int) + 1)), (1, (.agg (styleL r).toArray)), (2, .bool (isRow r)), (6, .slice B3 (flowKids T ((j : Int) + 1)).length d3)]) rfl rfl (hbd u B3 _ d3)⟩) ((((hd0).trans g1).alloc _).trans g3) ?_
          simp only [Act.put, List.setIfInBounds_toArray, List.set_cons_zero, List.set_cons_succ]
          refine wpAnyH_ready (rs := [9]) (by kernel_rfl) (by simp) ?_
          refine AllReadyH.cons getop9 (fun K hK => ?_) ?_
          ·
            rw [if_pos (by rfl)]
            have HWF := (WB.new (ty := 50) ((hd0).trans g1) HZL.out).keep ((Bel.refl (u1.alloc (.cells zL.toArray 50))).trans g3)
            have HJ := HWF.whole (HLPL.out (.slice B3 (flowKids T ((j : Int) + 1)).length d3))
            refine op_storeW hszP rfl rfl rfl (HLPL.out (.slice B3 (flowKids T ((j : Int) + 1)).length d3)) (HLPO.out _ _ _) (HWF.there (o := 0) (m := 68) (by omega)) ?_
            refine hK.out _ _ (HJ.bel) (fun _ => ?_)
            clear hK K
            simp only [Act.put, List.setIfInBounds_toArray, List.set_cons_zero, List.set_cons_succ]
            exact wpAnyH_done (by kernel_rfl) (join_here (by kernel_rfl) ⟨_, _, _, _, rfl, hid' HJ⟩) _
          exact AllReadyH.nil
        exact AllReadyH.nil
      exact AllReadyH.nil
    refine AllReadyH.cons getop8 (fun K hK => ?_) ?_
    ·
      rw [if_pos (by rfl)]
      refine op_allocW HIP.out rfl ?_
      refine hK.out _ _ ((hd0).alloc _) (fun _ => ?_)
      clear hK K
      simp only [Act.put, List.setIfInBounds_toArray, List.set_cons_zero, List.set_cons_succ]
      refine wpAnyH_ready (rs := [3]) (by kernel_rfl) (by simp) ?_
      refine AllReadyH.cons getop3 (fun K hK => ?_) ?_
      ·
        rw [if_pos (by rfl)]
        refine op_callN (xs := #[.tmp 19]) (vs := #[(.agg (styleL r).toArray)]) rfl rfl (run_callFunc Tryz.func26 (by kernel_rfl) rfl) ((sIsRow_c r _).mono ?_)
        rintro e u4 ⟨rfl, g4⟩
        refine ⟨_, rfl, hK.out _ _ (((hd0).alloc _).trans g4) (fun _ => ?_)⟩
        clear hK K
        simp only [Act.put, List.setIfInBounds_toArray, List.set_cons_zero, List.set_cons_succ]
        refine wpAnyH_ready (rs := [6]) (by kernel_rfl) (by simp) ?_
        refine AllReadyH.cons getop6 (fun K hK => ?_) ?_
        ·
          rw [if_pos (by rfl)]
          refine op_callN (xs := #[.tmp 21, .tmp 22]) (vs := #[.agg #[.slice (some ⟨b, o, none⟩) T.length c], .int .i64 ((j : Int) + 1)]) rfl rfl (run_callFunc Tryz.func27 (by kernel_rfl) rfl) ((sFlowKids_r _ c T j _ (h.keep (HB1.out.trans (HB14.out.trans (((hd0).alloc _).trans g4)))) HOK.out hj HKR.out).mono ?_)
          rintro e u5 ⟨v5, rfl, ho5, g5⟩
          obtain ⟨B5, d5, rfl, -, -, -, -⟩ := own_openC ho5
          clear ho5
          refine ⟨_, rfl, hK.out _ _ ((((hd0).alloc _).trans g4).trans g5) (fun _ => ?_)⟩
          clear hK K
          simp only [Act.put, List.setIfInBounds_toArray, List.set_cons_zero, List.set_cons_succ]
          refine wpAnyH_take (i := 7) (v := .agg (LP (.slice B5 (flowKids T ((j : Int) + 1)).length d5)).toArray) getop7 (by kernel_rfl) (by kernel_rfl) (by kernel_rfl) (by rintro c a w ⟨h, _⟩; cases h) (Or.inl ⟨rfl, fun u _ => y_build (vs := #[(0, .int .i64 ((j : Int) + 1)), (1, (.agg (styleL r).toArray)), (2, .bool (isRow r)), (6, .slice B5 (flowKids T ((j : Int) + 1)).length d5)]) rfl rfl (hbd u B5 _ d5)⟩) ((((hd0).alloc _).trans g4).trans g5) ?_
          simp only [Act.put, List.setIfInBounds_toArray, List.set_cons_zero, List.set_cons_succ]
          refine wpAnyH_ready (rs := [9]) (by kernel_rfl) (by simp) ?_
          refine AllReadyH.cons getop9 (fun K hK => ?_) ?_
          ·
            rw [if_pos (by rfl)]
            have HWF := (WB.new (ty := 50) (hd0) HZL.out).keep (((Bel.refl (w4.drew.alloc (.cells zL.toArray 50))).trans g4).trans g5)
            have HJ := HWF.whole (HLPL.out (.slice B5 (flowKids T ((j : Int) + 1)).length d5))
            refine op_storeW hszP rfl rfl rfl (HLPL.out (.slice B5 (flowKids T ((j : Int) + 1)).length d5)) (HLPO.out _ _ _) (HWF.there (o := 0) (m := 68) (by omega)) ?_
            refine hK.out _ _ (HJ.bel) (fun _ => ?_)
            clear hK K
            simp only [Act.put, List.setIfInBounds_toArray, List.set_cons_zero, List.set_cons_succ]
            exact wpAnyH_done (by kernel_rfl) (join_here (by kernel_rfl) ⟨_, _, _, _, rfl, hid' HJ⟩) _
          exact AllReadyH.nil
        exact AllReadyH.nil
      exact AllReadyH.nil
    exact AllReadyH.nil
  rintro y w5 ⟨g, B, l, d, hy, HP⟩
  simp only [setAll, List.foldl_cons, List.foldl_nil, List.setIfInBounds_toArray, List.set_cons_zero, List.set_cons_succ]
  rw [hy]
  clear hy hd0 hbd
  have HSS := hid' (fun u (hu : Bel w5 u) => HSS.out u (HP.out.bel.trans hu))
  go_wp2_with fail
  have hd0 : Bel w5 w5.drew := (Bel.refl w5).drew
  refine wp_join [11, 25, 26, 27, 28] (fun y u => ∃ g3, y 11 = .pointer (some ⟨g3, 0, none⟩) ∧ Hid (WB w5 u 28 2 g3 [.int .i64 m1, .int .i64 (innerOf m1 n1 (frameSize r true))])) ?_ ?_
  ·
    refine wp_region_held_drew (S := (fun u => Bel w5 u)) (by kernel_rfl) hd0 (fun _ => ?_)
    refine wpAnyH_take (i := 0) (v := (spaceV m1 n1)) getop0 (by kernel_rfl) (by kernel_rfl) (by kernel_rfl) (by rintro c a w ⟨h, _⟩; cases h) (yieldsIf_load_mid (by rfl) 28 _ rfl (w.heap.size + 1) 0 rfl [.int .i64 m1, .int .i64 n1] _ (fun u hu => range_two ((HSS.out u hu).2.2.1) ((HSS.out u hu).2.2.2.1)) Tryz.underlying28 rfl (by kernel_rfl)) (hd0) ?_
    simp only [Act.put, List.setIfInBounds_toArray, List.set_cons_zero, List.set_cons_succ]
    refine wpAnyH_take (i := 1) (v := (.agg (styleL r).toArray)) getop1 (by kernel_rfl) (by kernel_rfl) (by kernel_rfl) (by rintro c a w ⟨h, _⟩; cases h) (yieldsIf_load_mid (by rfl) 47 _ rfl (g9) 0 rfl (styleL r) _ (fun u hu => (HSS.out u hu).1) Tryz.underlying47 rfl (by rw [h60]; kernel_rfl)) (hd0) ?_
    simp only [Act.put, List.setIfInBounds_toArray, List.set_cons_zero, List.set_cons_succ]
    refine wpAnyH_ready (rs := [2, 4]) (by kernel_rfl) (by simp) ?_
    refine AllReadyH.cons getop2 (fun K hK => ?_) ?_
    ·
      rw [if_pos (by rfl)]
      refine op_callN (xs := #[.tmp 26, .const (Value.bool true)]) (vs := #[(.agg (styleL r).toArray), .bool true]) rfl rfl (run_callFunc Tryz.func29 (by kernel_rfl) rfl) ((sFrameSize_c r true _).mono ?_)
      rintro e u1 ⟨rfl, g1⟩
      refine ⟨_, rfl, hK.out _ _ ((hd0).trans g1) (fun _ => ?_)⟩
      clear hK K
      simp only [Act.put, List.setIfInBounds_toArray, List.set_cons_zero, List.set_cons_succ]
      refine wpAnyH_ready (rs := [3, 4]) (by kernel_rfl) (by simp) ?_
      refine AllReadyH.cons getop3 (fun K hK => ?_) ?_
      ·
        rw [if_pos (by rfl)]
        refine op_callN (xs := #[.tmp 25, .tmp 27]) (vs := #[(spaceV m1 n1), .int .i64 (frameSize r true)]) rfl rfl (run_callFunc Tryz.func28 (by kernel_rfl) rfl) ((sInnerOf_c _ _ _ _).mono ?_)
        rintro e u2 ⟨rfl, g2⟩
        refine ⟨_, rfl, hK.out _ _ (((hd0).trans g1).trans g2) (fun _ => ?_)⟩
        clear hK K
        simp only [Act.put, List.setIfInBounds_toArray, List.set_cons_zero, List.set_cons_succ]
        refine wpAnyH_ready (rs := [4]) (by kernel_rfl) (by simp) ?_
        refine AllReadyH.cons getop4 (fun K hK => ?_) ?_
        ·
          rw [if_pos (by rfl)]
          refine op_allocW HIS.out rfl ?_
          refine hK.out _ _ ((((hd0).trans g1).trans g2).alloc _) (fun _ => ?_)
          clear hK K
          simp only [Act.put, List.setIfInBounds_toArray, List.set_cons_zero, List.set_cons_succ]
          refine wpAnyH_ready (rs := [5]) (by kernel_rfl) (by simp) ?_
          refine AllReadyH.cons getop5 (fun K hK => ?_) ?_
          ·
            rw [if_pos (by rfl)]
            have HWF := (WB.new (ty := 28) (N := 2) (L := [.int .i64 0, .int .i64 0]) (((hd0).trans g1).trans g2) rfl).keep (Bel.refl (u2.alloc (.cells [.int .i64 0, .int .i64 0].toArray 28)))
            have HJ := HWF.whole (L' := [.int .i64 m1, .int .i64 (innerOf m1 n1 (frameSize r true))]) rfl
            refine op_storeW (L := [.int .i64 m1, .int .i64 (innerOf m1 n1 (frameSize r true))]) hszS rfl (by rfl) (by rfl) rfl (by intro u hu; simp at hu; rcases hu with rfl | rfl <;> rfl) (HWF.there (o := 0) (m := 2) (by omega)) ?_
            refine hK.out _ _ (HJ.bel) (fun _ => ?_)
            clear hK K
            simp only [Act.put, List.setIfInBounds_toArray, List.set_cons_zero, List.set_cons_succ]
            exact wpAnyH_done (by kernel_rfl) (join_here (by kernel_rfl) ⟨_, rfl, hid' HJ⟩) _
          exact AllReadyH.nil
        exact AllReadyH.nil
      refine AllReadyH.cons getop4 (fun K hK => ?_) ?_
      ·
        rw [if_pos (by rfl)]
        refine op_allocW HIS.out rfl ?_
        refine hK.out _ _ (((hd0).trans g1).alloc _) (fun _ => ?_)
        clear hK K
        simp only [Act.put, List.setIfInBounds_toArray, List.set_cons_zero, List.set_cons_succ]
        refine wpAnyH_ready (rs := [3]) (by kernel_rfl) (by simp) ?_
        refine AllReadyH.cons getop3 (fun K hK => ?_) ?_
        ·
          rw [if_pos (by rfl)]
          refine op_callN (xs := #[.tmp 25, .tmp 27]) (vs := #[(spaceV m1 n1), .int .i64 (frameSize r true)]) rfl rfl (run_callFunc Tryz.func28 (by kernel_rfl) rfl) ((sInnerOf_c _ _ _ _).mono ?_)
          rintro e u3 ⟨rfl, g3⟩
          refine ⟨_, rfl, hK.out _ _ ((((hd0).trans g1).alloc _).trans g3) (fun _ => ?_)⟩
          clear hK K
          simp only [Act.put, List.setIfInBounds_toArray, List.set_cons_zero, List.set_cons_succ]
          refine wpAnyH_ready (rs := [5]) (by kernel_rfl) (by simp) ?_
          refine AllReadyH.cons getop5 (fun K hK => ?_) ?_
          ·
            rw [if_pos (by rfl)]
            have HWF := (WB.new (ty := 28) (N := 2) (L := [.int .i64 0, .int .i64 0]) ((hd0).trans g1) rfl).keep ((Bel.refl (u1.alloc (.cells [.int .i64 0, .int .i64 0].toArray 28))).trans g3)
            have HJ := HWF.whole (L' := [.int .i64 m1, .int .i64 (innerOf m1 n1 (frameSize r true))]) rfl
            refine op_storeW (L := [.int .i64 m1, .int .i64 (innerOf m1 n1 (frameSize r true))]) hszS rfl (by rfl) (by rfl) rfl (by intro u hu; simp at hu; rcases hu with rfl | rfl <;> rfl) (HWF.there (o := 0) (m := 2) (by omega)) ?_
            refine hK.out _ _ (HJ.bel) (fun _ => ?_)
            clear hK K
            simp only [Act.put, List.setIfInBounds_toArray, List.set_cons_zero, List.set_cons_succ]
            exact wpAnyH_done (by kernel_rfl) (join_here (by kernel_rfl) ⟨_, rfl, hid' HJ⟩) _
          exact AllReadyH.nil
        exact AllReadyH.nil
      exact AllReadyH.nil
    refine AllReadyH.cons getop4 (fun K hK => ?_) ?_
    ·
      rw [if_pos (by rfl)]
      refine op_allocW HIS.out rfl ?_
      refine hK.out _ _ ((hd0).alloc _) (fun _ => ?_)
      clear hK K
      simp only [Act.put, List.setIfInBounds_toArray, List.set_cons_zero, List.set_cons_succ]
      refine wpAnyH_ready (rs := [2]) (by kernel_rfl) (by simp) ?_
      refine AllReadyH.cons getop2 (fun K hK => ?_) ?_
      ·
        rw [if_pos (by rfl)]
        refine op_callN (xs := #[.tmp 26, .const (Value.bool true)]) (vs := #[(.agg (styleL r).toArray), .bool true]) rfl rfl (run_callFunc Tryz.func29 (by kernel_rfl) rfl) ((sFrameSize_c r true _).mono ?_)
        rintro e u4 ⟨rfl, g4⟩
        refine ⟨_, rfl, hK.out _ _ (((hd0).alloc _).trans g4) (fun _ => ?_)⟩
        clear hK K
        simp only [Act.put, List.setIfInBounds_toArray, List.set_cons_zero, List.set_cons_succ]
        refine wpAnyH_ready (rs := [3]) (by kernel_rfl) (by simp) ?_
        refine AllReadyH.cons getop3 (fun K hK => ?_) ?_
        ·
          rw [if_pos (by rfl)]
          refine op_callN (xs := #[.tmp 25, .tmp 27]) (vs := #[(spaceV m1 n1), .int .i64 (frameSize r true)]) rfl rfl (run_callFunc Tryz.func28 (by kernel_rfl) rfl) ((sInnerOf_c _ _ _ _).mono ?_)
          rintro e u5 ⟨rfl, g5⟩
          refine ⟨_, rfl, hK.out _ _ ((((hd0).alloc _).trans g4).trans g5) (fun _ => ?_)⟩
          clear hK K
          simp only [Act.put, List.setIfInBounds_toArray, List.set_cons_zero, List.set_cons_succ]
          refine wpAnyH_ready (rs := [5]) (by kernel_rfl) (by simp) ?_
          refine AllReadyH.cons getop5 (fun K hK => ?_) ?_
          ·
            rw [if_pos (by rfl)]
            have HWF := (WB.new (ty := 28) (N := 2) (L := [.int .i64 0, .int .i64 0]) (hd0) rfl).keep (((Bel.refl (w5.drew.alloc (.cells [.int .i64 0, .int .i64 0].toArray 28))).trans g4).trans g5)
            have HJ := HWF.whole (L' := [.int .i64 m1, .int .i64 (innerOf m1 n1 (frameSize r true))]) rfl
            refine op_storeW (L := [.int .i64 m1, .int .i64 (innerOf m1 n1 (frameSize r true))]) hszS rfl (by rfl) (by rfl) rfl (by intro u hu; simp at hu; rcases hu with rfl | rfl <;> rfl) (HWF.there (o := 0) (m := 2) (by omega)) ?_
            refine hK.out _ _ (HJ.bel) (fun _ => ?_)
            clear hK K
            simp only [Act.put, List.setIfInBounds_toArray, List.set_cons_zero, List.set_cons_succ]
            exact wpAnyH_done (by kernel_rfl) (join_here (by kernel_rfl) ⟨_, rfl, hid' HJ⟩) _
          exact AllReadyH.nil
        exact AllReadyH.nil
      exact AllReadyH.nil
    exact AllReadyH.nil
  rintro y2 w6 ⟨g3, hy, HX1⟩
  simp only [setAll, List.foldl_cons, List.foldl_nil, List.setIfInBounds_toArray, List.set_cons_zero, List.set_cons_succ]
  rw [hy]
  clear hy hd0
  have HSS := hid' (fun u (hu : Bel w6 u) => HSS.out u (HX1.out.bel.trans hu))
  go_wp2_with fail
  have hd0 : Bel w6 w6.drew := (Bel.refl w6).drew
  refine wp_join [12, 29, 30, 31, 32] (fun y u => ∃ g4, y 12 = .pointer (some ⟨g4, 0, none⟩) ∧ Hid (WB w6 u 28 2 g4 [.int .i64 m2, .int .i64 (innerOf m2 n2 (frameSize r false))])) ?_ ?_
  ·
    refine wp_region_held_drew (S := (fun u => Bel w6 u)) (by kernel_rfl) hd0 (fun _ => ?_)
    refine wpAnyH_take (i := 0) (v := (spaceV m2 n2)) getop0 (by kernel_rfl) (by kernel_rfl) (by kernel_rfl) (by rintro c a w ⟨h, _⟩; cases h) (yieldsIf_load_mid (by rfl) 28 _ rfl (w.heap.size + 1 + 1) 0 rfl [.int .i64 m2, .int .i64 n2] _ (fun u hu => range_two ((HSS.out u hu).2.2.2.2.1) ((HSS.out u hu).2.2.2.2.2)) Tryz.underlying28 rfl (by kernel_rfl)) (hd0) ?_
    simp only [Act.put, List.setIfInBounds_toArray, List.set_cons_zero, List.set_cons_succ]
    refine wpAnyH_take (i := 1) (v := (.agg (styleL r).toArray)) getop1 (by kernel_rfl) (by kernel_rfl) (by kernel_rfl) (by rintro c a w ⟨h, _⟩; cases h) (yieldsIf_load_mid (by rfl) 47 _ rfl (g9) 0 rfl (styleL r) _ (fun u hu => (HSS.out u hu).1) Tryz.underlying47 rfl (by rw [h60]; kernel_rfl)) (hd0) ?_
    simp only [Act.put, List.setIfInBounds_toArray, List.set_cons_zero, List.set_cons_succ]
    refine wpAnyH_ready (rs := [2, 4]) (by kernel_rfl) (by simp) ?_
    refine AllReadyH.cons getop2 (fun K hK => ?_) ?_
    ·
      rw [if_pos (by rfl)]
      refine op_callN (xs := #[.tmp 30, .const (Value.bool false)]) (vs := #[(.agg (styleL r).toArray), .bool false]) rfl rfl (run_callFunc Tryz.func29 (by kernel_rfl) rfl) ((sFrameSize_c r false _).mono ?_)
      rintro e u1 ⟨rfl, g1⟩
      refine ⟨_, rfl, hK.out _ _ ((hd0).trans g1) (fun _ => ?_)⟩
      clear hK K
      simp only [Act.put, List.setIfInBounds_toArray, List.set_cons_zero, List.set_cons_succ]
      refine wpAnyH_ready (rs := [3, 4]) (by kernel_rfl) (by simp) ?_
      refine AllReadyH.cons getop3 (fun K hK => ?_) ?_
      ·
        rw [if_pos (by rfl)]
        refine op_callN (xs := #[.tmp 29, .tmp 31]) (vs := #[(spaceV m2 n2), .int .i64 (frameSize r false)]) rfl rfl (run_callFunc Tryz.func28 (by kernel_rfl) rfl) ((sInnerOf_c _ _ _ _).mono ?_)
        rintro e u2 ⟨rfl, g2⟩
        refine ⟨_, rfl, hK.out _ _ (((hd0).trans g1).trans g2) (fun _ => ?_)⟩
        clear hK K
        simp only [Act.put, List.setIfInBounds_toArray, List.set_cons_zero, List.set_cons_succ]
        refine wpAnyH_ready (rs := [4]) (by kernel_rfl) (by simp) ?_
        refine AllReadyH.cons getop4 (fun K hK => ?_) ?_
        ·
          rw [if_pos (by rfl)]
          refine op_allocW HIS.out rfl ?_
          refine hK.out _ _ ((((hd0).trans g1).trans g2).alloc _) (fun _ => ?_)
          clear hK K
          simp only [Act.put, List.setIfInBounds_toArray, List.set_cons_zero, List.set_cons_succ]
          refine wpAnyH_ready (rs := [5]) (by kernel_rfl) (by simp) ?_
          refine AllReadyH.cons getop5 (fun K hK => ?_) ?_
          ·
            rw [if_pos (by rfl)]
            have HWF := (WB.new (ty := 28) (N := 2) (L := [.int .i64 0, .int .i64 0]) (((hd0).trans g1).trans g2) rfl).keep (Bel.refl (u2.alloc (.cells [.int .i64 0, .int .i64 0].toArray 28)))
            have HJ := HWF.whole (L' := [.int .i64 m2, .int .i64 (innerOf m2 n2 (frameSize r false))]) rfl
            refine op_storeW (L := [.int .i64 m2, .int .i64 (innerOf m2 n2 (frameSize r false))]) hszS rfl (by rfl) (by rfl) rfl (by intro u hu; simp at hu; rcases hu with rfl | rfl <;> rfl) (HWF.there (o := 0) (m := 2) (by omega)) ?_
            refine hK.out _ _ (HJ.bel) (fun _ => ?_)
            clear hK K
            simp only [Act.put, List.setIfInBounds_toArray, List.set_cons_zero, List.set_cons_succ]
            exact wpAnyH_done (by kernel_rfl) (join_here (by kernel_rfl) ⟨_, rfl, hid' HJ⟩) _
          exact AllReadyH.nil
        exact AllReadyH.nil
      refine AllReadyH.cons getop4 (fun K hK => ?_) ?_
      ·
        rw [if_pos (by rfl)]
        refine op_allocW HIS.out rfl ?_
        refine hK.out _ _ (((hd0).trans g1).alloc _) (fun _ => ?_)
        clear hK K
        simp only [Act.put, List.setIfInBounds_toArray, List.set_cons_zero, List.set_cons_succ]
        refine wpAnyH_ready (rs := [3]) (by kernel_rfl) (by simp) ?_
        refine AllReadyH.cons getop3 (fun K hK => ?_) ?_
        ·
          rw [if_pos (by rfl)]
          refine op_callN (xs := #[.tmp 29, .tmp 31]) (vs := #[(spaceV m2 n2), .int .i64 (frameSize r false)]) rfl rfl (run_callFunc Tryz.func28 (by kernel_rfl) rfl) ((sInnerOf_c _ _ _ _).mono ?_)
          rintro e u3 ⟨rfl, g3⟩
          refine ⟨_, rfl, hK.out _ _ ((((hd0).trans g1).alloc _).trans g3) (fun _ => ?_)⟩
          clear hK K
          simp only [Act.put, List.setIfInBounds_toArray, List.set_cons_zero, List.set_cons_succ]
          refine wpAnyH_ready (rs := [5]) (by kernel_rfl) (by simp) ?_
          refine AllReadyH.cons getop5 (fun K hK => ?_) ?_
          ·
            rw [if_pos (by rfl)]
            have HWF := (WB.new (ty := 28) (N := 2) (L := [.int .i64 0, .int .i64 0]) ((hd0).trans g1) rfl).keep ((Bel.refl (u1.alloc (.cells [.int .i64 0, .int .i64 0].toArray 28))).trans g3)
            have HJ := HWF.whole (L' := [.int .i64 m2, .int .i64 (innerOf m2 n2 (frameSize r false))]) rfl
            refine op_storeW (L := [.int .i64 m2, .int .i64 (innerOf m2 n2 (frameSize r false))]) hszS rfl (by rfl) (by rfl) rfl (by intro u hu; simp at hu; rcases hu with rfl | rfl <;> rfl) (HWF.there (o := 0) (m := 2) (by omega)) ?_
            refine hK.out _ _ (HJ.bel) (fun _ => ?_)
            clear hK K
            simp only [Act.put, List.setIfInBounds_toArray, List.set_cons_zero, List.set_cons_succ]
            exact wpAnyH_done (by kernel_rfl) (join_here (by kernel_rfl) ⟨_, rfl, hid' HJ⟩) _
          exact AllReadyH.nil
        exact AllReadyH.nil
      exact AllReadyH.nil
    refine AllReadyH.cons getop4 (fun K hK => ?_) ?_
    ·
      rw [if_pos (by rfl)]
      refine op_allocW HIS.out rfl ?_
      refine hK.out _ _ ((hd0).alloc _) (fun _ => ?_)
      clear hK K
      simp only [Act.put, List.setIfInBounds_toArray, List.set_cons_zero, List.set_cons_succ]
      refine wpAnyH_ready (rs := [2]) (by kernel_rfl) (by simp) ?_
      refine AllReadyH.cons getop2 (fun K hK => ?_) ?_
      ·
        rw [if_pos (by rfl)]
        refine op_callN (xs := #[.tmp 30, .const (Value.bool false)]) (vs := #[(.agg (styleL r).toArray), .bool false]) rfl rfl (run_callFunc Tryz.func29 (by kernel_rfl) rfl) ((sFrameSize_c r false _).mono ?_)
        rintro e u4 ⟨rfl, g4⟩
        refine ⟨_, rfl, hK.out _ _ (((hd0).alloc _).trans g4) (fun _ => ?_)⟩
        clear hK K
        simp only [Act.put, List.setIfInBounds_toArray, List.set_cons_zero, List.set_cons_succ]
        refine wpAnyH_ready (rs := [3]) (by kernel_rfl) (by simp) ?_
        refine AllReadyH.cons getop3 (fun K hK => ?_) ?_
        ·
          rw [if_pos (by rfl)]
          refine op_callN (xs := #[.tmp 29, .tmp 31]) (vs := #[(spaceV m2 n2), .int .i64 (frameSize r false)]) rfl rfl (run_callFunc Tryz.func28 (by kernel_rfl) rfl) ((sInnerOf_c _ _ _ _).mono ?_)
          rintro e u5 ⟨rfl, g5⟩
          refine ⟨_, rfl, hK.out _ _ ((((hd0).alloc _).trans g4).trans g5) (fun _ => ?_)⟩
          clear hK K
          simp only [Act.put, List.setIfInBounds_toArray, List.set_cons_zero, List.set_cons_succ]
          refine wpAnyH_ready (rs := [5]) (by kernel_rfl) (by simp) ?_
          refine AllReadyH.cons getop5 (fun K hK => ?_) ?_
          ·
            rw [if_pos (by rfl)]
            have HWF := (WB.new (ty := 28) (N := 2) (L := [.int .i64 0, .int .i64 0]) (hd0) rfl).keep (((Bel.refl (w6.drew.alloc (.cells [.int .i64 0, .int .i64 0].toArray 28))).trans g4).trans g5)
            have HJ := HWF.whole (L' := [.int .i64 m2, .int .i64 (innerOf m2 n2 (frameSize r false))]) rfl
            refine op_storeW (L := [.int .i64 m2, .int .i64 (innerOf m2 n2 (frameSize r false))]) hszS rfl (by rfl) (by rfl) rfl (by intro u hu; simp at hu; rcases hu with rfl | rfl <;> rfl) (HWF.there (o := 0) (m := 2) (by omega)) ?_
            refine hK.out _ _ (HJ.bel) (fun _ => ?_)
            clear hK K
            simp only [Act.put, List.setIfInBounds_toArray, List.set_cons_zero, List.set_cons_succ]
            exact wpAnyH_done (by kernel_rfl) (join_here (by kernel_rfl) ⟨_, rfl, hid' HJ⟩) _
          exact AllReadyH.nil
        exact AllReadyH.nil
      exact AllReadyH.nil
    exact AllReadyH.nil
  rintro y3 w7 ⟨g4, hy, HX2⟩
  simp only [setAll, List.foldl_cons, List.foldl_nil, List.setIfInBounds_toArray, List.set_cons_zero, List.set_cons_succ]
  rw [hy]
  clear hy hd0
  have HP7 := hid' ((HP.out.keep HX1.out.bel).keep HX2.out.bel)
  have HX7 := hid' (HX1.out.keep HX2.out.bel)
  have hg3 : g < g3 := Nat.lt_of_lt_of_le HP.out.lt.2 HX1.out.lt.1
  have hg4 : g3 < g4 := Nat.lt_of_lt_of_le HX1.out.lt.2 HX2.out.lt.1
  clear HP HX1
  obtain ⟨x1, hx1⟩ : ∃ x, innerOf m1 n1 (frameSize r true) = x := ⟨_, rfl⟩
  obtain ⟨x2, hx2⟩ : ∃ x, innerOf m2 n2 (frameSize r false) = x := ⟨_, rfl⟩
  rw [hx1] at HX7
  rw [hx2] at HX2
  have HQ2 : Hid (WB w4 w7 50 68 g (wideL ((j : Int) + 1) r (tailU (isRow r) 0 0 0 0 0 (.slice B l d)))) := hid' (by rw [← HLP.out]; exact HP7.out)
  clear HP7
  have HRS : Hid (∀ z, upNew T j m1 n1 m2 n2 z (.slice B l d) = wideL ((j : Int) + 1) r (tailU (isRow r) (mainM (isRow r) m1 m2) (mainM (isRow r) x1 x2) (mainM (isRow r) m2 m1) (mainM (isRow r) x2 x1) z (.slice B l d))) := hid' (fun z => by rw [← hx1, ← hx2]; unfold upNew; rw [HRR.out]; simp [frameSize])
  clear hx1 hx2
  have a30 := HX7.out.cell (i := 0) rfl
  have a31 := HX7.out.cell (i := 1) rfl
  go_wp2_with fail
  refine (sKnown_c _ _ _).mono ?_; rintro e w8 ⟨z, rfl, hb8⟩
  clear a30 a31
  have HQ2 := hid' (HQ2.out.keep hb8)
  have HX7 := hid' (HX7.out.keep hb8)
  have HX2 := hid' (HX2.out.keep hb8)
  have HRS := hid' (HRS.out z)
  have a30 := HX7.out.cell (i := 0) rfl
  have a31 := HX7.out.cell (i := 1) rfl
  have a40 := HX2.out.cell (i := 0) rfl
  have a41 := HX2.out.cell (i := 1) rfl
  have n3 : ¬ g = g3 := by omega
  have n3' : ¬ g3 = g := by omega
  have n4 : ¬ g = g4 := by omega
  have n4' : ¬ g4 = g := by omega
  have HF : Hid (WB w4 (((((w8.setCell ⟨g, 66, none⟩ (.int .i64 z)).setCell ⟨g, 62, none⟩ (.int .i64 m1)).setCell ⟨g, 63, none⟩ (.int .i64 x1)).setCell ⟨g, 64, none⟩ (.int .i64 m2)).setCell ⟨g, 65, none⟩ (.int .i64 x2)) 50 68 g (wideL ((j : Int) + 1) r (tailU (isRow r) m1 x1 m2 x2 z (.slice B l d)))) := hid' (by
    have h0 := ((HQ2.out.put 66 [.int .i64 z]).put 62 [.int .i64 m1, .int .i64 x1]).put 64 [.int .i64 m2, .int .i64 x2]
    have e0 : setRun (wideL ((j : Int) + 1) r (tailU (isRow r) 0 0 0 0 0 (.slice B l d))) 66 [.int .i64 z] = wideL ((j : Int) + 1) r (tailU (isRow r) 0 0 0 0 z (.slice B l d)) := wideL_set _ _ _ _ 5 (by simp [tailU])
    have e1 : setRun (wideL ((j : Int) + 1) r (tailU (isRow r) 0 0 0 0 z (.slice B l d))) 62 [.int .i64 m1, .int .i64 x1] = wideL ((j : Int) + 1) r (tailU (isRow r) m1 x1 0 0 z (.slice B l d)) := wideL_set _ _ _ _ 1 (by simp [tailU])
    have e2 : setRun (wideL ((j : Int) + 1) r (tailU (isRow r) m1 x1 0 0 z (.slice B l d))) 64 [.int .i64 m2, .int .i64 x2] = wideL ((j : Int) + 1) r (tailU (isRow r) m1 x1 m2 x2 z (.slice B l d)) := wideL_set _ _ _ _ 3 (by simp [tailU])
    rw [e0, e1, e2] at h0
    simp only [World.setCells, Nat.reduceAdd] at h0
    exact h0)
  have HF2 : Hid (WB w4 (((((((((w8.setCell ⟨g, 66, none⟩ (.int .i64 z)).setCell ⟨g, 62, none⟩ (.int .i64 m1)).setCell ⟨g, 63, none⟩ (.int .i64 x1)).setCell ⟨g, 64, none⟩ (.int .i64 m2)).setCell ⟨g, 65, none⟩ (.int .i64 x2)).setCell ⟨g, 62, none⟩ (.int .i64 m2)).setCell ⟨g, 63, none⟩ (.int .i64 x2)).setCell ⟨g, 64, none⟩ (.int .i64 m1)).setCell ⟨g, 65, none⟩ (.int .i64 x1)) 50 68 g (wideL ((j : Int) + 1) r (tailU (isRow r) m2 x2 m1 x1 z (.slice B l d)))) := hid' (by
    have h0 := (HF.out.put 62 [.int .i64 m2, .int .i64 x2]).put 64 [.int .i64 m1, .int .i64 x1]
    have e1 : setRun (wideL ((j : Int) + 1) r (tailU (isRow r) m1 x1 m2 x2 z (.slice B l d))) 62 [.int .i64 m2, .int .i64 x2] = wideL ((j : Int) + 1) r (tailU (isRow r) m2 x2 m2 x2 z (.slice B l d)) := wideL_set _ _ _ _ 1 (by simp [tailU])
    have e2 : setRun (wideL ((j : Int) + 1) r (tailU (isRow r) m2 x2 m2 x2 z (.slice B l d))) 64 [.int .i64 m1, .int .i64 x1] = wideL ((j : Int) + 1) r (tailU (isRow r) m2 x2 m1 x1 z (.slice B l d)) := wideL_set _ _ _ _ 3 (by simp [tailU])
    rw [e1, e2] at h0
    simp only [World.setCells, Nat.reduceAdd] at h0
    exact h0)
  have c61 := HQ2.out.cell ((wideL_get _ _ _ 0).trans rfl)
  have c62 := HQ2.out.cell ((wideL_get _ _ _ 1).trans rfl)
  have c63 := HQ2.out.cell ((wideL_get _ _ _ 2).trans rfl)
  have c64 := HQ2.out.cell ((wideL_get _ _ _ 3).trans rfl)
  have c65 := HQ2.out.cell ((wideL_get _ _ _ 4).trans rfl)
  have c66 := HQ2.out.cell ((wideL_get _ _ _ 5).trans rfl)
  rw [show 61 + 0 = 61 from rfl] at c61
  rw [show 61 + 1 = 62 from rfl] at c62
  rw [show 61 + 2 = 63 from rfl] at c63
  rw [show 61 + 3 = 64 from rfl] at c64
  rw [show 61 + 4 = 65 from rfl] at c65
  rw [show 61 + 5 = 66 from rfl] at c66
  have f62 := HQ2.out.free 62
  have f63 := HQ2.out.free 63
  have f64 := HQ2.out.free 64
  have f65 := HQ2.out.free 65
  have f66 := HQ2.out.free 66
  cases hrow : isRow r
  · have HP1 := HF2
    have e61 := HP1.out.cell ((wideL_get _ _ _ 0).trans rfl)
    rw [hrow, show 61 + 0 = 61 from rfl] at e61
    have HE1 : Hid (upNew T j m1 n1 m2 n2 z (.slice B l d) = wideL ((j : Int) + 1) r (tailU false m2 x2 m1 x1 z (.slice B l d))) := hid' (by rw [HRS.out, hrow]; simp only [mainM, if_true, Bool.false_eq_true, if_false])
    rw [hrow, ← HE1.out] at HP1
    have HPL : Hid ((upNew T j m1 n1 m2 n2 z (.slice B l d)).length = 68) := hid' HP1.out.len
    have HPO : Hid (∀ u ∈ upNew T j m1 n1 m2 n2 z (.slice B l d), u.oneCell' = true) := hid' (by rw [HRS.out]; exact wideL_one _ _ (tailU_one _ _ _ _ _ _ _ _ _))
    clear HE1
    obtain ⟨PO, hPO⟩ : ∃ PO, upNew T j m1 n1 m2 n2 z (.slice B l d) = PO := ⟨_, rfl⟩
    rw [hPO] at HP1 HPL HPO
    have HPOE := Lib.hid hPO
    rw [hrow] at c61
    clear hrow hPO
    have HTH := hid' ((HWR.out.keep (HB14.out.trans HP1.out.bel)).there (o := 0) (m := 68) (by omega))
    obtain ⟨W7, hW7⟩ : ∃ W7, (((((((((w8.setCell ⟨g, 66, none⟩ (.int .i64 z)).setCell ⟨g, 62, none⟩ (.int .i64 m1)).setCell ⟨g, 63, none⟩ (.int .i64 x1)).setCell ⟨g, 64, none⟩ (.int .i64 m2)).setCell ⟨g, 65, none⟩ (.int .i64 x2)).setCell ⟨g, 62, none⟩ (.int .i64 m2)).setCell ⟨g, 63, none⟩ (.int .i64 x2)).setCell ⟨g, 64, none⟩ (.int .i64 m1)).setCell ⟨g, 65, none⟩ (.int .i64 x1)) = W7 := ⟨_, rfl⟩
    rw [hW7] at HP1 HTH e61
    go_wp2_with (first
      | ((with_reducible show wpList _ _ _ (Oper.mk _ (Op.load 50 _) _ _ _ _ :: _) _ _); (try rw [hW7]); refine wpList_load_mid rfl 50 _ rfl g 0 rfl PO _ HP1.out.rng Tryz.underlying50 rfl (by rw [HPL.out]; kernel_rfl) ?_)
      | ((with_reducible show wpList _ _ _ (Oper.mk _ (Op.store 50 _ _) _ _ _ _ :: _) _ _); refine storeW (ty := 50) (N := 68) (L := PO) (by kernel_rfl) rfl _ _ rfl (w.heap.size + 1 + 1 + 1) (by rfl) (by rfl) HPL.out HPO.out HTH.out ?_; intro w9 H9))
    exact bodyPost_ret_by (results_cell_any Tryz.results16 _ _ (w.heap.size + 1 + 1 + 1) _ _ rfl H9.out.1 Tryz.underlying50 rfl (by rw [HPL.out]; kernel_rfl)) rfl ⟨z, B, l, d, by rw [HPOE.out], (HB1.out.trans (HB14.out.trans HP1.out.bel)).grown H9.out.2 (fun q e => by injection e with e; omega)⟩
  · have HP1 := HF
    have e61 := HP1.out.cell ((wideL_get _ _ _ 0).trans rfl)
    rw [hrow, show 61 + 0 = 61 from rfl] at e61
    have HE1 : Hid (upNew T j m1 n1 m2 n2 z (.slice B l d) = wideL ((j : Int) + 1) r (tailU true m1 x1 m2 x2 z (.slice B l d))) := hid' (by rw [HRS.out, hrow]; simp only [mainM, if_true, Bool.false_eq_true, if_false])
    rw [hrow, ← HE1.out] at HP1
    have HPL : Hid ((upNew T j m1 n1 m2 n2 z (.slice B l d)).length = 68) := hid' HP1.out.len
    have HPO : Hid (∀ u ∈ upNew T j m1 n1 m2 n2 z (.slice B l d), u.oneCell' = true) := hid' (by rw [HRS.out]; exact wideL_one _ _ (tailU_one _ _ _ _ _ _ _ _ _))
    clear HE1
    obtain ⟨PO, hPO⟩ : ∃ PO, upNew T j m1 n1 m2 n2 z (.slice B l d) = PO := ⟨_, rfl⟩
    rw [hPO] at HP1 HPL HPO
    have HPOE := Lib.hid hPO
    rw [hrow] at c61
    clear hrow hPO
    have HTH := hid' ((HWR.out.keep (HB14.out.trans HP1.out.bel)).there (o := 0) (m := 68) (by omega))
    obtain ⟨W7, hW7⟩ : ∃ W7, (((((w8.setCell ⟨g, 66, none⟩ (.int .i64 z)).setCell ⟨g, 62, none⟩ (.int .i64 m1)).setCell ⟨g, 63, none⟩ (.int .i64 x1)).setCell ⟨g, 64, none⟩ (.int .i64 m2)).setCell ⟨g, 65, none⟩ (.int .i64 x2)) = W7 := ⟨_, rfl⟩
    rw [hW7] at HP1 HTH e61
    go_wp2_with (first
      | ((with_reducible show wpList _ _ _ (Oper.mk _ (Op.load 50 _) _ _ _ _ :: _) _ _); (try rw [hW7]); refine wpList_load_mid rfl 50 _ rfl g 0 rfl PO _ HP1.out.rng Tryz.underlying50 rfl (by rw [HPL.out]; kernel_rfl) ?_)
      | ((with_reducible show wpList _ _ _ (Oper.mk _ (Op.store 50 _ _) _ _ _ _ :: _) _ _); refine storeW (ty := 50) (N := 68) (L := PO) (by kernel_rfl) rfl _ _ rfl (w.heap.size + 1 + 1 + 1) (by rfl) (by rfl) HPL.out HPO.out HTH.out ?_; intro w9 H9))
    exact bodyPost_ret_by (results_cell_any Tryz.results16 _ _ (w.heap.size + 1 + 1 + 1) _ _ rfl H9.out.1 Tryz.underlying50 rfl (by rw [HPL.out]; kernel_rfl)) rfl ⟨z, B, l, d, by rw [HPOE.out], (HB1.out.trans (HB14.out.trans HP1.out.bel)).grown H9.out.2 (fun q e => by injection e with e; omega)⟩
end Go.Proofs.YtkoljbndbomhdaaGreat
