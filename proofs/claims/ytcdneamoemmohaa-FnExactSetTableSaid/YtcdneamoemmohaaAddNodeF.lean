/- AddNode, both sides. -/
import Derived.Test.YtcdneamoemmohaaRemKid
import Derived.Deep.RegionHeld3
namespace Go.Proofs.Ytcdneamoemmohaa
open Go.RowKit Go.ChangeShapes Go.WideShapes
set_option linter.unusedVariables false
set_option linter.unusedSimpArgs false

def newNode (s : Rec) : NodeD := ⟨0, [], s, false, []⟩
def addNodeT (T : List NodeD) (s : Rec) : List NodeD × Int := if treeOk T = true ∧ styleOk s = true ∧ T.length < 12 then (T ++ [newNode s], (T.length : Int) + 1) else (T, 0)
theorem Fam.addNil {w : World} {base : Nat} {F : List Row} {r : Row} (h : Fam w base F) (hr : r.own w base) (hn : r.v.ownBlock = none) : Fam w base (F ++ [r]) := by
  refine ⟨fun a ha => ?_, ?_⟩
  · rcases List.mem_append.1 ha with ha | ha
    · exact h.1 a ha
    · simp at ha; subst ha; exact hr
  · refine List.pairwise_append.2 ⟨h.2, List.pairwise_singleton _ _, fun a ha b hb => ?_⟩
    simp at hb
    subst hb
    exact Row.apart.symm (.inl hn)
theorem fold_off : ∀ (l : List Value) (p : Nat) (xs : List Value) (k : Nat), ((l.zipIdx k).foldl (fun (cs : Array Value) (q : Value × Nat) => cs.setIfInBounds (p + q.2) q.1) xs.toArray) = (setRun xs (p + k) l).toArray
  | [], p, xs, k => rfl
  | v :: l, p, xs, k => by
    simp only [List.zipIdx_cons, List.foldl_cons, setRun]
    have e : xs.toArray.setIfInBounds (p + k) v = (xs.set (p + k) v).toArray := by simp
    rw [e, fold_off l p (xs.set (p + k) v) (k + 1), Nat.add_assoc]
theorem fill_at (place : Nat → Option (Nat × Nat)) (xs L : List Value) (i off n : Nat) (hp : place i = some (off, n)) (hL : L.length = n) (hl : off + n ≤ xs.length) : Instr.fill place xs.toArray [(i, .agg L.toArray)] = some (setRun xs off L).toArray := by
  have hz : (Value.agg L.toArray).cells.size = n := by simpa [Value.cells] using hL
  have h0 : ¬ ((Value.agg L.toArray).cells.size ≠ n ∨ xs.toArray.size < off + (Value.agg L.toArray).cells.size) := by rw [hz]; simp; omega
  have e : ((Value.agg L.toArray).cells.zipIdx.foldl (fun cs (p : Value × Nat) => cs.setIfInBounds (off + p.2) p.1) xs.toArray) = (setRun xs off L).toArray := by
    have := fold_off L off xs 0
    rw [Nat.add_zero] at this
    rw [← this]
    simp [Value.cells]
  unfold Instr.fill
  simp only [hp, Bool.or_eq_true, decide_eq_true_eq, if_neg h0]
  unfold Instr.fill
  exact congrArg some e
theorem znode_eq : znode = nodeL ⟨0, [], Rec.zero, false, []⟩ (.slice none 0 0) (.slice none 0 0) := rfl
set_option maxRecDepth 100000 in
theorem run_buildNew (w : World) (s : Rec) : (Instr.build 77 #[(2, styleV s)]).run Try.prog w = .ok (.agg (nodeL (newNode s) (.slice none 0 0) (.slice none 0 0)).toArray) w := by
  obtain ⟨i0, hi, hz0, hz1, hz2⟩ := info_parts Try.info_node
  obtain ⟨zs, hzs⟩ : ∃ zs, znode.toArray = zs := ⟨_, rfl⟩
  obtain ⟨v, hv⟩ : ∃ v, styleV s = v := ⟨_, rfl⟩
  rw [hzs] at hz0
  rw [hv]
  have sz : ∀ (t n : Nat), (Try.prog.info? t).map (·.size) = some n → ∀ u, (sizeOf t).run Try.prog u = .ok n u := fun t n h u => by
    cases hq : Try.prog.info? t with
    | none => rw [hq] at h; simp at h
    | some i => rw [hq] at h; simp at h; simp [sizeOf, typeInfo, hq, h]
  have s1 := sz 3 1 (by kernel_rfl)
  have s2 := sz 26 1 (by kernel_rfl)
  have s3 := sz 68 60 (by kernel_rfl)
  have s4 := sz 4 1 (by kernel_rfl)
  have s5 := sz 45 1 (by kernel_rfl)
  clear sz
  unfold Instr.build
  have hz : (zeroValue 77).run Try.prog w = .ok (.agg zs) w := by simp [zeroValue, typeInfo, hi, hz0]
  rw [Sem.run_bind, hz]
  simp only [Result.andThen_ok]
  rw [Sem.run_bind, run_underlying Try.underlying77 w]
  simp only [Result.andThen_ok]
  have hf := fill_at (fun x => [(0, 1), (1, 1), (2, 60), (62, 1), (63, 1)][x]?) znode (styleL s) 2 2 60 rfl (styleL_length s) (by decide)
  have hw : setRun znode 2 (styleL s) = nodeL (newNode s) (.slice none 0 0) (.slice none 0 0) := by rw [znode_eq, nodeL_setStyle]; rfl
  rw [hzs, hw] at hf
  have hf' : Instr.fill (fun x => [(0, 1), (1, 1), (2, 60), (62, 1), (63, 1)][x]?) zs [(2, v)] = some (nodeL (newNode s) (.slice none 0 0) (.slice none 0 0)).toArray := by rw [← hv]; exact hf
  simp [Sem.run_bind, s1, s2, s3, s4, s5, Value.cells, hf']
theorem buildNew {w : World} {ops : Array Oper} {rest : List Oper} {op : Oper} {a : Act} {Q : Exit → Act → World → Prop} (hgd : op.guard = none) (x : Operand) (ho : op.op = .build 77 #[(2, x)]) (s : Rec) (hx : a.eval x = styleV s)
    (h : wpList Try.prog ops Q rest (a.put op.dst (.agg (nodeL (newNode s) (.slice none 0 0) (.slice none 0 0)).toArray)) w) : wpList Try.prog ops Q (op :: rest) a w :=
  wpList_plain hgd fun _ hK => by
    unfold Oper.wp execOp
    simp only [ho, List.map_toArray, List.map_cons, List.map_nil, hx, Sem.run_bind, Sem.run_pure, Result.andThen_ok, run_buildNew w s]
    exact hK _ _ h
/-- one cell stored, the world behind it a letter -/
theorem storeC1 {w : World} {ops : Array Oper} {rest : List Oper} {op : Oper} {a : Act} {Q : Exit → Act → World → Prop} (hgd : op.guard = none) (ty : TypeId) (x y : Operand) (ho : op.op = .store ty x y) (b o : Nat) (hx : a.eval x = .pointer (some ⟨b, o, none⟩)) (v old : Value)
    (hy : a.eval y = v) (hv : v.cells = #[v]) (h1 : v.oneCell' = true) (hty : (Try.prog.info? ty).map (·.size) = some 1) (hc : w.cell? ⟨b, o, none⟩ = some old) (hf : w.frozen? ⟨b, o, none⟩ = false)
    (h : ∀ w', Hid (w' = w.setCell ⟨b, o, none⟩ v) → wpList Try.prog ops Q rest (a.put op.dst undef) w') : wpList Try.prog ops Q (op :: rest) a w := by
  refine wpList_store_any hgd ty x y ho b o v hx hy (by rw [hv]; intro j hj; simp at hj; subst hj; exact ⟨by rw [Nat.add_zero, hc]; rfl, by rw [Nat.add_zero]; exact hf⟩) (by rw [hv]; exact hty) (by rw [hv]; intro q hq; simp at hq; subst hq; exact h1) (h _ (hid' ?_))
  rw [hv]
  rfl
theorem load_guarded {w : World} {ops : Array Oper} {rest : List Oper} {op : Oper} {a : Act} {Q : Exit → Act → World → Prop} (hwant : Region.wanted op (yielded ops a.tmps) = true) (ty : TypeId) (x : Operand) (ho : op.op = .load ty x)
    (b o : Nat) (hx : a.eval x = .pointer (some ⟨b, o, none⟩)) (cs : List Value) (d : TypeDesc) (hc : w.rangeAt b o cs) (hu : Try.prog.underlying ty = some d) (hd : d.isRow = true) (hi : (Try.prog.info? ty).map (·.size) = some cs.length)
    (h : wpList Try.prog ops Q rest (a.put op.dst (.agg cs.toArray)) w) : wpList Try.prog ops Q (op :: rest) a w :=
  wpList_step fun K hK => by
    rw [if_pos hwant]
    exact wp_load_mid ty x ho b o hx cs d hc hu hd hi (hK _ _ h)
def bx (b : Nat) (v : Value) : Row := ⟨30, 1, .slice (some ⟨b, 0, none⟩) 1 1, 1, [v]⟩
theorem add_push {w w8 w9 : World} {base n c b : Nat} {A : Option Addr} {v' u old : Value} {T : List NodeD} {s : Rec} {KS RS : List Value} (hK : KS.length = T.length) (hR : RS.length = T.length) (hF : Fam w base (treeF (.slice A n c) T KS RS ++ [bx b old])) (hg : w.grownBy w8 (Value.slice A n c).ownBlock)
    (ho : w8.ownsRow base 77 64 v' (T.length + 1) (nodesL KS RS T ++ nodeL (newNode s) (.slice none 0 0) (.slice none 0 0))) (hv : v'.ownBlock = (Value.slice A n c).ownBlock ∨ v'.ownBlock = some w.heap.size) (h9 : w9 = w8.setCell ⟨b, 0, none⟩ u) : TreeAt w9 base v' (T ++ [newNode s]) := by
  have h2 := Fam.write (i := 0) (r := ⟨77, 64, .slice A n c, T.length, nodesL KS RS T⟩) hF rfl hg ⟨77, 64, v', T.length + 1, nodesL KS RS T ++ nodeL (newNode s) (.slice none 0 0) (.slice none 0 0)⟩ hv ho
  have h2' : Fam w8 base ((⟨77, 64, v', T.length + 1, nodesL KS RS T ++ nodeL (newNode s) (.slice none 0 0) (.slice none 0 0)⟩ :: nodeRows KS RS T) ++ [bx b old]) := h2
  have hb : (bx b old).own w8 base := h2'.1 _ (by simp)
  have hs := World.ownsRow.stored (show w8.ownsRow base 30 1 (.slice (some ⟨b, 0, none⟩) 1 1) 1 [old] from hb) 0 u
  have h5 := Fam.write (i := (nodeRows KS RS T).length + 1) (r := bx b old) h2' (by simp) hs.2 (bx b u) (.inl rfl) hs.1
  rw [← h9] at h5
  have h6 : Fam w9 base (⟨77, 64, v', T.length + 1, nodesL KS RS T ++ nodeL (newNode s) (.slice none 0 0) (.slice none 0 0)⟩ :: nodeRows KS RS T) := by
    rw [List.set_append_right _ _ (by simp)] at h5
    exact h5.left
  have h3 := Fam.addNil (r := kidsRow (.slice none 0 0) []) h6 ⟨rfl, .inl ⟨rfl, rfl⟩⟩ rfl
  have h4 := Fam.addNil (r := rulesRow (.slice none 0 0) []) h3 ⟨rfl, .inl ⟨rfl, rfl⟩⟩ rfl
  refine ⟨KS ++ [.slice none 0 0], RS ++ [.slice none 0 0], by simp [hK], by simp [hR], ?_⟩
  unfold treeF
  rw [nodesL_snoc _ _ _ hK hR, nodeRows_snoc _ _ _ hK hR, List.length_append]
  simp only [List.append_assoc, List.cons_append] at h4
  exact h4
set_option maxRecDepth 100000 in
set_option maxHeartbeats 4000000 in
theorem iAddNode_c (A : Option Addr) (c : Nat) (T : List NodeD) (s : Rec) (w : World) (h : NodesC w A T) (hn : treeSz T ≤ 1048576) :
    Calls Try.prog 37 #[treeV A T.length c, styleV s] w fun e w' => ∃ A' c', e = .returned (.tuple #[treeV A' (addNodeT T s).1.length c', .int .i64 (addNodeT T s).2]) ∧ TreeAt w' w.heap.size (.slice A' (addNodeT T s).1.length c') (addNodeT T s).1 ∧ Bel w w' := by
  have hT := len_of hn
  have HKR := hid' (kr_of hn)
  have HN := Lib.hid hn
  clear hn
  have hl60 := styleL_length s
  obtain ⟨W0, hW0⟩ : ∃ W0, W0 = ((w.alloc (.cells #[.slice A T.length c] 30)).alloc (.cells (styleL s).toArray 68)).alloc (.cells #[.slice none 0 0] 30) := ⟨_, rfl⟩
  have HWB : Hid (Bel w W0) := hid' (by rw [hW0]; exact (((Bel.refl w).alloc _).alloc _).alloc _)
  have HS : Hid (W0.heap.size = w.heap.size + 1 + 1 + 1) := hid' (by rw [hW0]; simp)
  have HK1 : Hid (∀ u, Bel W0 u → u.cell? ⟨w.heap.size, 0, none⟩ = some (.slice A T.length c)) := hid' (fun u hu => by
    have hb : Bel (w.alloc (.cells #[.slice A T.length c] 30)) W0 := by rw [hW0]; exact ((Bel.refl _).alloc _).alloc _
    exact ((hb.trans hu).cell _ _ (by simp)).trans (by simp))
  have HK2 : Hid (∀ u, Bel W0 u → u.rangeAt (w.heap.size + 1) 0 (styleL s)) := hid' (fun u hu q v hq => by
    have hq60 := lt_of_get hq
    have hb : Bel (w.alloc (.cells #[.slice A T.length c] 30)) W0 := by rw [hW0]; exact ((Bel.refl _).alloc _).alloc _
    have hb1 : Bel ((w.alloc (.cells #[.slice A T.length c] 30)).alloc (.cells (styleL s).toArray 68)) u := by
      have : Bel ((w.alloc (.cells #[.slice A T.length c] 30)).alloc (.cells (styleL s).toArray 68)) W0 := by rw [hW0]; exact (Bel.refl _).alloc _
      exact this.trans hu
    have hz : (w.alloc (.cells #[.slice A T.length c] 30)).heap.size = w.heap.size + 1 := by simp
    rw [hb1.cell _ _ (by simp), Nat.zero_add, ← hz]
    exact new_cells _ _ _ q v hq)
  have HK3 : Hid (∀ u, Bel W0 u → u.cell? ⟨w.heap.size + 1 + 1, 0, none⟩ = some (.slice none 0 0) ∧ u.frozen? ⟨w.heap.size + 1 + 1, 0, none⟩ = false) := hid' (fun u hu => by
    have hz : ((w.alloc (.cells #[.slice A T.length c] 30)).alloc (.cells (styleL s).toArray 68)).heap.size = w.heap.size + 1 + 1 := by simp
    rw [hW0] at hu
    rw [← hz]
    exact ⟨(hu.cell _ _ (by simp)).trans (new_cell1 _ _ _).1, (hu.frozen _ _ (by simp)).trans (new_cell1 _ _ _).2⟩)
  go_enter Try.func37, Try.ntmps37
  unfold styleV
  go_wp2_with fail
  rw [← hW0]
  clear hW0
  refine (iCopyTree_c _ _ _ _ (h.keep HWB.out) HN.out).mono ?_; rintro e w1 ⟨A1, c1, rfl, ht1, hb1⟩
  have HT1 := Lib.hid ht1
  clear ht1
  have hcA := HK1.out _ (hb1.alloc (.cells #[.slice A1 T.length c1] 30))
  have hlb1 : w.heap.size + 1 + 1 < w1.heap.size := by have := hb1.sz; rw [HS.out] at this; omega
  have HB1 := Lib.hid hb1
  go_wp2_with fail
  obtain ⟨w2, hw2⟩ : ∃ w2, w2 = w1.alloc (.cells #[.slice A1 T.length c1] 30) := ⟨_, rfl⟩
  rw [← hw2] at hcA ⊢
  have HOC : Hid (∀ u, Bel w2 u → u.cell? ⟨w1.heap.size, 0, none⟩ = some (.slice A1 T.length c1)) := hid' (fun u hu => by rw [hu.cell _ _ (by rw [hw2]; simp), hw2]; simp)
  have HB2 : Hid (Bel w1 w2) := hid' (by rw [hw2]; exact (Bel.refl w1).alloc _)
  have HL2 : Hid (w1.heap.size < w2.heap.size) := hid' (by rw [hw2]; simp)
  have HBX : Hid ((bx w1.heap.size (.slice A1 T.length c1)).own w2 w1.heap.size) := hid' (by rw [hw2]; exact World.ownsRow_lit (e := 30) (size := 1) w1 #[.slice A1 T.length c1] 1 (Nat.le_refl _) (by unfold maxLen; omega) rfl)
  have HF2 : Hid (w2.frozen? ⟨w1.heap.size, 0, none⟩ = false) := hid' (by rw [hw2]; exact (new_cell1 _ _ _).2)
  clear hw2 hcA hb1
  have HB02 := hid' (HB1.out.trans HB2.out)
  refine (iTreeOk_c _ _ _ _ (h.nodes.keep (HWB.out.trans HB02.out)) hT HKR.out).mono ?_; rintro e w3 ⟨rfl, hb3⟩
  have HB03 := hid' (HB02.out.trans hb3)
  have hc1 := HK1.out _ HB03.out
  have hc3 := (HK3.out _ HB03.out).1
  have hf3 := (HK3.out _ HB03.out).2
  have hco := HOC.out _ hb3
  have HT3 := hid' (HT1.out.keep (HB2.out.trans hb3))
  cases ht : treeOk T
  · have HR : Hid (addNodeT T s = (T, 0)) := hid' (by simp [addNodeT, ht])
    go_wp2_with fail
    refine bodyPost_ret (v := .tuple #[.agg #[.slice A1 T.length c1], .int .i64 (0)]) (by simp [results, Try.results37, go_sem, *]) rfl ⟨_, _, by (rw [HR.out]; try (first | rfl | (rw [← HLS.out]))), ?_, ?_⟩
    · rw [HR.out]
      exact (TreeAt.far HT3.out (grown_set _ _ _) (by rw [HS.out]; omega)).base (by rw [HS.out]; omega)
    · exact (HWB.out.trans HB03.out).setCell (show w.heap.size ≤ w.heap.size + 1 + 1 by omega) _
  · have HTO := Lib.hid ht
    clear ht
    have HSR := HK2.out _ HB03.out
    go_wp2_with ((with_reducible show wpList _ _ _ (Oper.mk _ (Op.load _ _) _ _ _ _ :: _) _ _); refine load_guarded (by rfl) 68 _ rfl (w.heap.size + 1) 0 rfl (styleL s) _ HSR Try.underlying68 rfl (by rw [hl60]; kernel_rfl) ?_)
    refine (iStyleOk_c s _).mono ?_; rintro e w5 ⟨rfl, hb5⟩
    have HB05 := hid' (HB03.out.trans hb5)
    have HB25 := hid' (hb3.trans hb5)
    clear hc1 hc3 hf3 hco HSR
    have hc1 := HK1.out _ HB05.out
    have hc3 := (HK3.out _ HB05.out).1
    have hf3 := (HK3.out _ HB05.out).2
    have hco := HOC.out _ HB25.out
    have HT5 := hid' (HT3.out.keep hb5)
    cases hs : styleOk s
    · have HR : Hid (addNodeT T s = (T, 0)) := hid' (by simp [addNodeT, hs])
      go_wp2_with fail
      refine bodyPost_ret (v := .tuple #[.agg #[.slice A1 T.length c1], .int .i64 (0)]) (by simp [results, Try.results37, go_sem, *]) rfl ⟨_, _, by (rw [HR.out]; try (first | rfl | (rw [← HLS.out]))), ?_, ?_⟩
      · rw [HR.out]
        exact (TreeAt.far HT5.out (grown_set _ _ _) (by rw [HS.out]; omega)).base (by rw [HS.out]; omega)
      · exact (HWB.out.trans HB05.out).setCell (show w.heap.size ≤ w.heap.size + 1 + 1 by omega) _
    · have HSO := Lib.hid hs
      clear hs
      by_cases hl : T.length < 12
      · have hl12 : (T.length : Int) < 12 := by omega
        have HR : Hid (addNodeT T s = (T ++ [newNode s], (T.length : Int) + 1)) := hid' (by simp [addNodeT, HTO.out, HSO.out, hl])
        have HSR := HK2.out _ HB05.out
        obtain ⟨KS, RS, k1, k2, hF1⟩ := HT1.out
        have HF5 := hid' ((hF1.add1 HB2.out HBX.out HB1.out.sz).keep HB25.out)
        clear hF1
        have hfo : w5.frozen? ⟨w1.heap.size, 0, none⟩ = false := (HB25.out.frozen _ _ HL2.out).trans HF2.out
        have HLT : Hid (∀ q, (Value.slice A1 T.length c1).ownBlock = some q → W0.heap.size ≤ q ∧ q < w1.heap.size) := hid' (fun q hq => by
          obtain ⟨KS', RS', _, _, hF'⟩ := HT1.out
          exact World.ownsRow.lt (hF'.1 ⟨77, 64, .slice A1 T.length c1, T.length, nodesL KS' RS' T⟩ (by simp [treeF])) q hq)
        have hlw : w1.heap.size < w5.heap.size := Nat.lt_of_lt_of_le HL2.out HB25.out.sz
        go_wp2_with (first
          | ((with_reducible show wpList _ _ _ (Oper.mk _ (Op.load _ _) _ _ _ _ :: _) _ _); refine wpList_load_mid rfl 68 _ rfl (w.heap.size + 1) 0 rfl (styleL s) _ HSR Try.underlying68 rfl (by rw [hl60]; kernel_rfl) ?_)
          | ((with_reducible show wpList _ _ _ (Oper.mk _ (Op.build _ _) _ _ _ _ :: _) _ _); refine buildNew rfl _ rfl s rfl ?_)
          | ((with_reducible show wpList _ _ _ (Oper.mk _ (Op.buildSlice _ _ _) _ _ _ _ :: _) _ _); refine buildNode rfl _ rfl (nodeL (newNode s) (.slice none 0 0) (.slice none 0 0)) (nodeL_length _ _ _) rfl ?_; intro w7 H7
             have HB7 : Hid (Bel w5 w7) := hid' (by rw [H7.out]; exact (Bel.refl w5).alloc _))
          | (at_builtin; refine appG rfl (.tmp 25) (.tmp 28) 28 77 rfl (.agg znode.toArray) 64 536 Try.underlying28 Try.info_node rfl (by decide) (by decide) W0.heap.size (.slice A1 T.length c1) T.length (nodesL KS RS T) (by rfl)
               (own_keep (show w5.ownsRow W0.heap.size 77 64 (.slice A1 T.length c1) T.length (nodesL KS RS T) from HF5.out.1 ⟨77, 64, .slice A1 T.length c1, T.length, nodesL KS RS T⟩ (by simp [treeF])) HB7.out) w5.heap.size rfl
               (nodeL (newNode s) (.slice none 0 0) (.slice none 0 0)) (nodeL_length _ _ _) (fun j u hj => by rw [H7.out]; exact new_cells w5 _ _ j u hj) (nodeL_one _ rfl rfl) (by omega) (HB05.out.trans HB7.out).sz ?_
             intro v8 w8 ho8 hg8 hv8
             obtain ⟨g8, c8, rfl⟩ := own_pos ho8
             have HP8 : Hid (∀ w9, w9 = w8.setCell ⟨w1.heap.size, 0, none⟩ (.slice (some ⟨g8, 0, none⟩) (T.length + 1) c8) → TreeAt w9 W0.heap.size (.slice (some ⟨g8, 0, none⟩) (T.length + 1) c8) (T ++ [newNode s])) := hid' (fun w9 h9 => add_push k1 k2 (HF5.out.keep HB7.out) hg8 ho8 hv8 h9)
             have HB8 : Hid (Bel W0 w8) := hid' ((HB05.out.trans HB7.out).grown hg8 (fun q hq => (HLT.out q hq).1))
             have hc8 := ((World.grownBy.cell_far hg8 ⟨w1.heap.size, 0, none⟩ (Nat.lt_of_lt_of_le hlw HB7.out.sz) (fun e => absurd (HLT.out _ e.symm).2 (Nat.lt_irrefl _))).trans (HB7.out.cell _ _ hlw)).trans hco
             have hf8 := ((World.grownBy.frozen_far hg8 ⟨w1.heap.size, 0, none⟩ (Nat.lt_of_lt_of_le hlw HB7.out.sz) (fun e => absurd (HLT.out _ e.symm).2 (Nat.lt_irrefl _))).trans (HB7.out.frozen _ _ hlw)).trans hfo
             clear ho8 hg8 hv8)
          | ((with_reducible show wpList _ _ _ (Oper.mk _ (Op.store _ _ _) _ _ _ _ :: _) _ _); refine storeC1 rfl 28 _ _ rfl w1.heap.size 0 rfl (.slice (some ⟨g8, 0, none⟩) (T.length + 1) c8) _ rfl rfl rfl (by kernel_rfl) hc8 hf8 ?_; intro w9 H9
             have HB9 : Hid (Bel W0 w9) := hid' (by rw [H9.out]; exact HB8.out.setCell (show W0.heap.size ≤ w1.heap.size from HB1.out.sz) _)
             have hc9 : w9.cell? ⟨w1.heap.size, 0, none⟩ = some (.slice (some ⟨g8, 0, none⟩) (T.length + 1) c8) := by rw [H9.out]; exact World.cell?_setCell_same _ _ _ hc8
             have hcr := (HK3.out _ HB9.out).1
             have hfr := (HK3.out _ HB9.out).2))
        have HT9 := hid' (HP8.out _ H9.out)
        simp only [Act.put]
        have hne : w.heap.size + 1 + 1 ≠ w1.heap.size := by omega
        have hd9 : Bel w9 w9.drew := (Bel.refl w9).drew
        go_region_held3 (fun u => u.cell? ⟨w1.heap.size, 0, none⟩ = some (.slice (some ⟨g8, 0, none⟩) (T.length + 1) c8)) (go_keep) (fail)
        have HLS : Hid (T.length + 1 = (T ++ [newNode s]).length) := hid' (by simp)
        have hcS : (w9.setCell ⟨w.heap.size + 1 + 1, 0, none⟩ (.slice (some ⟨g8, 0, none⟩) (T.length + 1) c8)).cell? ⟨w.heap.size + 1 + 1, 0, none⟩ = some (.slice (some ⟨g8, 0, none⟩) (T.length + 1) c8) := World.cell?_setCell_same _ _ _ hcr
        have hcR : (w9.setCell ⟨w.heap.size + 1 + 1, 0, none⟩ (.slice (some ⟨g8, 0, none⟩) (T.length + 1) c8)).drew.cell? ⟨w.heap.size + 1 + 1, 0, none⟩ = some (.slice (some ⟨g8, 0, none⟩) (T.length + 1) c8) := (((Bel.refl _).drew).cell _ _ (World.block_lt_of_cell? _ _ hcS)).trans hcS
        have HTR : Hid (TreeAt (w9.setCell ⟨w.heap.size + 1 + 1, 0, none⟩ (.slice (some ⟨g8, 0, none⟩) (T.length + 1) c8)).drew w.heap.size (.slice (some ⟨g8, 0, none⟩) (T.length + 1) c8) (T ++ [newNode s])) := hid' (((HT9.out.far (grown_set _ _ _) (by rw [HS.out]; omega)).keep ((Bel.refl _).drew)).base (by rw [HS.out]; omega))
        have HBR : Hid (Bel w (w9.setCell ⟨w.heap.size + 1 + 1, 0, none⟩ (.slice (some ⟨g8, 0, none⟩) (T.length + 1) c8)).drew) := hid' (((HWB.out.trans HB9.out).setCell (show w.heap.size ≤ w.heap.size + 1 + 1 by omega) _).drew)
        generalize (w9.setCell ⟨w.heap.size + 1 + 1, 0, none⟩ (.slice (some ⟨g8, 0, none⟩) (T.length + 1) c8)).drew = wz at hcR HTR HBR ⊢
        clear hcS
        go_wp2_with fail
        refine bodyPost_ret (v := .tuple #[.agg #[.slice (some ⟨g8, 0, none⟩) (T.length + 1) c8], .int .i64 ((T.length : Int) + 1)]) (by simp [results, Try.results37, go_sem, hcR]) rfl ⟨some ⟨g8, 0, none⟩, c8, by rw [HR.out, ← HLS.out], ?_, HBR.out⟩
        rw [HR.out, ← HLS.out]
        exact HTR.out
      · have hl12 : (12 : Int) ≤ (T.length : Int) := by omega
        have HR : Hid (addNodeT T s = (T, 0)) := hid' (by simp [addNodeT, hl])
        go_wp2_with fail
        refine bodyPost_ret (v := .tuple #[.agg #[.slice A1 T.length c1], .int .i64 (0)]) (by simp [results, Try.results37, go_sem, *]) rfl ⟨_, _, by (rw [HR.out]; try (first | rfl | (rw [← HLS.out]))), ?_, ?_⟩
        · rw [HR.out]
          exact (TreeAt.far HT5.out (grown_set _ _ _) (by rw [HS.out]; omega)).base (by rw [HS.out]; omega)
        · exact (HWB.out.trans HB05.out).setCell (show w.heap.size ≤ w.heap.size + 1 + 1 by omega) _
set_option maxRecDepth 100000 in
set_option maxHeartbeats 4000000 in
theorem sAddNode_c (A : Option Addr) (c : Nat) (T : List NodeD) (s : Rec) (w : World) (h : NodesC w A T) (hn : treeSz T ≤ 1048576) :
    Calls Try.prog 35 #[treeV A T.length c, styleV s] w fun e w' => ∃ A' c', e = .returned (.tuple #[treeV A' (addNodeT T s).1.length c', .int .i64 (addNodeT T s).2]) ∧ TreeAt w' w.heap.size (.slice A' (addNodeT T s).1.length c') (addNodeT T s).1 ∧ Bel w w' := by
  have hT := len_of hn
  have HKR := hid' (kr_of hn)
  have HN := Lib.hid hn
  clear hn
  have hl60 := styleL_length s
  obtain ⟨W0, hW0⟩ : ∃ W0, W0 = ((w.alloc (.cells #[.slice A T.length c] 30)).alloc (.cells (styleL s).toArray 68)).alloc (.cells #[.slice none 0 0] 30) := ⟨_, rfl⟩
  have HWB : Hid (Bel w W0) := hid' (by rw [hW0]; exact (((Bel.refl w).alloc _).alloc _).alloc _)
  have HS : Hid (W0.heap.size = w.heap.size + 1 + 1 + 1) := hid' (by rw [hW0]; simp)
  have HK1 : Hid (∀ u, Bel W0 u → u.cell? ⟨w.heap.size, 0, none⟩ = some (.slice A T.length c)) := hid' (fun u hu => by
    have hb : Bel (w.alloc (.cells #[.slice A T.length c] 30)) W0 := by rw [hW0]; exact ((Bel.refl _).alloc _).alloc _
    exact ((hb.trans hu).cell _ _ (by simp)).trans (by simp))
  have HK2 : Hid (∀ u, Bel W0 u → u.rangeAt (w.heap.size + 1) 0 (styleL s)) := hid' (fun u hu q v hq => by
    have hq60 := lt_of_get hq
    have hb : Bel (w.alloc (.cells #[.slice A T.length c] 30)) W0 := by rw [hW0]; exact ((Bel.refl _).alloc _).alloc _
    have hb1 : Bel ((w.alloc (.cells #[.slice A T.length c] 30)).alloc (.cells (styleL s).toArray 68)) u := by
      have : Bel ((w.alloc (.cells #[.slice A T.length c] 30)).alloc (.cells (styleL s).toArray 68)) W0 := by rw [hW0]; exact (Bel.refl _).alloc _
      exact this.trans hu
    have hz : (w.alloc (.cells #[.slice A T.length c] 30)).heap.size = w.heap.size + 1 := by simp
    rw [hb1.cell _ _ (by simp), Nat.zero_add, ← hz]
    exact new_cells _ _ _ q v hq)
  have HK3 : Hid (∀ u, Bel W0 u → u.cell? ⟨w.heap.size + 1 + 1, 0, none⟩ = some (.slice none 0 0) ∧ u.frozen? ⟨w.heap.size + 1 + 1, 0, none⟩ = false) := hid' (fun u hu => by
    have hz : ((w.alloc (.cells #[.slice A T.length c] 30)).alloc (.cells (styleL s).toArray 68)).heap.size = w.heap.size + 1 + 1 := by simp
    rw [hW0] at hu
    rw [← hz]
    exact ⟨(hu.cell _ _ (by simp)).trans (new_cell1 _ _ _).1, (hu.frozen _ _ (by simp)).trans (new_cell1 _ _ _).2⟩)
  go_enter Try.func35, Try.ntmps35
  unfold styleV
  go_wp2_with fail
  rw [← hW0]
  clear hW0
  refine (sCopyTree_c _ _ _ _ (h.keep HWB.out) HN.out).mono ?_; rintro e w1 ⟨A1, c1, rfl, ht1, hb1⟩
  have HT1 := Lib.hid ht1
  clear ht1
  have hcA := HK1.out _ (hb1.alloc (.cells #[.slice A1 T.length c1] 30))
  have hlb1 : w.heap.size + 1 + 1 < w1.heap.size := by have := hb1.sz; rw [HS.out] at this; omega
  have HB1 := Lib.hid hb1
  go_wp2_with fail
  obtain ⟨w2, hw2⟩ : ∃ w2, w2 = w1.alloc (.cells #[.slice A1 T.length c1] 30) := ⟨_, rfl⟩
  rw [← hw2] at hcA ⊢
  have HOC : Hid (∀ u, Bel w2 u → u.cell? ⟨w1.heap.size, 0, none⟩ = some (.slice A1 T.length c1)) := hid' (fun u hu => by rw [hu.cell _ _ (by rw [hw2]; simp), hw2]; simp)
  have HB2 : Hid (Bel w1 w2) := hid' (by rw [hw2]; exact (Bel.refl w1).alloc _)
  have HL2 : Hid (w1.heap.size < w2.heap.size) := hid' (by rw [hw2]; simp)
  have HBX : Hid ((bx w1.heap.size (.slice A1 T.length c1)).own w2 w1.heap.size) := hid' (by rw [hw2]; exact World.ownsRow_lit (e := 30) (size := 1) w1 #[.slice A1 T.length c1] 1 (Nat.le_refl _) (by unfold maxLen; omega) rfl)
  have HF2 : Hid (w2.frozen? ⟨w1.heap.size, 0, none⟩ = false) := hid' (by rw [hw2]; exact (new_cell1 _ _ _).2)
  clear hw2 hcA hb1
  have HB02 := hid' (HB1.out.trans HB2.out)
  refine (sTreeOk_c _ _ _ _ (h.nodes.keep (HWB.out.trans HB02.out)) hT HKR.out).mono ?_; rintro e w3 ⟨rfl, hb3⟩
  have HB03 := hid' (HB02.out.trans hb3)
  have hc1 := HK1.out _ HB03.out
  have hc3 := (HK3.out _ HB03.out).1
  have hf3 := (HK3.out _ HB03.out).2
  have hco := HOC.out _ hb3
  have HT3 := hid' (HT1.out.keep (HB2.out.trans hb3))
  cases ht : treeOk T
  · have HR : Hid (addNodeT T s = (T, 0)) := hid' (by simp [addNodeT, ht])
    go_wp2_with fail
    refine bodyPost_ret (v := .tuple #[.agg #[.slice A1 T.length c1], .int .i64 (0)]) (by simp [results, Try.results35, go_sem, *]) rfl ⟨_, _, by (rw [HR.out]; try (first | rfl | (rw [← HLS.out]))), ?_, ?_⟩
    · rw [HR.out]
      exact (TreeAt.far HT3.out (grown_set _ _ _) (by rw [HS.out]; omega)).base (by rw [HS.out]; omega)
    · exact (HWB.out.trans HB03.out).setCell (show w.heap.size ≤ w.heap.size + 1 + 1 by omega) _
  · have HTO := Lib.hid ht
    clear ht
    have HSR := HK2.out _ HB03.out
    go_wp2_with ((with_reducible show wpList _ _ _ (Oper.mk _ (Op.load _ _) _ _ _ _ :: _) _ _); refine load_guarded (by rfl) 68 _ rfl (w.heap.size + 1) 0 rfl (styleL s) _ HSR Try.underlying68 rfl (by rw [hl60]; kernel_rfl) ?_)
    refine (sStyleOk_c s _).mono ?_; rintro e w5 ⟨rfl, hb5⟩
    have HB05 := hid' (HB03.out.trans hb5)
    have HB25 := hid' (hb3.trans hb5)
    clear hc1 hc3 hf3 hco HSR
    have hc1 := HK1.out _ HB05.out
    have hc3 := (HK3.out _ HB05.out).1
    have hf3 := (HK3.out _ HB05.out).2
    have hco := HOC.out _ HB25.out
    have HT5 := hid' (HT3.out.keep hb5)
    cases hs : styleOk s
    · have HR : Hid (addNodeT T s = (T, 0)) := hid' (by simp [addNodeT, hs])
      go_wp2_with fail
      refine bodyPost_ret (v := .tuple #[.agg #[.slice A1 T.length c1], .int .i64 (0)]) (by simp [results, Try.results35, go_sem, *]) rfl ⟨_, _, by (rw [HR.out]; try (first | rfl | (rw [← HLS.out]))), ?_, ?_⟩
      · rw [HR.out]
        exact (TreeAt.far HT5.out (grown_set _ _ _) (by rw [HS.out]; omega)).base (by rw [HS.out]; omega)
      · exact (HWB.out.trans HB05.out).setCell (show w.heap.size ≤ w.heap.size + 1 + 1 by omega) _
    · have HSO := Lib.hid hs
      clear hs
      by_cases hl : T.length < 12
      · have hl12 : (T.length : Int) < 12 := by omega
        have HR : Hid (addNodeT T s = (T ++ [newNode s], (T.length : Int) + 1)) := hid' (by simp [addNodeT, HTO.out, HSO.out, hl])
        have HSR := HK2.out _ HB05.out
        obtain ⟨KS, RS, k1, k2, hF1⟩ := HT1.out
        have HF5 := hid' ((hF1.add1 HB2.out HBX.out HB1.out.sz).keep HB25.out)
        clear hF1
        have hfo : w5.frozen? ⟨w1.heap.size, 0, none⟩ = false := (HB25.out.frozen _ _ HL2.out).trans HF2.out
        have HLT : Hid (∀ q, (Value.slice A1 T.length c1).ownBlock = some q → W0.heap.size ≤ q ∧ q < w1.heap.size) := hid' (fun q hq => by
          obtain ⟨KS', RS', _, _, hF'⟩ := HT1.out
          exact World.ownsRow.lt (hF'.1 ⟨77, 64, .slice A1 T.length c1, T.length, nodesL KS' RS' T⟩ (by simp [treeF])) q hq)
        have hlw : w1.heap.size < w5.heap.size := Nat.lt_of_lt_of_le HL2.out HB25.out.sz
        go_wp2_with (first
          | ((with_reducible show wpList _ _ _ (Oper.mk _ (Op.load _ _) _ _ _ _ :: _) _ _); refine wpList_load_mid rfl 68 _ rfl (w.heap.size + 1) 0 rfl (styleL s) _ HSR Try.underlying68 rfl (by rw [hl60]; kernel_rfl) ?_)
          | ((with_reducible show wpList _ _ _ (Oper.mk _ (Op.build _ _) _ _ _ _ :: _) _ _); refine buildNew rfl _ rfl s rfl ?_)
          | ((with_reducible show wpList _ _ _ (Oper.mk _ (Op.buildSlice _ _ _) _ _ _ _ :: _) _ _); refine buildNode rfl _ rfl (nodeL (newNode s) (.slice none 0 0) (.slice none 0 0)) (nodeL_length _ _ _) rfl ?_; intro w7 H7
             have HB7 : Hid (Bel w5 w7) := hid' (by rw [H7.out]; exact (Bel.refl w5).alloc _))
          | (at_builtin; refine appG rfl (.tmp 25) (.tmp 28) 28 77 rfl (.agg znode.toArray) 64 536 Try.underlying28 Try.info_node rfl (by decide) (by decide) W0.heap.size (.slice A1 T.length c1) T.length (nodesL KS RS T) (by rfl)
               (own_keep (show w5.ownsRow W0.heap.size 77 64 (.slice A1 T.length c1) T.length (nodesL KS RS T) from HF5.out.1 ⟨77, 64, .slice A1 T.length c1, T.length, nodesL KS RS T⟩ (by simp [treeF])) HB7.out) w5.heap.size rfl
               (nodeL (newNode s) (.slice none 0 0) (.slice none 0 0)) (nodeL_length _ _ _) (fun j u hj => by rw [H7.out]; exact new_cells w5 _ _ j u hj) (nodeL_one _ rfl rfl) (by omega) (HB05.out.trans HB7.out).sz ?_
             intro v8 w8 ho8 hg8 hv8
             obtain ⟨g8, c8, rfl⟩ := own_pos ho8
             have HP8 : Hid (∀ w9, w9 = w8.setCell ⟨w1.heap.size, 0, none⟩ (.slice (some ⟨g8, 0, none⟩) (T.length + 1) c8) → TreeAt w9 W0.heap.size (.slice (some ⟨g8, 0, none⟩) (T.length + 1) c8) (T ++ [newNode s])) := hid' (fun w9 h9 => add_push k1 k2 (HF5.out.keep HB7.out) hg8 ho8 hv8 h9)
             have HB8 : Hid (Bel W0 w8) := hid' ((HB05.out.trans HB7.out).grown hg8 (fun q hq => (HLT.out q hq).1))
             have hc8 := ((World.grownBy.cell_far hg8 ⟨w1.heap.size, 0, none⟩ (Nat.lt_of_lt_of_le hlw HB7.out.sz) (fun e => absurd (HLT.out _ e.symm).2 (Nat.lt_irrefl _))).trans (HB7.out.cell _ _ hlw)).trans hco
             have hf8 := ((World.grownBy.frozen_far hg8 ⟨w1.heap.size, 0, none⟩ (Nat.lt_of_lt_of_le hlw HB7.out.sz) (fun e => absurd (HLT.out _ e.symm).2 (Nat.lt_irrefl _))).trans (HB7.out.frozen _ _ hlw)).trans hfo
             clear ho8 hg8 hv8)
          | ((with_reducible show wpList _ _ _ (Oper.mk _ (Op.store _ _ _) _ _ _ _ :: _) _ _); refine storeC1 rfl 28 _ _ rfl w1.heap.size 0 rfl (.slice (some ⟨g8, 0, none⟩) (T.length + 1) c8) _ rfl rfl rfl (by kernel_rfl) hc8 hf8 ?_; intro w9 H9
             have HB9 : Hid (Bel W0 w9) := hid' (by rw [H9.out]; exact HB8.out.setCell (show W0.heap.size ≤ w1.heap.size from HB1.out.sz) _)
             have hc9 : w9.cell? ⟨w1.heap.size, 0, none⟩ = some (.slice (some ⟨g8, 0, none⟩) (T.length + 1) c8) := by rw [H9.out]; exact World.cell?_setCell_same _ _ _ hc8
             have hcr := (HK3.out _ HB9.out).1
             have hfr := (HK3.out _ HB9.out).2))
        have HT9 := hid' (HP8.out _ H9.out)
        simp only [Act.put]
        have hne : w.heap.size + 1 + 1 ≠ w1.heap.size := by omega
        have hd9 : Bel w9 w9.drew := (Bel.refl w9).drew
        go_region_held3 (fun u => u.cell? ⟨w1.heap.size, 0, none⟩ = some (.slice (some ⟨g8, 0, none⟩) (T.length + 1) c8)) (go_keep) (fail)
        have HLS : Hid (T.length + 1 = (T ++ [newNode s]).length) := hid' (by simp)
        have hcS : (w9.setCell ⟨w.heap.size + 1 + 1, 0, none⟩ (.slice (some ⟨g8, 0, none⟩) (T.length + 1) c8)).cell? ⟨w.heap.size + 1 + 1, 0, none⟩ = some (.slice (some ⟨g8, 0, none⟩) (T.length + 1) c8) := World.cell?_setCell_same _ _ _ hcr
        have hcR : (w9.setCell ⟨w.heap.size + 1 + 1, 0, none⟩ (.slice (some ⟨g8, 0, none⟩) (T.length + 1) c8)).drew.cell? ⟨w.heap.size + 1 + 1, 0, none⟩ = some (.slice (some ⟨g8, 0, none⟩) (T.length + 1) c8) := (((Bel.refl _).drew).cell _ _ (World.block_lt_of_cell? _ _ hcS)).trans hcS
        have HTR : Hid (TreeAt (w9.setCell ⟨w.heap.size + 1 + 1, 0, none⟩ (.slice (some ⟨g8, 0, none⟩) (T.length + 1) c8)).drew w.heap.size (.slice (some ⟨g8, 0, none⟩) (T.length + 1) c8) (T ++ [newNode s])) := hid' (((HT9.out.far (grown_set _ _ _) (by rw [HS.out]; omega)).keep ((Bel.refl _).drew)).base (by rw [HS.out]; omega))
        have HBR : Hid (Bel w (w9.setCell ⟨w.heap.size + 1 + 1, 0, none⟩ (.slice (some ⟨g8, 0, none⟩) (T.length + 1) c8)).drew) := hid' (((HWB.out.trans HB9.out).setCell (show w.heap.size ≤ w.heap.size + 1 + 1 by omega) _).drew)
        generalize (w9.setCell ⟨w.heap.size + 1 + 1, 0, none⟩ (.slice (some ⟨g8, 0, none⟩) (T.length + 1) c8)).drew = wz at hcR HTR HBR ⊢
        clear hcS
        go_wp2_with fail
        refine bodyPost_ret (v := .tuple #[.agg #[.slice (some ⟨g8, 0, none⟩) (T.length + 1) c8], .int .i64 ((T.length : Int) + 1)]) (by simp [results, Try.results35, go_sem, hcR]) rfl ⟨some ⟨g8, 0, none⟩, c8, by rw [HR.out, ← HLS.out], ?_, HBR.out⟩
        rw [HR.out, ← HLS.out]
        exact HTR.out
      · have hl12 : (12 : Int) ≤ (T.length : Int) := by omega
        have HR : Hid (addNodeT T s = (T, 0)) := hid' (by simp [addNodeT, hl])
        go_wp2_with fail
        refine bodyPost_ret (v := .tuple #[.agg #[.slice A1 T.length c1], .int .i64 (0)]) (by simp [results, Try.results35, go_sem, *]) rfl ⟨_, _, by (rw [HR.out]; try (first | rfl | (rw [← HLS.out]))), ?_, ?_⟩
        · rw [HR.out]
          exact (TreeAt.far HT5.out (grown_set _ _ _) (by rw [HS.out]; omega)).base (by rw [HS.out]; omega)
        · exact (HWB.out.trans HB05.out).setCell (show w.heap.size ≤ w.heap.size + 1 + 1 by omega) _
end Go.Proofs.Ytcdneamoemmohaa
