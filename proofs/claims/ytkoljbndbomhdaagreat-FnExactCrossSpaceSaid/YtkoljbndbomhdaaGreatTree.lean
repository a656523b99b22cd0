/- Trees in memory, and the law's own helpers over nodes: toNode, eqNode, szNode. -/
import Derived.Test.YtkoljbndbomhdaaGreatBox
import Derived.Test.YtkoljbndbomhdaaGreatTreeD
import Derived.Test.YtkoljbndbomhdaaGreatFamTab
import Derived.Test.YtkoljbndbomhdaaGreatIntSS
namespace Go.Proofs.YtkoljbndbomhdaaGreat
open Go.RowKit Go.ChangeShapes Go.WideShapes
set_option linter.unusedVariables false
set_option linter.unusedSimpArgs false

def nodeL (x : NodeD) (K R : Value) : List Value := .int .i64 x.up :: K :: (styleL x.style ++ [.bool x.meas, R])
theorem nodeL_length (x : NodeD) (K R : Value) : (nodeL x K R).length = 64 := by simp [nodeL, styleL_length]
theorem nodeL_style (x : NodeD) (K R : Value) : ((nodeL x K R).drop 2).take 60 = styleL x.style := by
  simp only [nodeL, List.drop_succ_cons, List.drop_zero]
  rw [List.take_append_of_le_length (by rw [styleL_length]; exact Nat.le_refl _), List.take_of_length_le (by rw [styleL_length]; exact Nat.le_refl _)]
theorem nodeL_meas (x : NodeD) (K R : Value) : ((nodeL x K R).drop 62).take 1 = [.bool x.meas] := by
  simp only [nodeL, List.drop_succ_cons, List.drop_zero]
  rw [List.drop_append, styleL_length, List.drop_of_length_le (by rw [styleL_length]; exact Nat.le_refl _)]
  rfl
theorem nodeL_rules (x : NodeD) (K R : Value) : ((nodeL x K R).drop 63).take 1 = [R] := by
  simp only [nodeL, List.drop_succ_cons, List.drop_zero]
  rw [List.drop_append, styleL_length, List.drop_of_length_le (by rw [styleL_length]; decide)]
  rfl
theorem nodeL_one (x : NodeD) {K R : Value} (hK : K.oneCell' = true) (hR : R.oneCell' = true) : ∀ u ∈ nodeL x K R, u.oneCell' = true := by
  intro u hu
  simp only [nodeL, List.mem_cons, List.mem_append, List.not_mem_nil, or_false] at hu
  rcases hu with rfl | rfl | hu | rfl | rfl
  · rfl
  · exact hK
  · exact rcells_one _ _ u hu
  · rfl
  · exact hR
/-- the 64 values L read as the node x -/
def NodeAt (w : World) (x : NodeD) (L : List Value) : Prop :=
  ∃ K ck R cr, L = nodeL x (.slice K x.kids.length ck) (.slice R x.rules.length cr) ∧ Ints w K x.kids ∧ Recs w R k_rule x.rules ∧ x.kids.length ≤ 9223372036854775807 ∧ x.rules.length ≤ 9223372036854775807
theorem NodeAt.keep {w w' : World} {x : NodeD} {L : List Value} (h : NodeAt w x L) (hb : Bel w w') : NodeAt w' x L := by
  obtain ⟨K, ck, R, cr, h1, h2, h3, h4, h5⟩ := h
  exact ⟨K, ck, R, cr, h1, h2.keep hb, h3.keep hb, h4, h5⟩
/-- the nodes at A read as T -/
def Nodes (w : World) (A : Option Addr) (T : List NodeD) : Prop :=
  ∀ i, i < T.length → ∃ b o, A = some ⟨b, o, none⟩ ∧ b < w.heap.size ∧ ∀ j, j < T.length → ∃ L, NodeAt w (node_ T j) L ∧ w.rangeAt b (o + j * 64) L
theorem Nodes.keep {w w' : World} {A : Option Addr} {T : List NodeD} (h : Nodes w A T) (hb : Bel w w') : Nodes w' A T := fun i hi => by
  obtain ⟨b, o, h1, h2, h3⟩ := h i hi
  refine ⟨b, o, h1, Nat.lt_of_lt_of_le h2 hb.sz, fun j hj => ?_⟩
  obtain ⟨L, h4, h5⟩ := h3 j hj
  exact ⟨L, h4.keep hb, range_bel h5 hb h2⟩
def nodeSz (x : NodeD) : Nat := x.kids.length + x.rules.length
def szTo (T : List NodeD) (k : Nat) : Nat := ((T.take k).map nodeSz).sum
def treeSz (T : List NodeD) : Nat := T.length + (T.map nodeSz).sum
theorem szTo_succ {T : List NodeD} {k : Nat} (h : k < T.length) : szTo T (k + 1) = szTo T k + nodeSz (node_ T k) := by
  unfold szTo
  rw [List.take_add_one, node_eq h]
  simp
theorem szTo_le (T : List NodeD) (k : Nat) : szTo T k ≤ (T.map nodeSz).sum := by
  have : (T.map nodeSz).sum = ((T.take k).map nodeSz).sum + ((T.drop k).map nodeSz).sum := by
    rw [← List.sum_append, ← List.map_append, List.take_append_drop]
  unfold szTo
  omega
theorem szTo_all (T : List NodeD) : szTo T T.length = (T.map nodeSz).sum := by simp [szTo]
theorem nodeSz_le {T : List NodeD} {k : Nat} (h : k < T.length) : nodeSz (node_ T k) ≤ treeSz T := by
  have h1 := szTo_succ h
  have h2 := szTo_le T (k + 1)
  unfold treeSz
  omega

/-- a field read whose cells are known -/
theorem Cp.loadV {w0 w : World} {g1 g2 g3 N : Nat} {S D : List Value} {ops : Array Oper} {rest : List Oper} {op : Oper} {a : Act} {Q : Exit → Act → World → Prop} (H : Hid (Cp w0 w g1 g2 g3 N S D)) (hgd : op.guard = none) (ty : TypeId) (x : Operand) (ho : op.op = .load ty x)
    (o n : Nat) (hx : a.eval x = .pointer (some ⟨g1, o, none⟩)) (d : TypeDesc) (hu : Tryz.prog.underlying ty = some d) (hi : (Tryz.prog.info? ty).map (·.size) = some n) (cs : List Value) (hc : (S.drop o).take n = cs) (hn : cs.length = n) (h1 : d.isRow = true ∨ n = 1) (v : Value) (hv : valOf d cs = v)
    (h : wpList Tryz.prog ops Q rest (a.put op.dst v) w) : wpList Tryz.prog ops Q (op :: rest) a w := by
  subst hv
  exact wpList_load_any hgd ty x ho g1 o hx cs d (by have := range_sub H.out.src o n; rw [Nat.zero_add, hc] at this; exact this) hu (by rw [hn]; exact hi) (by rw [hn]; exact h1) h
theorem Cp.storeG {w0 w : World} {g1 g2 g3 N : Nat} {S D : List Value} {ops : Array Oper} {rest : List Oper} {op : Oper} {a : Act} {Q : Exit → Act → World → Prop} (H : Hid (Cp w0 w g1 g2 g3 N S D)) (hgd : op.guard = none) (ty : TypeId) (x y : Operand) (ho : op.op = .store ty x y)
    (o n : Nat) (v : Value) (hx : a.eval x = .pointer (some ⟨g3, o, none⟩)) (hy : a.eval y = v) (hi : (Tryz.prog.info? ty).map (·.size) = some n) (hD : D.length = o) (vs : List Value) (hvs : v.cells.toList = vs) (hv : vs.length = n) (hN : o + n ≤ N) (h1 : ∀ u ∈ vs, u.oneCell' = true)
    (h : ∀ w', Hid (Cp w0 w' g1 g2 g3 N S (D ++ vs)) → w.grownBy w' (some g3) → wpList Tryz.prog ops Q rest (a.put op.dst undef) w') : wpList Tryz.prog ops Q (op :: rest) a w := by
  subst hD
  subst hvs
  have hv' : v.cells.size = n := by simpa using hv
  subst hv'
  refine wpList_store_any hgd ty x y ho g3 D.length v hx hy (fun j hj => ?_) hi h1 (h _ (hid' (H.out.put v.cells.toList (by simpa using hN))) (setCells_gb g3 _ _ _))
  have := H.out.t3 (D.length + j) (by omega)
  rwa [Nat.zero_add] at this
theorem Fam.far {w w' : World} {base g : Nat} {F : List Row} (h : Fam w base F) (hg : w.grownBy w' (some g)) (hb : g < base) : Fam w' base F :=
  ⟨fun r hr => (h.1 r hr).kept hg (by
    cases hv : r.v.ownBlock with
    | none => exact .inl rfl
    | some q =>
      right
      intro e
      injection e with e
      have := ((h.1 r hr).lt q hv).1
      omega), h.2⟩
def kidsRow (v : Value) (l : List Int) : Row := ⟨3, 1, v, l.length, VI l⟩
def rulesRow (v : Value) (l : List Rec) : Row := ⟨112, 3, v, l.length, RV k_rule l⟩

set_option maxRecDepth 100000 in
set_option maxHeartbeats 4000000 in
theorem toNode_c (x : NodeD) (L : List Value) (w : World) (h : NodeAt w x L) (hk : x.kids.length ≤ 1048576) (hr : x.rules.length ≤ 1048576) :
    Calls Tryz.prog 31 #[.agg L.toArray] w fun e w' => ∃ gk gr, e = .returned (.agg (nodeL x (.slice (some ⟨gk, 0, none⟩) x.kids.length x.kids.length) (.slice (some ⟨gr, 0, none⟩) x.rules.length x.rules.length)).toArray) ∧
      Fam w' w.heap.size [kidsRow (.slice (some ⟨gk, 0, none⟩) x.kids.length x.kids.length) x.kids, rulesRow (.slice (some ⟨gr, 0, none⟩) x.rules.length x.rules.length) x.rules] ∧ Bel w w' := by
  obtain ⟨K, ck, R, cr, rfl, hK, hR, -, -⟩ := h
  have H := hid' (Cp.start w (nodeL x (.slice K x.kids.length ck) (.slice R x.rules.length cr)) (.int .i64 0 :: .slice none 0 0 :: (zstyle ++ [.bool false, .slice none 0 0])) (.int .i64 0 :: .slice none 0 0 :: (zstyle ++ [.bool false, .slice none 0 0])) 71 79 79 64 rfl rfl)
  have hsz : (nodeL x (.slice K x.kids.length ck) (.slice R x.rules.length cr)).length = 64 := nodeL_length _ _ _
  have HK := hid' hK
  have HR := hid' hR
  clear hK hR
  go_enter Tryz.func31, Tryz.ntmps31
  go_wp2_with (first
    | (refine Cp.loadV H rfl 3 _ rfl 0 1 rfl _ Tryz.underlying3 (by kernel_rfl) [.int .i64 x.up] rfl rfl (.inr rfl) (.int .i64 x.up) rfl ?_)
    | (refine Cp.loadV H rfl 48 _ rfl 1 1 rfl _ Tryz.underlying48 (by kernel_rfl) [.slice K x.kids.length ck] rfl rfl (.inr rfl) (.slice K x.kids.length ck) rfl ?_)
    | (refine Cp.loadV H rfl 66 _ rfl 2 60 rfl _ Tryz.underlying66 (by kernel_rfl) (styleL x.style) (nodeL_style _ _ _) rfl (.inl rfl) (styleV x.style) rfl ?_)
    | (refine Cp.loadV H rfl 4 _ rfl 62 1 rfl _ Tryz.underlying4 (by kernel_rfl) [.bool x.meas] (nodeL_meas _ _ _) rfl (.inr rfl) (.bool x.meas) rfl ?_)
    | (refine Cp.loadV H rfl 69 _ rfl 63 1 rfl _ Tryz.underlying69 (by kernel_rfl) [.slice R x.rules.length cr] (nodeL_rules _ _ _) rfl (.inl rfl) (tableV R x.rules.length cr) rfl ?_)
    | (refine Cp.storeG H rfl 3 _ _ rfl 0 1 _ rfl rfl (by kernel_rfl) rfl [.int .i64 x.up] rfl rfl (by decide) (by simp [Value.oneCell']) ?_; clear H; intro w1 H hg1)
    | (go_at_call 54; refine (toIntS_c _ _ _ _ (HK.out.keep H.out.bel) hk).mono ?_; rintro e w2 ⟨rfl, ho2, hb2⟩; have HF := hid' (Fam.one (r := kidsRow _ x.kids) ho2); have hz := H.out.l3; have hbase := H.out.l3; replace H := hid' (H.out.keep hb2))
    | (refine Cp.storeG H rfl 48 _ _ rfl 1 1 _ rfl rfl (by kernel_rfl) rfl [.slice (some ⟨w1.heap.size, 0, none⟩) x.kids.length x.kids.length] rfl rfl (by decide) (by simp [Value.oneCell']) ?_; clear H; intro w3 H hg3)
    | (go_at_call 55; refine (toStyle_c _ _).mono ?_; rintro e w4 ⟨rfl, hb4⟩; replace H := hid' (H.out.keep hb4))
    | (refine Cp.storeG H rfl 47 _ _ rfl 2 60 _ rfl rfl (by kernel_rfl) rfl (styleL x.style) rfl rfl (by decide) (rcells_one _ _) ?_; clear H; intro w5 H hg5)
    | (refine Cp.storeG H rfl 4 _ _ rfl 62 1 _ rfl rfl (by kernel_rfl) rfl [.bool x.meas] rfl rfl (by decide) (by simp [Value.oneCell']) ?_; clear H; intro w6 H hg6)
    | (go_at_call 56; refine (toTable_c _ _ _ _ (HR.out.keep H.out.bel) hr).mono ?_; rintro e w7 ⟨gr, rfl, ho7, hb7⟩; replace H := hid' (H.out.keep hb7))
    | (refine Cp.storeG H rfl 77 _ _ rfl 63 1 _ rfl rfl (by kernel_rfl) rfl [.slice (some ⟨gr, 0, none⟩) x.rules.length x.rules.length] rfl rfl (by decide) (by simp [Value.oneCell']) ?_; clear H; intro w8 H hg8)
    | (refine Cp.whole (D := nodeL x (.slice (some ⟨w1.heap.size, 0, none⟩) x.kids.length x.kids.length) (.slice (some ⟨gr, 0, none⟩) x.rules.length x.rules.length)) H rfl 79 _ rfl rfl _ Tryz.underlying79 rfl (by kernel_rfl) (nodeL_length _ _ _) ?_)
    | (refine Cp.result (D := nodeL x (.slice (some ⟨w1.heap.size, 0, none⟩) x.kids.length x.kids.length) (.slice (some ⟨gr, 0, none⟩) x.rules.length x.rules.length)) H rfl 79 _ _ rfl rfl rfl (by kernel_rfl) (nodeL_length _ _ _) rfl ?_; intro w9 HE))
  refine bodyPost_ret_by (results_cell_any Tryz.results31 _ _ (w.heap.size + 1) (nodeL x (.slice (some ⟨w1.heap.size, 0, none⟩) x.kids.length x.kids.length) (.slice (some ⟨gr, 0, none⟩) x.rules.length x.rules.length)) _ rfl HE.out.1 Tryz.underlying79 rfl (by rw [nodeL_length]; kernel_rfl)) rfl ⟨_, _, rfl, ?_, HE.out.2.1⟩
  have f3 := HF.out.far hg3 (by omega)
  have f5 := (f3.keep hb4).far hg5 (by omega)
  have f6 := f5.far hg6 (by omega)
  have hs6 : w1.heap.size ≤ w6.heap.size := by have := hb2.sz; have := hg3.size; have := hb4.sz; have := hg5.size; have := hg6.size; omega
  have f7 := Fam.add1 (r := rulesRow (.slice (some ⟨gr, 0, none⟩) x.rules.length x.rules.length) x.rules) f6 hb7 ho7 hs6
  have f8 := f7.far hg8 (by omega)
  have f9 := f8.far HE.out.2.2 (by omega)
  exact f9.base (by omega)
set_option maxRecDepth 100000 in
set_option maxHeartbeats 4000000 in
theorem eqNode_c (x : NodeD) (L M : List Value) (w : World) (ha : NodeAt w x L) (hb : NodeAt w x M) (hk : x.kids.length ≤ 1048576) (hr : x.rules.length ≤ 1048576) :
    Calls Tryz.prog 42 #[.agg L.toArray, .agg M.toArray] w fun e w' => e = .returned (.bool true) ∧ Bel w w' := by
  obtain ⟨K, ck, R, cr, rfl, hK, hR, -, -⟩ := ha
  obtain ⟨K2, ck2, R2, cr2, rfl, hK2, hR2, -, -⟩ := hb
  have H1 := hid' ((Box.new w (nodeL x (.slice K x.kids.length ck) (.slice R x.rules.length cr)) 79).keep ((Bel.refl _).alloc (.cells (nodeL x (.slice K2 x.kids.length ck2) (.slice R2 x.rules.length cr2)).toArray 79)))
  have H2 := hid' (Box.new2 w (.cells (nodeL x (.slice K x.kids.length ck) (.slice R x.rules.length cr)).toArray 79) (nodeL x (.slice K2 x.kids.length ck2) (.slice R2 x.rules.length cr2)) 79)
  have HB := hid' (((Bel.refl w).alloc (.cells (nodeL x (.slice K x.kids.length ck) (.slice R x.rules.length cr)).toArray 79)).alloc (.cells (nodeL x (.slice K2 x.kids.length ck2) (.slice R2 x.rules.length cr2)).toArray 79))
  have hs1 : (nodeL x (.slice K x.kids.length ck) (.slice R x.rules.length cr)).length = 64 := nodeL_length _ _ _
  have hs2 : (nodeL x (.slice K2 x.kids.length ck2) (.slice R2 x.rules.length cr2)).length = 64 := nodeL_length _ _ _
  go_enter Tryz.func42, Tryz.ntmps42
  go_wp2_with (first
    | (refine Box.load H1 rfl 3 _ rfl 0 1 rfl _ Tryz.underlying3 (by kernel_rfl) [.int .i64 x.up] rfl rfl (.inr rfl) (.int .i64 x.up) rfl ?_)
    | (refine Box.load H1 rfl 48 _ rfl 1 1 rfl _ Tryz.underlying48 (by kernel_rfl) [.slice K x.kids.length ck] rfl rfl (.inr rfl) (.slice K x.kids.length ck) rfl ?_)
    | (refine Box.load H1 rfl 47 _ rfl 2 60 rfl _ Tryz.underlying47 (by kernel_rfl) (styleL x.style) (nodeL_style _ _ _) rfl (.inl rfl) (styleV x.style) rfl ?_)
    | (refine Box.load H1 rfl 4 _ rfl 62 1 rfl _ Tryz.underlying4 (by kernel_rfl) [.bool x.meas] (nodeL_meas _ _ _) rfl (.inr rfl) (.bool x.meas) rfl ?_)
    | (refine Box.load H1 rfl 77 _ rfl 63 1 rfl _ Tryz.underlying77 (by kernel_rfl) [.slice R x.rules.length cr] (nodeL_rules _ _ _) rfl (.inl rfl) (tableV R x.rules.length cr) rfl ?_)
    | (refine Box.load H2 rfl 3 _ rfl 0 1 rfl _ Tryz.underlying3 (by kernel_rfl) [.int .i64 x.up] rfl rfl (.inr rfl) (.int .i64 x.up) rfl ?_)
    | (refine Box.load H2 rfl 48 _ rfl 1 1 rfl _ Tryz.underlying48 (by kernel_rfl) [.slice K2 x.kids.length ck2] rfl rfl (.inr rfl) (.slice K2 x.kids.length ck2) rfl ?_)
    | (refine Box.load H2 rfl 47 _ rfl 2 60 rfl _ Tryz.underlying47 (by kernel_rfl) (styleL x.style) (nodeL_style _ _ _) rfl (.inl rfl) (styleV x.style) rfl ?_)
    | (refine Box.load H2 rfl 4 _ rfl 62 1 rfl _ Tryz.underlying4 (by kernel_rfl) [.bool x.meas] (nodeL_meas _ _ _) rfl (.inr rfl) (.bool x.meas) rfl ?_)
    | (refine Box.load H2 rfl 77 _ rfl 63 1 rfl _ Tryz.underlying77 (by kernel_rfl) [.slice R2 x.rules.length cr2] (nodeL_rules _ _ _) rfl (.inl rfl) (tableV R2 x.rules.length cr2) rfl ?_)
    | (go_at_call 66; refine (eqIntS_same _ _ _ _ _ _ _ (hK.keep HB.out) (hK2.keep HB.out) rfl hk).mono ?_; rintro e w2 ⟨rfl, hb2⟩; replace H1 := hid' (H1.out.keep hb2); replace H2 := hid' (H2.out.keep hb2); replace HB := hid' (HB.out.trans hb2); clear hb2)
    | (go_at_call 67; refine (eqStyle_c x.style _).mono ?_; rintro e w2 ⟨rfl, hb2⟩; replace H1 := hid' (H1.out.keep hb2); replace H2 := hid' (H2.out.keep hb2); replace HB := hid' (HB.out.trans hb2); clear hb2)
    | (go_at_call 68; refine (eqTable_c _ _ _ _ _ _ (hR.keep HB.out) (hR2.keep HB.out) hr).mono ?_; rintro e w2 ⟨rfl, hb2⟩; replace H1 := hid' (H1.out.keep hb2); replace H2 := hid' (H2.out.keep hb2); replace HB := hid' (HB.out.trans hb2); clear hb2))
  go_ret
  exact ⟨rfl, HB.out⟩
set_option maxRecDepth 100000 in
set_option maxHeartbeats 1000000 in
theorem szNode_c (x : NodeD) (L : List Value) (m : Int) (w : World) (ha : NodeAt w x L) (hm : 0 ≤ m ∧ m ≤ 1048576) :
    Calls Tryz.prog 21 #[.agg L.toArray, .int .i64 m] w fun e w' => e = .returned (.int .i64 (if (nodeSz x : Int) ≤ m then m - (nodeSz x : Int) else -1)) ∧ Bel w w' := by
  obtain ⟨K, ck, R, cr, rfl, hK, hR, hk, hr⟩ := ha
  have hnz : (nodeSz x : Int) = (x.kids.length : Int) + (x.rules.length : Int) := by unfold nodeSz; omega
  rw [hnz]
  clear hnz
  have H1 := hid' (Box.new w (nodeL x (.slice K x.kids.length ck) (.slice R x.rules.length cr)) 71)
  have HB := hid' ((Bel.refl w).alloc (.cells (nodeL x (.slice K x.kids.length ck) (.slice R x.rules.length cr)).toArray 71))
  have hs1 : (nodeL x (.slice K x.kids.length ck) (.slice R x.rules.length cr)).length = 64 := nodeL_length _ _ _
  by_cases h1 : (x.kids.length : Int) ≤ m
  · by_cases h2 : (x.rules.length : Int) ≤ m - (x.kids.length : Int)
    · rw [if_pos (by omega)]
      go_enter Tryz.func21, Tryz.ntmps21
      go_wp2_with (first
        | (refine Box.load H1 rfl 48 _ rfl 1 1 rfl _ Tryz.underlying48 (by kernel_rfl) [.slice K x.kids.length ck] rfl rfl (.inr rfl) (.slice K x.kids.length ck) rfl ?_)
        | (refine Box.load H1 rfl 69 _ rfl 63 1 rfl _ Tryz.underlying69 (by kernel_rfl) [.slice R x.rules.length cr] (nodeL_rules _ _ _) rfl (.inl rfl) (tableV R x.rules.length cr) rfl ?_)
        | (go_at_call 43; refine (szIntS_c _ _ _ _ _ hm hk).mono ?_; rintro e w2 ⟨rfl, rfl⟩; rw [if_pos (by omega)])
        | (go_at_call 44; refine (szTable_c _ _ _ _ _ (by omega) hr).mono ?_; rintro e w2 ⟨rfl, hb2⟩; rw [if_pos (by omega)]; replace HB := hid' (HB.out.trans hb2)))
      go_ret
      exact ⟨by (refine congrArg Ending.returned ?_; refine congrArg (Value.int .i64) ?_; omega), HB.out⟩
    · rw [if_neg (by omega)]
      go_enter Tryz.func21, Tryz.ntmps21
      go_wp2_with (first
        | (refine Box.load H1 rfl 48 _ rfl 1 1 rfl _ Tryz.underlying48 (by kernel_rfl) [.slice K x.kids.length ck] rfl rfl (.inr rfl) (.slice K x.kids.length ck) rfl ?_)
        | (refine Box.load H1 rfl 69 _ rfl 63 1 rfl _ Tryz.underlying69 (by kernel_rfl) [.slice R x.rules.length cr] (nodeL_rules _ _ _) rfl (.inl rfl) (tableV R x.rules.length cr) rfl ?_)
        | (go_at_call 43; refine (szIntS_c _ _ _ _ _ hm hk).mono ?_; rintro e w2 ⟨rfl, rfl⟩; rw [if_pos (by omega)])
        | (go_at_call 44; refine (szTable_c _ _ _ _ _ (by omega) hr).mono ?_; rintro e w2 ⟨rfl, hb2⟩; rw [if_neg (by omega)]; replace HB := hid' (HB.out.trans hb2)))
      go_ret
      exact ⟨rfl, HB.out⟩
  · rw [if_neg (by omega)]
    go_enter Tryz.func21, Tryz.ntmps21
    go_wp2_with (first
      | (refine Box.load H1 rfl 48 _ rfl 1 1 rfl _ Tryz.underlying48 (by kernel_rfl) [.slice K x.kids.length ck] rfl rfl (.inr rfl) (.slice K x.kids.length ck) rfl ?_)
      | (go_at_call 43; refine (szIntS_c _ _ _ _ _ hm hk).mono ?_; rintro e w2 ⟨rfl, rfl⟩; rw [if_neg (by omega)]))
    go_ret
    exact ⟨rfl, HB.out⟩
end Go.Proofs.YtkoljbndbomhdaaGreat
