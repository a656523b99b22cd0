/- IsGone and RootOf, both sides; the chain of ancestors in a valid tree. -/
import Derived.Test.YtdgjiafognbhfaaTreeOkS
namespace Go.Proofs.Ytdgjiafognbhfaa
open Go.RowKit Go.ChangeShapes Go.WideShapes
set_option linter.unusedVariables false
set_option linter.unusedSimpArgs false

/-- d steps up from m, each from a node, lead to 0 -/
def Chain (T : List NodeD) : Nat → Int → Prop
  | 0, m => m = 0
  | d + 1, m => isNodeB T m = true ∧ Chain T d (upOf T m)
theorem node_ne {T : List NodeD} {m : Int} (h : isNodeB T m = true) : m ≠ 0 := by have := isNode_iff.1 h; omega
theorem chain_depth {T : List NodeD} : ∀ (d f : Nat) (m k : Int), Chain T d m → d < f → depthFrom T f m k = k + (d : Int)
  | 0, f + 1, m, k, h, _ => by obtain rfl : m = 0 := h; rw [depth_zero]; simp
  | d + 1, f + 1, m, k, h, hf => by
    rw [depth_next _ _ (node_ne h.1) h.1, chain_depth d f _ _ h.2 (by omega)]
    omega
theorem depth_chain {T : List NodeD} : ∀ (f : Nat) (m k : Int), depthFrom T f m k ≠ 0 → ∃ d, d < f ∧ Chain T d m
  | 0, m, k, h => absurd rfl h
  | f + 1, m, k, h => by
    by_cases h0 : m = 0
    · exact ⟨0, by omega, h0⟩
    · cases hq : isNodeB T m
      · exact absurd (depth_no _ _ h0 hq) h
      · rw [depth_next _ _ h0 hq] at h
        obtain ⟨d, hd, hc⟩ := depth_chain f _ _ h
        exact ⟨d + 1, by omega, hq, hc⟩
theorem chain_depthOf {T : List NodeD} {d : Nat} {m : Int} (h : Chain T d m) (hd : d ≤ T.length) : depthOf T m = (d : Int) := by
  unfold depthOf
  rw [chain_depth d _ _ _ h (by omega)]
  omega
theorem treeOk_at {T : List NodeD} (h : treeOk T = true) {j : Nat} (hj : j < T.length) : nodeOk T j = true := by
  unfold treeOk at h
  rw [Bool.and_eq_true, List.all_eq_true] at h
  exact h.2 j (List.mem_range.2 hj)
theorem treeOk_len {T : List NodeD} (h : treeOk T = true) : T.length ≤ 12 := by
  unfold treeOk at h
  rw [Bool.and_eq_true] at h
  simpa using h.1
theorem treeOk_depth {T : List NodeD} (h : treeOk T = true) {j : Nat} (hj : j < T.length) : depthOk T j = true := by
  have := treeOk_at h hj
  unfold nodeOk at this
  simp only [Bool.and_eq_true] at this
  exact this.1.1.1.2
theorem treeOk_kids {T : List NodeD} (h : treeOk T = true) {j : Nat} (hj : j < T.length) : ∀ z ∈ (node_ T j).kids, kidOk T j z = true := by
  have := treeOk_at h hj
  unfold nodeOk at this
  simp only [Bool.and_eq_true] at this
  exact List.all_eq_true.1 this.1.1.2
theorem treeOk_chain {T : List NodeD} (h : treeOk T = true) {m : Int} (hm : isNodeB T m = true) : ∃ d, d ≤ 4 ∧ d ≤ T.length ∧ Chain T d m ∧ depthOf T m = (d : Int) := by
  obtain ⟨j, rfl, hj⟩ := isNode_split hm
  have hd := treeOk_depth h hj
  unfold depthOk inB at hd
  simp only [Bool.and_eq_true, decide_eq_true_eq] at hd
  have h0 : depthOf T ((j : Int) + 1) ≠ 0 := by omega
  obtain ⟨d, hd1, hc⟩ := depth_chain (T.length + 1) ((j : Int) + 1) 0 h0
  have := chain_depthOf hc (by omega)
  exact ⟨d, by omega, by omega, hc, this⟩

def goneFrom (T : List NodeD) : Nat → Int → Bool
  | 0, _ => false
  | d + 1, m => (nd T m).style.b 7 || goneFrom T d (upOf T m)
def isGone (T : List NodeD) (n : Int) : Bool := !treeOk T || !isNodeB T n || goneFrom T (depthOf T n).toNat n
def rootFrom (T : List NodeD) : Nat → Int → Int
  | 0, m => m
  | d + 1, m => if upOf T m = 0 then m else rootFrom T d (upOf T m)
def rootOf (T : List NodeD) (n : Int) : Int := if treeOk T = true ∧ isNodeB T n = true then rootFrom T (depthOf T n).toNat n else 0
theorem nd_eq (T : List NodeD) (j : Nat) : nd T ((j : Int) + 1) = node_ T j := by
  unfold nd
  congr 1
  omega

theorem field_style (x : NodeD) (K R : Value) (w : World) : (Instr.field 55 (.agg (nodeL x K R).toArray) 2).run Try.prog w = .ok (styleV x.style) w := by
  have hagg : (isAgg 50).run Try.prog w = .ok true w := by
    unfold isAgg
    rw [Sem.run_bind, run_underlying Try.underlying50 w]
    rfl
  have hsz : (sizeOf 50).run Try.prog w = .ok 60 w := by
    obtain ⟨i, hi, hs⟩ : ∃ i, (Try.prog).info? 50 = some i ∧ i.size = 60 := by
      have hk : ((Try.prog).info? 50).map (·.size) = some 60 := by kernel_rfl
      cases hq : (Try.prog).info? 50 with
      | none => rw [hq] at hk; simp at hk
      | some i => exact ⟨i, rfl, by rw [hq] at hk; simpa using hk⟩
    simp [sizeOf, typeInfo, hi, hs]
  have h0 : (nodeL x K R).toArray.extract 2 62 = (styleL x.style).toArray := by
    rw [← nodeL_style x K R, List.extract_toArray, List.extract_eq_drop_take']
    congr 1
  obtain ⟨cs, hcs⟩ : ∃ cs, (nodeL x K R).toArray = cs := ⟨_, rfl⟩
  rw [hcs] at h0 ⊢
  unfold Instr.field
  rw [Sem.run_bind, run_underlying Try.underlying55 w]
  simp only [Result.andThen_ok]
  show (asAgg (.agg cs) >>= fun z => part 50 z 2).run Try.prog w = _
  simp [asAgg, part, Sem.run_bind, hagg, hsz, h0, styleV]
theorem field_flag (r : Rec) (w : World) (o : Nat) (ho : o = 6 ∨ o = 7) : (Instr.field 50 (styleV r) o).run Try.prog w = .ok (.bool (r.b o)) w := by
  have hagg : (isAgg 4).run Try.prog w = .ok false w := by
    unfold isAgg
    rw [Sem.run_bind, run_underlying Try.underlying4 w]
    rfl
  have h0 : (styleL r).toArray[o]? = some (.bool (r.b o)) := by
    rw [List.getElem?_toArray]
    rcases ho with rfl | rfl
    · exact rcells_bool r rfl
    · exact rcells_bool r rfl
  unfold styleV
  obtain ⟨cs, hcs⟩ : ∃ cs, (styleL r).toArray = cs := ⟨_, rfl⟩
  rw [hcs] at h0 ⊢
  unfold Instr.field
  rw [Sem.run_bind, run_underlying Try.underlying50 w]
  simp only [Result.andThen_ok]
  rcases ho with rfl | rfl
  · show (asAgg (.agg cs) >>= fun z => part 4 z 6).run Try.prog w = _
    simp [asAgg, part, Sem.run_bind, hagg, h0]
  · show (asAgg (.agg cs) >>= fun z => part 4 z 7).run Try.prog w = _
    simp [asAgg, part, Sem.run_bind, hagg, h0]

set_option maxRecDepth 100000 in
set_option maxHeartbeats 8000000 in
theorem iIsGone_c (A : Option Addr) (c : Nat) (T : List NodeD) (n : Int) (w : World) (h : Nodes w A T) (hn : T.length ≤ 1048576) (hkr : ∀ j, j < T.length → (node_ T j).kids.length ≤ 1048576 ∧ (node_ T j).rules.length ≤ 1048576) :
    Calls Try.prog 22 #[treeV A T.length c, .int .i64 n] w fun e w' => e = .returned (.bool (isGone T n)) ∧ Bel w w' := by
  obtain ⟨W, hW⟩ : ∃ W, W = w.alloc (.cells #[.slice A T.length c] 29) := ⟨_, rfl⟩
  have HWB : Hid (Bel w W) := hid' (by rw [hW]; exact (Bel.refl w).alloc _)
  have HK : Hid (∀ u, Bel W u → u.cell? ⟨w.heap.size, 0, none⟩ = some (.slice A T.length c)) := hid' (fun u hu => by rw [hu.cell _ _ (by rw [hW]; simp), hW]; simp)
  have HKR := Lib.hid hkr
  clear hkr
  go_enter Try.func22, Try.ntmps22
  go_wp2_with fail
  rw [← hW]
  clear hW
  refine (iTreeOk_c _ _ _ _ (h.keep HWB.out) hn HKR.out).mono ?_; rintro e w1 ⟨rfl, hb1⟩
  have hc1 := HK.out _ hb1
  cases ht : treeOk T
  · have HR : Hid (true = isGone T n) := hid' (by simp [isGone, ht])
    go_wp2_with fail
    go_ret
    exact ⟨by (show Ending.returned (.bool true) = _; rw [HR.out]), HWB.out.trans hb1⟩
  · have HTO := Lib.hid ht
    clear ht
    go_wp2_with fail
    refine (iIsNode_c _ _ _ _ _).mono ?_; rintro e w2 ⟨rfl, hb2⟩
    have hb12 := hb1.trans hb2
    have hc2 := HK.out _ hb12
    cases hnn : isNodeB T n
    · have HR : Hid (true = isGone T n) := hid' (by simp [isGone, hnn])
      go_wp2_with fail
      go_ret
      exact ⟨by (show Ending.returned (.bool true) = _; rw [HR.out]), HWB.out.trans hb12⟩
    · obtain ⟨d0, hd4, hdT, hch, hdp⟩ := treeOk_chain HTO.out hnn
      have HNN := Lib.hid hnn
      have HCH := Lib.hid hch
      have HDT := Lib.hid hdT
      have HDP := Lib.hid hdp
      clear hnn hch hdT hdp
      skip
      have HG0 : Hid (goneFrom T d0 n = isGone T n) := hid' (by unfold isGone; rw [HTO.out, HNN.out, HDP.out]; simp)
      go_wp2_with fail
      go_loopw [1] (fun s wr => ∃ (d : Nat) (m : Int), s = .int .i64 m ∧ Hid (Chain T d m) ∧ Hid (d ≤ T.length) ∧ Hid (goneFrom T d m = isGone T n) ∧ Bel W wr) (fun s _ => (depthOf T (intOf s)).toNat)
      case atStart => exact ⟨d0, n, rfl, HCH, HDT, HG0, hb12⟩
      case round =>
        obtain ⟨d, m, rfl, HC, HL, HG, hb⟩ := hrel
        have hc0 := HK.out _ hb
        cases d with
        | zero =>
          obtain rfl : m = 0 := HC.out
          have HR : Hid (false = isGone T n) := hid' HG.out
          go_wp2_with fail
          go_ret
          exact ⟨by (show Ending.returned (.bool false) = _; rw [HR.out]), HWB.out.trans hb⟩
        | succ d =>
          obtain ⟨j, hje, hj⟩ := isNode_split HC.out.1
          have HM : Hid ((depthOf T m).toNat = d + 1 ∧ (depthOf T (node_ T j).up).toNat = d) := hid' ⟨by rw [chain_depthOf HC.out HL.out]; omega, by have := HC.out.2; rw [hje, upOf_eq] at this; rw [chain_depthOf this (by have := HL.out; omega)]; omega⟩
          have HC2 : Hid (Chain T d (node_ T j).up) := hid' (by have := HC.out.2; rw [hje, upOf_eq] at this; exact this)
          have HG2 : Hid (((node_ T j).style.b 7 || goneFrom T d (node_ T j).up) = isGone T n) := hid' (by have := HG.out; unfold goneFrom at this; rw [hje, upOf_eq, nd_eq] at this; exact this)
          have HL2 : Hid (d ≤ T.length) := hid' (by have := HL.out; omega)
          subst hje
          have hne : ((j : Int) + 1 != 0) = true := by simp; omega
          go_wp2_with fail
          refine (iNode_c _ _ _ _ _ (h.keep (HWB.out.trans hb)) hj hn).mono ?_; rintro e w3 ⟨L, rfl, hL, hb3⟩
          obtain ⟨K, ck, R, cr, rfl, -⟩ := hL
          have hb03 := hb.trans hb3
          have hc3 := HK.out _ hb03
          have hfs := field_style (node_ T j) (.slice K (node_ T j).kids.length ck) (.slice R (node_ T j).rules.length cr) w3
          have hfh := field_flag (node_ T j).style w3 7 (.inr rfl)
          cases hh : (node_ T j).style.b 7
          · have HG3 : Hid (goneFrom T d (node_ T j).up = isGone T n) := hid' (by have := HG2.out; rw [hh] at this; simpa using this)
            rw [hh] at hfh
            clear hh
            go_wp2_with fail
            clear hfs hfh
            refine (iNode_c _ _ _ _ _ (h.keep (HWB.out.trans hb03)) hj hn).mono ?_; rintro e w4 ⟨L4, rfl, hL4, hb4⟩
            obtain ⟨K4, ck4, R4, cr4, rfl, -⟩ := hL4
            have hfu := field_up (node_ T j) (.slice K4 (node_ T j).kids.length ck4) (.slice R4 (node_ T j).rules.length cr4) w4
            go_wp2_with fail
            go_roundw
            case rel => exact ⟨d, _, rfl, HC2, HL2, HG3, hb03.trans hb4⟩
            case measure => simp only [intOf]; have := HM.out; omega
          · have HR : Hid (true = isGone T n) := hid' (by have := HG2.out; rw [hh] at this; simpa using this)
            rw [hh] at hfh
            clear hh
            go_wp2_with fail
            go_ret
            exact ⟨by (show Ending.returned (.bool true) = _; rw [HR.out]), HWB.out.trans hb03⟩
set_option maxRecDepth 100000 in
set_option maxHeartbeats 8000000 in
theorem sIsGone_c (A : Option Addr) (c : Nat) (T : List NodeD) (n : Int) (w : World) (h : Nodes w A T) (hn : T.length ≤ 1048576) (hkr : ∀ j, j < T.length → (node_ T j).kids.length ≤ 1048576 ∧ (node_ T j).rules.length ≤ 1048576) :
    Calls Try.prog 21 #[treeV A T.length c, .int .i64 n] w fun e w' => e = .returned (.bool (isGone T n)) ∧ Bel w w' := by
  obtain ⟨W, hW⟩ : ∃ W, W = w.alloc (.cells #[.slice A T.length c] 29) := ⟨_, rfl⟩
  have HWB : Hid (Bel w W) := hid' (by rw [hW]; exact (Bel.refl w).alloc _)
  have HK : Hid (∀ u, Bel W u → u.cell? ⟨w.heap.size, 0, none⟩ = some (.slice A T.length c)) := hid' (fun u hu => by rw [hu.cell _ _ (by rw [hW]; simp), hW]; simp)
  have HKR := Lib.hid hkr
  clear hkr
  go_enter Try.func21, Try.ntmps21
  go_wp2_with fail
  rw [← hW]
  clear hW
  refine (sTreeOk_c _ _ _ _ (h.keep HWB.out) hn HKR.out).mono ?_; rintro e w1 ⟨rfl, hb1⟩
  have hc1 := HK.out _ hb1
  cases ht : treeOk T
  · have HR : Hid (true = isGone T n) := hid' (by simp [isGone, ht])
    go_wp2_with fail
    go_ret
    exact ⟨by (show Ending.returned (.bool true) = _; rw [HR.out]), HWB.out.trans hb1⟩
  · have HTO := Lib.hid ht
    clear ht
    go_wp2_with fail
    refine (sIsNode_c _ _ _ _ _).mono ?_; rintro e w2 ⟨rfl, hb2⟩
    have hb12 := hb1.trans hb2
    have hc2 := HK.out _ hb12
    cases hnn : isNodeB T n
    · have HR : Hid (true = isGone T n) := hid' (by simp [isGone, hnn])
      go_wp2_with fail
      go_ret
      exact ⟨by (show Ending.returned (.bool true) = _; rw [HR.out]), HWB.out.trans hb12⟩
    · obtain ⟨d0, hd4, hdT, hch, hdp⟩ := treeOk_chain HTO.out hnn
      have HNN := Lib.hid hnn
      have HCH := Lib.hid hch
      have HDT := Lib.hid hdT
      have HDP := Lib.hid hdp
      clear hnn hch hdT hdp
      skip
      have HG0 : Hid (goneFrom T d0 n = isGone T n) := hid' (by unfold isGone; rw [HTO.out, HNN.out, HDP.out]; simp)
      go_wp2_with fail
      go_loopw [1] (fun s wr => ∃ (d : Nat) (m : Int), s = .int .i64 m ∧ Hid (Chain T d m) ∧ Hid (d ≤ T.length) ∧ Hid (goneFrom T d m = isGone T n) ∧ Bel W wr) (fun s _ => (depthOf T (intOf s)).toNat)
      case atStart => exact ⟨d0, n, rfl, HCH, HDT, HG0, hb12⟩
      case round =>
        obtain ⟨d, m, rfl, HC, HL, HG, hb⟩ := hrel
        have hc0 := HK.out _ hb
        cases d with
        | zero =>
          obtain rfl : m = 0 := HC.out
          have HR : Hid (false = isGone T n) := hid' HG.out
          go_wp2_with fail
          go_ret
          exact ⟨by (show Ending.returned (.bool false) = _; rw [HR.out]), HWB.out.trans hb⟩
        | succ d =>
          obtain ⟨j, hje, hj⟩ := isNode_split HC.out.1
          have HM : Hid ((depthOf T m).toNat = d + 1 ∧ (depthOf T (node_ T j).up).toNat = d) := hid' ⟨by rw [chain_depthOf HC.out HL.out]; omega, by have := HC.out.2; rw [hje, upOf_eq] at this; rw [chain_depthOf this (by have := HL.out; omega)]; omega⟩
          have HC2 : Hid (Chain T d (node_ T j).up) := hid' (by have := HC.out.2; rw [hje, upOf_eq] at this; exact this)
          have HG2 : Hid (((node_ T j).style.b 7 || goneFrom T d (node_ T j).up) = isGone T n) := hid' (by have := HG.out; unfold goneFrom at this; rw [hje, upOf_eq, nd_eq] at this; exact this)
          have HL2 : Hid (d ≤ T.length) := hid' (by have := HL.out; omega)
          subst hje
          have hne : ((j : Int) + 1 != 0) = true := by simp; omega
          go_wp2_with fail
          refine (sNode_c _ _ _ _ _ (h.keep (HWB.out.trans hb)) hj hn).mono ?_; rintro e w3 ⟨L, rfl, hL, hb3⟩
          obtain ⟨K, ck, R, cr, rfl, -⟩ := hL
          have hb03 := hb.trans hb3
          have hc3 := HK.out _ hb03
          have hfs := field_style (node_ T j) (.slice K (node_ T j).kids.length ck) (.slice R (node_ T j).rules.length cr) w3
          have hfh := field_flag (node_ T j).style w3 7 (.inr rfl)
          cases hh : (node_ T j).style.b 7
          · have HG3 : Hid (goneFrom T d (node_ T j).up = isGone T n) := hid' (by have := HG2.out; rw [hh] at this; simpa using this)
            rw [hh] at hfh
            clear hh
            go_wp2_with fail
            clear hfs hfh
            refine (sNode_c _ _ _ _ _ (h.keep (HWB.out.trans hb03)) hj hn).mono ?_; rintro e w4 ⟨L4, rfl, hL4, hb4⟩
            obtain ⟨K4, ck4, R4, cr4, rfl, -⟩ := hL4
            have hfu := field_up (node_ T j) (.slice K4 (node_ T j).kids.length ck4) (.slice R4 (node_ T j).rules.length cr4) w4
            go_wp2_with fail
            go_roundw
            case rel => exact ⟨d, _, rfl, HC2, HL2, HG3, hb03.trans hb4⟩
            case measure => simp only [intOf]; have := HM.out; omega
          · have HR : Hid (true = isGone T n) := hid' (by have := HG2.out; rw [hh] at this; simpa using this)
            rw [hh] at hfh
            clear hh
            go_wp2_with fail
            go_ret
            exact ⟨by (show Ending.returned (.bool true) = _; rw [HR.out]), HWB.out.trans hb03⟩
set_option maxRecDepth 100000 in
set_option maxHeartbeats 8000000 in
theorem iRootOf_c (A : Option Addr) (c : Nat) (T : List NodeD) (n : Int) (w : World) (h : Nodes w A T) (hn : T.length ≤ 1048576) (hkr : ∀ j, j < T.length → (node_ T j).kids.length ≤ 1048576 ∧ (node_ T j).rules.length ≤ 1048576) :
    Calls Try.prog 20 #[treeV A T.length c, .int .i64 n] w fun e w' => e = .returned (.int .i64 (rootOf T n)) ∧ Bel w w' := by
  obtain ⟨W, hW⟩ : ∃ W, W = w.alloc (.cells #[.slice A T.length c] 29) := ⟨_, rfl⟩
  have HWB : Hid (Bel w W) := hid' (by rw [hW]; exact (Bel.refl w).alloc _)
  have HK : Hid (∀ u, Bel W u → u.cell? ⟨w.heap.size, 0, none⟩ = some (.slice A T.length c)) := hid' (fun u hu => by rw [hu.cell _ _ (by rw [hW]; simp), hW]; simp)
  have HKR := Lib.hid hkr
  clear hkr
  go_enter Try.func20, Try.ntmps20
  go_wp2_with fail
  rw [← hW]
  clear hW
  refine (iTreeOk_c _ _ _ _ (h.keep HWB.out) hn HKR.out).mono ?_; rintro e w1 ⟨rfl, hb1⟩
  have hc1 := HK.out _ hb1
  cases ht : treeOk T
  · have HR : Hid (0 = rootOf T n) := hid' (by simp [rootOf, ht])
    go_wp2_with fail
    go_ret
    exact ⟨by (show Ending.returned (.int .i64 0) = _; rw [HR.out]), HWB.out.trans hb1⟩
  · have HTO := Lib.hid ht
    clear ht
    go_wp2_with fail
    refine (iIsNode_c _ _ _ _ _).mono ?_; rintro e w2 ⟨rfl, hb2⟩
    have hb12 := hb1.trans hb2
    have hc2 := HK.out _ hb12
    cases hnn : isNodeB T n
    · have HR : Hid (0 = rootOf T n) := hid' (by simp [rootOf, hnn])
      go_wp2_with fail
      go_ret
      exact ⟨by (show Ending.returned (.int .i64 0) = _; rw [HR.out]), HWB.out.trans hb12⟩
    · obtain ⟨d0, hd4, hdT, hch, hdp⟩ := treeOk_chain HTO.out hnn
      have HNN := Lib.hid hnn
      have HCH := Lib.hid hch
      have HDT := Lib.hid hdT
      have HDP := Lib.hid hdp
      clear hnn hch hdT hdp
      skip
      have HG0 : Hid (rootFrom T d0 n = rootOf T n) := hid' (by unfold rootOf; rw [if_pos ⟨HTO.out, HNN.out⟩, HDP.out]; simp)
      have HD1 : Hid (1 ≤ d0) := hid' (by have := HCH.out; cases d0 with | zero => exact absurd this (node_ne HNN.out) | succ d => omega)
      go_wp2_with fail
      go_loopw [1] (fun s wr => ∃ (d : Nat) (m : Int), s = .int .i64 m ∧ Hid (Chain T d m) ∧ Hid (1 ≤ d) ∧ Hid (d ≤ T.length) ∧ Hid (rootFrom T d m = rootOf T n) ∧ Bel W wr) (fun s _ => (depthOf T (intOf s)).toNat)
      case atStart => exact ⟨d0, n, rfl, HCH, HD1, HDT, HG0, hb12⟩
      case round =>
        obtain ⟨d, m, rfl, HC, HP, HL, HG, hb⟩ := hrel
        have hc0 := HK.out _ hb
        cases d with
        | zero => exact absurd HP.out (by decide)
        | succ d =>
          obtain ⟨j, hje, hj⟩ := isNode_split HC.out.1
          have HM : Hid ((depthOf T m).toNat = d + 1 ∧ (depthOf T (node_ T j).up).toNat = d) := hid' ⟨by rw [chain_depthOf HC.out HL.out]; omega, by have := HC.out.2; rw [hje, upOf_eq] at this; rw [chain_depthOf this (by have := HL.out; omega)]; omega⟩
          have HC2 : Hid (Chain T d (node_ T j).up) := hid' (by have := HC.out.2; rw [hje, upOf_eq] at this; exact this)
          have HG2 : Hid ((if (node_ T j).up = 0 then (j : Int) + 1 else rootFrom T d (node_ T j).up) = rootOf T n) := hid' (by have := HG.out; unfold rootFrom at this; rw [hje, upOf_eq] at this; exact this)
          have HL2 : Hid (d ≤ T.length) := hid' (by have := HL.out; omega)
          subst hje
          go_wp2_with fail
          refine (iNode_c _ _ _ _ _ (h.keep (HWB.out.trans hb)) hj hn).mono ?_; rintro e w3 ⟨L, rfl, hL, hb3⟩
          obtain ⟨K, ck, R, cr, rfl, -⟩ := hL
          have hb03 := hb.trans hb3
          have hc3 := HK.out _ hb03
          have hfu := field_up (node_ T j) (.slice K (node_ T j).kids.length ck) (.slice R (node_ T j).rules.length cr) w3
          by_cases h0 : (node_ T j).up = 0
          · have HR : Hid ((j : Int) + 1 = rootOf T n) := hid' (by have := HG2.out; rw [if_pos h0] at this; exact this)
            have hne : ((node_ T j).up != 0) = false := by simp [h0]
            clear h0
            go_wp2_with fail
            go_ret
            exact ⟨by (show Ending.returned (.int .i64 ((j : Int) + 1)) = _; rw [HR.out]), HWB.out.trans hb03⟩
          · have HG3 : Hid (rootFrom T d (node_ T j).up = rootOf T n) := hid' (by have := HG2.out; rw [if_neg h0] at this; exact this)
            have HP2 : Hid (1 ≤ d) := hid' (by have := HC2.out; cases d with | zero => exact absurd this h0 | succ d => omega)
            have hne : ((node_ T j).up != 0) = true := by simp [h0]
            clear h0
            go_wp2_with fail
            clear hfu
            refine (iNode_c _ _ _ _ _ (h.keep (HWB.out.trans hb03)) hj hn).mono ?_; rintro e w4 ⟨L4, rfl, hL4, hb4⟩
            obtain ⟨K4, ck4, R4, cr4, rfl, -⟩ := hL4
            have hfu := field_up (node_ T j) (.slice K4 (node_ T j).kids.length ck4) (.slice R4 (node_ T j).rules.length cr4) w4
            go_wp2_with fail
            go_roundw
            case rel => exact ⟨d, _, rfl, HC2, HP2, HL2, HG3, hb03.trans hb4⟩
            case measure => simp only [intOf]; have := HM.out; omega
set_option maxRecDepth 100000 in
set_option maxHeartbeats 8000000 in
theorem sRootOf_c (A : Option Addr) (c : Nat) (T : List NodeD) (n : Int) (w : World) (h : Nodes w A T) (hn : T.length ≤ 1048576) (hkr : ∀ j, j < T.length → (node_ T j).kids.length ≤ 1048576 ∧ (node_ T j).rules.length ≤ 1048576) :
    Calls Try.prog 19 #[treeV A T.length c, .int .i64 n] w fun e w' => e = .returned (.int .i64 (rootOf T n)) ∧ Bel w w' := by
  obtain ⟨W, hW⟩ : ∃ W, W = w.alloc (.cells #[.slice A T.length c] 29) := ⟨_, rfl⟩
  have HWB : Hid (Bel w W) := hid' (by rw [hW]; exact (Bel.refl w).alloc _)
  have HK : Hid (∀ u, Bel W u → u.cell? ⟨w.heap.size, 0, none⟩ = some (.slice A T.length c)) := hid' (fun u hu => by rw [hu.cell _ _ (by rw [hW]; simp), hW]; simp)
  have HKR := Lib.hid hkr
  clear hkr
  go_enter Try.func19, Try.ntmps19
  go_wp2_with fail
  rw [← hW]
  clear hW
  refine (sTreeOk_c _ _ _ _ (h.keep HWB.out) hn HKR.out).mono ?_; rintro e w1 ⟨rfl, hb1⟩
  have hc1 := HK.out _ hb1
  cases ht : treeOk T
  · have HR : Hid (0 = rootOf T n) := hid' (by simp [rootOf, ht])
    go_wp2_with fail
    go_ret
    exact ⟨by (show Ending.returned (.int .i64 0) = _; rw [HR.out]), HWB.out.trans hb1⟩
  · have HTO := Lib.hid ht
    clear ht
    go_wp2_with fail
    refine (sIsNode_c _ _ _ _ _).mono ?_; rintro e w2 ⟨rfl, hb2⟩
    have hb12 := hb1.trans hb2
    have hc2 := HK.out _ hb12
    cases hnn : isNodeB T n
    · have HR : Hid (0 = rootOf T n) := hid' (by simp [rootOf, hnn])
      go_wp2_with fail
      go_ret
      exact ⟨by (show Ending.returned (.int .i64 0) = _; rw [HR.out]), HWB.out.trans hb12⟩
    · obtain ⟨d0, hd4, hdT, hch, hdp⟩ := treeOk_chain HTO.out hnn
      have HNN := Lib.hid hnn
      have HCH := Lib.hid hch
      have HDT := Lib.hid hdT
      have HDP := Lib.hid hdp
      clear hnn hch hdT hdp
      skip
      have HG0 : Hid (rootFrom T d0 n = rootOf T n) := hid' (by unfold rootOf; rw [if_pos ⟨HTO.out, HNN.out⟩, HDP.out]; simp)
      have HD1 : Hid (1 ≤ d0) := hid' (by have := HCH.out; cases d0 with | zero => exact absurd this (node_ne HNN.out) | succ d => omega)
      go_wp2_with fail
      go_loopw [1] (fun s wr => ∃ (d : Nat) (m : Int), s = .int .i64 m ∧ Hid (Chain T d m) ∧ Hid (1 ≤ d) ∧ Hid (d ≤ T.length) ∧ Hid (rootFrom T d m = rootOf T n) ∧ Bel W wr) (fun s _ => (depthOf T (intOf s)).toNat)
      case atStart => exact ⟨d0, n, rfl, HCH, HD1, HDT, HG0, hb12⟩
      case round =>
        obtain ⟨d, m, rfl, HC, HP, HL, HG, hb⟩ := hrel
        have hc0 := HK.out _ hb
        cases d with
        | zero => exact absurd HP.out (by decide)
        | succ d =>
          obtain ⟨j, hje, hj⟩ := isNode_split HC.out.1
          have HM : Hid ((depthOf T m).toNat = d + 1 ∧ (depthOf T (node_ T j).up).toNat = d) := hid' ⟨by rw [chain_depthOf HC.out HL.out]; omega, by have := HC.out.2; rw [hje, upOf_eq] at this; rw [chain_depthOf this (by have := HL.out; omega)]; omega⟩
          have HC2 : Hid (Chain T d (node_ T j).up) := hid' (by have := HC.out.2; rw [hje, upOf_eq] at this; exact this)
          have HG2 : Hid ((if (node_ T j).up = 0 then (j : Int) + 1 else rootFrom T d (node_ T j).up) = rootOf T n) := hid' (by have := HG.out; unfold rootFrom at this; rw [hje, upOf_eq] at this; exact this)
          have HL2 : Hid (d ≤ T.length) := hid' (by have := HL.out; omega)
          subst hje
          go_wp2_with fail
          refine (sNode_c _ _ _ _ _ (h.keep (HWB.out.trans hb)) hj hn).mono ?_; rintro e w3 ⟨L, rfl, hL, hb3⟩
          obtain ⟨K, ck, R, cr, rfl, -⟩ := hL
          have hb03 := hb.trans hb3
          have hc3 := HK.out _ hb03
          have hfu := field_up (node_ T j) (.slice K (node_ T j).kids.length ck) (.slice R (node_ T j).rules.length cr) w3
          by_cases h0 : (node_ T j).up = 0
          · have HR : Hid ((j : Int) + 1 = rootOf T n) := hid' (by have := HG2.out; rw [if_pos h0] at this; exact this)
            have hne : ((node_ T j).up != 0) = false := by simp [h0]
            clear h0
            go_wp2_with fail
            go_ret
            exact ⟨by (show Ending.returned (.int .i64 ((j : Int) + 1)) = _; rw [HR.out]), HWB.out.trans hb03⟩
          · have HG3 : Hid (rootFrom T d (node_ T j).up = rootOf T n) := hid' (by have := HG2.out; rw [if_neg h0] at this; exact this)
            have HP2 : Hid (1 ≤ d) := hid' (by have := HC2.out; cases d with | zero => exact absurd this h0 | succ d => omega)
            have hne : ((node_ T j).up != 0) = true := by simp [h0]
            clear h0
            go_wp2_with fail
            clear hfu
            refine (sNode_c _ _ _ _ _ (h.keep (HWB.out.trans hb03)) hj hn).mono ?_; rintro e w4 ⟨L4, rfl, hL4, hb4⟩
            obtain ⟨K4, ck4, R4, cr4, rfl, -⟩ := hL4
            have hfu := field_up (node_ T j) (.slice K4 (node_ T j).kids.length ck4) (.slice R4 (node_ T j).rules.length cr4) w4
            go_wp2_with fail
            go_roundw
            case rel => exact ⟨d, _, rfl, HC2, HP2, HL2, HG3, hb03.trans hb4⟩
            case measure => simp only [intOf]; have := HM.out; omega
end Go.Proofs.Ytdgjiafognbhfaa
