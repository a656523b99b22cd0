/- SetTable, both sides. -/
import Derived.Test.YtcdneamoemmohaaAddNodeF
namespace Go.Proofs.Ytcdneamoemmohaa
open Go.RowKit Go.ChangeShapes Go.WideShapes
set_option linter.unusedVariables false
set_option linter.unusedSimpArgs false

def setTT (T : List NodeD) (j : Nat) (R : List Rec) : List NodeD :=
  let T1 := T.set j { node_ T j with meas := decide (0 < R.length) }
  T1.set j { node_ T1 j with rules := R }
theorem setTT_length (T : List NodeD) (j : Nat) (R : List Rec) : (setTT T j R).length = T.length := by simp [setTT]
def setTableT (T : List NodeD) (n : Int) (R : List Rec) : List NodeD × Int :=
  if treeOk T = true ∧ isNodeB T n = true then (if 0 < R.length ∧ (tableOk R = false ∨ 0 < (nd T n).kids.length) then (T, 6) else (setTT T (n - 1).toNat R, 0)) else (T, 1)
/-- the flag stored -/
theorem Ed.storeMeas {w : World} {ops : Array Oper} {rest : List Oper} {op : Oper} {a : Act} {Q : Exit → Act → World → Prop} {base g n c j : Nat} {T : List NodeD} {KS RS : List Value} {u : Bool} (E : Ed w base g n c T KS RS) (hj : j < T.length) (hgd : op.guard = none) (x y : Operand) (ho : op.op = .store 4 x y)
    (hx : a.eval x = .pointer (some ⟨g, j * 64 + 62, none⟩)) (hy : a.eval y = .bool u)
    (h : ∀ w', Hid (Ed w' base g n c (T.set j { node_ T j with meas := u }) KS RS ∧ w.grownBy w' (some g)) → wpList Try.prog ops Q rest (a.put op.dst undef) w') : wpList Try.prog ops Q (op :: rest) a w := by
  refine wpList_store_any hgd 4 x y ho g (j * 64 + 62) (.bool u) hx hy (E.there (o := j * 64 + 62) (m := 1) (by omega)) (by kernel_rfl) (by intro q hq; simp [Value.cells] at hq; subst hq; rfl) (h _ (hid' ?_))
  exact E.cell (off := 62) hj { node_ T j with meas := u } (by decide) (fun K R => nodeL_setMeas _ _ _ _) rfl rfl
set_option maxRecDepth 100000 in
theorem step_appR {w : World} {ops : Array Oper} {o : Oper} {a : Act} {K : Act → World → Prop} {Q : Exit → Act → World → Prop} {E : Prop} (hgd : o.guard = none) (s x : Operand)
    (ho : o.op = .call { callee := .builtin .append, args := #[s, x], argTypes := #[43, 43] })
    (base : Nat) (v : Value) (n : Nat) (xs : List Value) (hs : a.eval s = v) (hown : w.ownsRow base 106 3 v n xs) (A : Option Addr) (c : Nat) (L : List Rec) (hx : a.eval x = .slice A L.length c)
    (hI : Recs w A k_rule L) (hA : A = none → c = 0) (hn : n + L.length ≤ 4194304) (hbase : base ≤ w.heap.size)
    (h : ∀ v' w', w'.ownsRow base 106 3 v' (n + L.length) (xs ++ RV k_rule L) → w.grownBy w' v.ownBlock → K (a.put o.dst v') w') :
    if Region.wanted o (yielded ops a.tmps) = true then Oper.wp Try.prog o a w K Q else E := by
  have hw : Region.wanted o (yielded ops a.tmps) = true := by simp [Region.wanted, hgd]
  rw [if_pos hw]
  obtain ⟨i0, hi, hz0, hz1, hz2⟩ := info_parts Try.info_rule2
  rcases A with _ | ad
  · have hz : L = [] := by
      rcases L with _ | ⟨z, zs⟩
      · rfl
      · obtain ⟨_, _, h0, _⟩ := hI 0 (by simp)
        cases h0
    subst hz
    have hc := hA rfl
    subst hc
    have hr := run_append_owned_none (P := Try.prog) w base 43 o.type 106 i0 3 Try.underlying43 hi v n xs hown
    unfold Oper.wp execOp
    simp only [ho, resolve, invoke, builtin, Sem.run_bind, Sem.run_pure, Result.andThen_ok, List.map_toArray, List.map_cons, List.map_nil, hs, hx, List.length_nil, hr]
    exact h v w (by simpa [RV] using hown) (World.grownBy.refl w _)
  · obtain ⟨v', w', hrun, h2, h3, _, _⟩ := run_append_own_at (P := Try.prog) w base 43 o.type 106 i0 (.agg #[.int .i64 0, .int .i64 0, .int .i64 0]) 3 24 Try.underlying43 hi hz0 hz1 hz2 rfl (by decide) v n xs hown ad L.length c (RV k_rule L) (by rw [RV_length]; rfl) (fun j u hj => by
      have hj' := lt_of_get hj
      rw [RV_length] at hj'
      have hL : 0 < L.length := by
        rcases Nat.eq_zero_or_pos L.length with h0 | h0
        · rw [h0, Nat.zero_mul] at hj'; omega
        · exact h0
      obtain ⟨b, o', h1, _, _⟩ := hI 0 hL
      injection h1 with h1
      subst h1
      exact hI.news j u hj) (fun u hu => by
      simp only [RV, List.mem_flatMap] at hu
      obtain ⟨r, _, hu⟩ := hu
      exact rcells_one _ _ _ hu) (by unfold maxLen; omega) (by omega) hbase
    unfold Oper.wp execOp
    simp only [ho, resolve, invoke, builtin, Sem.run_bind, Sem.run_pure, Result.andThen_ok, List.map_toArray, List.map_cons, List.map_nil, hs, hx, hrun]
    exact h v' w' h2 h3
set_option maxRecDepth 100000 in
set_option maxHeartbeats 8000000 in
theorem iSetTable_c (A : Option Addr) (c : Nat) (T : List NodeD) (n : Int) (X : Option Addr) (cx : Nat) (R : List Rec) (w : World) (h : NodesC w A T) (hn : treeSz T ≤ 1048576) (hx : Recs w X k_rule R) (hX : X = none → cx = 0) (hr : R.length ≤ 1048576) :
    Calls Try.prog 27 #[treeV A T.length c, .int .i64 n, tableV X R.length cx] w fun e w' => ∃ A' c', e = .returned (.tuple #[treeV A' (setTableT T n R).1.length c', .int .i64 (setTableT T n R).2]) ∧ TreeAt w' w.heap.size (.slice A' (setTableT T n R).1.length c') (setTableT T n R).1 ∧ Bel w w' := by
  have HX := Lib.hid hX
  have HRX := Lib.hid hx
  clear hX hx
  have hT := len_of hn
  have HKR := hid' (kr_of hn)
  have HN := Lib.hid hn
  clear hn
  obtain ⟨W0, hW0⟩ : ∃ W0, W0 = ((w.alloc (.cells #[.slice A T.length c] 30)).alloc (.cells #[.slice X R.length cx] 45)).alloc (.cells #[.slice none 0 0] 30) := ⟨_, rfl⟩
  have HWB : Hid (Bel w W0) := hid' (by rw [hW0]; exact (((Bel.refl w).alloc _).alloc _).alloc _)
  have HS : Hid (W0.heap.size = w.heap.size + 1 + 1 + 1) := hid' (by rw [hW0]; simp)
  have HK1 : Hid (∀ u, Bel W0 u → u.cell? ⟨w.heap.size, 0, none⟩ = some (.slice A T.length c)) := hid' (fun u hu => by
    have hb : Bel (w.alloc (.cells #[.slice A T.length c] 30)) W0 := by rw [hW0]; exact ((Bel.refl _).alloc _).alloc _
    exact ((hb.trans hu).cell _ _ (by simp)).trans (by simp))
  have HK2 : Hid (∀ u, Bel W0 u → u.cell? ⟨w.heap.size + 1, 0, none⟩ = some (.slice X R.length cx)) := hid' (fun u hu => by
    have hz : (w.alloc (.cells #[.slice A T.length c] 30)).heap.size = w.heap.size + 1 := by simp
    have hb : Bel ((w.alloc (.cells #[.slice A T.length c] 30)).alloc (.cells #[.slice X R.length cx] 45)) W0 := by rw [hW0]; exact (Bel.refl _).alloc _
    rw [← hz]
    exact ((hb.trans hu).cell _ _ (by simp)).trans (new_cell1 _ _ _).1)
  have HK3 : Hid (∀ u, Bel W0 u → u.cell? ⟨w.heap.size + 1 + 1, 0, none⟩ = some (.slice none 0 0) ∧ u.frozen? ⟨w.heap.size + 1 + 1, 0, none⟩ = false) := hid' (fun u hu => by
    have hz : ((w.alloc (.cells #[.slice A T.length c] 30)).alloc (.cells #[.slice X R.length cx] 45)).heap.size = w.heap.size + 1 + 1 := by simp
    rw [hW0] at hu
    rw [← hz]
    exact ⟨(hu.cell _ _ (by simp)).trans (new_cell1 _ _ _).1, (hu.frozen _ _ (by simp)).trans (new_cell1 _ _ _).2⟩)
  go_enter Try.func27, Try.ntmps27
  go_wp2_with fail
  rw [← hW0]
  clear hW0
  refine (iCopyTree_c _ _ _ _ (h.keep HWB.out) HN.out).mono ?_; rintro e w1 ⟨A1, c1, rfl, ht1, hb1⟩
  have HT1 := Lib.hid ht1
  clear ht1
  have hcA := HK1.out _ (hb1.alloc (.cells #[.slice A1 T.length c1] 30))
  have hcB := HK2.out _ (hb1.alloc (.cells #[.slice A1 T.length c1] 30))
  have hlb1 : w.heap.size + 1 + 1 < w1.heap.size := by have := hb1.sz; rw [HS.out] at this; omega
  have HB1 := Lib.hid hb1
  go_wp2_with fail
  obtain ⟨w2, hw2⟩ : ∃ w2, w2 = w1.alloc (.cells #[.slice A1 T.length c1] 30) := ⟨_, rfl⟩
  rw [← hw2] at hcA hcB ⊢
  have HOC : Hid (∀ u, Bel w2 u → u.cell? ⟨w1.heap.size, 0, none⟩ = some (.slice A1 T.length c1)) := hid' (fun u hu => by rw [hu.cell _ _ (by rw [hw2]; simp), hw2]; simp)
  have HB2 : Hid (Bel w1 w2) := hid' (by rw [hw2]; exact (Bel.refl w1).alloc _)
  have HL2 : Hid (w1.heap.size < w2.heap.size) := hid' (by rw [hw2]; simp)
  have HBX : Hid ((bx w1.heap.size (.slice A1 T.length c1)).own w2 w1.heap.size) := hid' (by rw [hw2]; exact World.ownsRow_lit (e := 30) (size := 1) w1 #[.slice A1 T.length c1] 1 (Nat.le_refl _) (by unfold maxLen; omega) rfl)
  have HF2 : Hid (w2.frozen? ⟨w1.heap.size, 0, none⟩ = false) := hid' (by rw [hw2]; exact (new_cell1 _ _ _).2)
  clear hw2 hcA hcB hb1
  have HB02 := hid' (HB1.out.trans HB2.out)
  refine (iTreeOk_c _ _ _ _ (h.nodes.keep (HWB.out.trans HB02.out)) hT HKR.out).mono ?_; rintro e w3 ⟨rfl, hb3⟩
  have HB03 := hid' (HB02.out.trans hb3)
  have HB23 := Lib.hid hb3
  clear hb3
  have hc1 := HK1.out _ HB03.out
  have hc2 := HK2.out _ HB03.out
  have hc3 := (HK3.out _ HB03.out).1
  have hf3 := (HK3.out _ HB03.out).2
  have hco := HOC.out _ HB23.out
  have HT3 := hid' (HT1.out.keep (HB2.out.trans HB23.out))
  cases ht : treeOk T
  · have HR : Hid (setTableT T n R = (T, 1)) := hid' (by simp [setTableT, ht])
    go_wp2_with fail
    refine bodyPost_ret (v := .tuple #[.agg #[.slice A1 T.length c1], .int .i64 (1)]) (by simp [results, Try.results27, go_sem, *]) rfl ⟨_, _, by (rw [HR.out]; try (first | rfl | (rw [← HLS.out]))), ?_, ?_⟩
    · rw [HR.out]
      exact (TreeAt.far HT3.out (grown_set _ _ _) (by rw [HS.out]; omega)).base (by rw [HS.out]; omega)
    · exact (HWB.out.trans HB03.out).setCell (show w.heap.size ≤ w.heap.size + 1 + 1 by omega) _
  · have HTO := Lib.hid ht
    clear ht
    go_wp2_with fail
    refine (iIsNode_c _ _ _ _ _).mono ?_
    rintro e w4 ⟨rfl, hb4⟩
    have HB04 := hid' (HB03.out.trans hb4)
    have HB24 := hid' (HB23.out.trans hb4)
    clear hc1 hc2 hc3 hf3 hco hb4
    have hc1 := HK1.out _ HB04.out
    have hc2 := HK2.out _ HB04.out
    have hc3 := (HK3.out _ HB04.out).1
    have hf3 := (HK3.out _ HB04.out).2
    have hco := HOC.out _ HB24.out
    have HT4 := hid' (HT1.out.keep (HB2.out.trans HB24.out))
    cases hnn : isNodeB T n
    · have HR : Hid (setTableT T n R = (T, 1)) := hid' (by simp [setTableT, hnn])
      go_wp2_with fail
      refine bodyPost_ret (v := .tuple #[.agg #[.slice A1 T.length c1], .int .i64 (1)]) (by simp [results, Try.results27, go_sem, *]) rfl ⟨_, _, by (rw [HR.out]; try (first | rfl | (rw [← HLS.out]))), ?_, ?_⟩
      · rw [HR.out]
        exact (TreeAt.far HT4.out (grown_set _ _ _) (by rw [HS.out]; omega)).base (by rw [HS.out]; omega)
      · exact (HWB.out.trans HB04.out).setCell (show w.heap.size ≤ w.heap.size + 1 + 1 by omega) _
    · obtain ⟨j, rfl, hj⟩ := isNode_split hnn
      have HNN := Lib.hid hnn
      clear hnn
      have hk12 := kids_few HTO.out hj
      have HRT : Hid (¬ (0 < R.length ∧ (tableOk R = false ∨ 0 < (node_ T j).kids.length)) → setTableT T ((j : Int) + 1) R = (setTT T j R, 0)) := hid' (fun hne => by unfold setTableT; rw [if_pos ⟨HTO.out, HNN.out⟩, nd_eq, if_neg hne]; simp)
      have HR6 : Hid ((0 < R.length ∧ (tableOk R = false ∨ 0 < (node_ T j).kids.length)) → setTableT T ((j : Int) + 1) R = (T, 6)) := hid' (fun hne => by unfold setTableT; rw [if_pos ⟨HTO.out, HNN.out⟩, nd_eq, if_pos hne])
      obtain ⟨b, o, K, ck, R0, cr, rfl, hbl, hrg, hKI⟩ := h.nodes.open1 hj
      have HRG := Lib.hid hrg
      clear hrg hKI
      by_cases hr0 : 0 < R.length
      · have hr0i : (0 : Int) < (R.length : Int) := by omega
        go_wp2_with fail
        refine (iTableOk_c _ _ _ _ (HRX.out.keep (HWB.out.trans HB04.out)) hr).mono ?_
        rintro e w5 ⟨rfl, hb5⟩
        have HB05 := hid' (HB04.out.trans hb5)
        have HB25 := hid' (HB24.out.trans hb5)
        clear hc1 hc2 hc3 hf3 hco hb5
        have hc1 := HK1.out _ HB05.out
        have hc2 := HK2.out _ HB05.out
        have hc3 := (HK3.out _ HB05.out).1
        have hf3 := (HK3.out _ HB05.out).2
        have hco := HOC.out _ HB25.out
        have HT5 := hid' (HT1.out.keep (HB2.out.trans HB25.out))
        cases hto : tableOk R
        · have HR : Hid (setTableT T ((j : Int) + 1) R = (T, 6)) := hid' (HR6.out ⟨hr0, .inl hto⟩)
          clear hto
          go_wp2_with fail
          refine bodyPost_ret (v := .tuple #[.agg #[.slice A1 T.length c1], .int .i64 (6)]) (by simp [results, Try.results27, go_sem, *]) rfl ⟨_, _, by (rw [HR.out]; try (first | rfl | (rw [← HLS.out]))), ?_, ?_⟩
          · rw [HR.out]
            exact (TreeAt.far HT5.out (grown_set _ _ _) (by rw [HS.out]; omega)).base (by rw [HS.out]; omega)
          · exact (HWB.out.trans HB05.out).setCell (show w.heap.size ≤ w.heap.size + 1 + 1 by omega) _
        · go_wp2_with fail
          refine (iNode_at b o c T j K _ ck R0 _ cr _ (Nat.lt_of_lt_of_le hbl (HWB.out.trans HB05.out).sz) (range_bel HRG.out (HWB.out.trans HB05.out) hbl) hj hT).mono ?_
          rintro e w6 ⟨rfl, hb6⟩
          have HB06 := hid' (HB05.out.trans hb6)
          have HB26 := hid' (HB25.out.trans hb6)
          clear hc1 hc2 hc3 hf3 hco hb6
          have hc1 := HK1.out _ HB06.out
          have hc2 := HK2.out _ HB06.out
          have hc3 := (HK3.out _ HB06.out).1
          have hf3 := (HK3.out _ HB06.out).2
          have hco := HOC.out _ HB26.out
          have HT6 := hid' (HT1.out.keep (HB2.out.trans HB26.out))
          have hfu := field_kids (node_ T j) (.slice K (node_ T j).kids.length ck) (.slice R0 (node_ T j).rules.length cr) w6
          by_cases hk0 : 0 < (node_ T j).kids.length
          · have HR : Hid (setTableT T ((j : Int) + 1) R = (T, 6)) := hid' (HR6.out ⟨hr0, .inr hk0⟩)
            have hk0i : (0 : Int) < ((node_ T j).kids.length : Int) := by omega
            clear hto
            go_wp2_with fail
            refine bodyPost_ret (v := .tuple #[.agg #[.slice A1 T.length c1], .int .i64 (6)]) (by simp [results, Try.results27, go_sem, *]) rfl ⟨_, _, by (rw [HR.out]; try (first | rfl | (rw [← HLS.out]))), ?_, ?_⟩
            · rw [HR.out]
              exact (TreeAt.far HT6.out (grown_set _ _ _) (by rw [HS.out]; omega)).base (by rw [HS.out]; omega)
            · exact (HWB.out.trans HB06.out).setCell (show w.heap.size ≤ w.heap.size + 1 + 1 by omega) _
          · have HR : Hid (setTableT T ((j : Int) + 1) R = (setTT T j R, 0)) := hid' (HRT.out (fun hh => hh.2.elim (fun e => by rw [hto] at e; cases e) (fun e => hk0 e)))
            have hk0i : ((node_ T j).kids.length : Int) = 0 := by omega
            have HMD : Hid (decide (0 < R.length) = true) := hid' (by simpa using hr0)
            clear hto hk0
            obtain ⟨g, KS, RS, rfl, hE⟩ := Ed.of_tree HT6.out (by omega)
            have hgl := (Ed.of_tree HT1.out (by omega)).elim fun g' h => h.elim fun KS' h => h.elim fun RS' h => (by have e := h.1; injection e with e; injection e with e; rw [e]; exact h.2.lo : W0.heap.size ≤ g ∧ g < w1.heap.size)
            have HE := Lib.hid hE
            have hjt : (j : Int) < (T.length : Int) := by omega
            have HW0 := HS.out
            clear hE
            go_wp2_with ((with_reducible show wpList _ _ _ (Oper.mk _ (Op.store _ _ _) _ _ _ _ :: _) _ _); refine HE.out.storeMeas hj rfl _ _ rfl rfl rfl ?_; intro w7 H7; have HB07 := hid' (HB06.out.grown H7.out.2 (fun q e => by injection e with e; omega)); have hx7 := HK2.out _ HB07.out; have hco7 : w7.cell? ⟨w1.heap.size, 0, none⟩ = some (.slice (some ⟨g, 0, none⟩) T.length c1) := (World.grownBy.cell_far H7.out.2 ⟨w1.heap.size, 0, none⟩ (World.block_lt_of_cell? _ _ hco) (fun e => by injection e with e; have h1 : w1.heap.size = g := e; omega)).trans hco)
            have hd7 : Bel w7 w7.drew := (Bel.refl w7).drew
            have hcod := (hd7.cell _ _ (World.block_lt_of_cell? _ _ hco7)).trans hco7
            have hxd := (hd7.cell _ _ (World.block_lt_of_cell? _ _ hx7)).trans hx7
            have hw1 : IntKind.i64.wrap ((j : Int) + 1 - 1) = (j : Int) := by rw [show (j : Int) + 1 - 1 = (j : Int) by omega]; exact IntWalk.i64_in _ (by omega)
            have hw2 : IntKind.i64.wrap (j : Int) = (j : Int) := IntWalk.i64_in _ (by omega)
            go_region_held3 (fun u => u.cell? ⟨w1.heap.size, 0, none⟩ = some (.slice (some ⟨g, 0, none⟩) T.length c1) ∧ u.cell? ⟨w.heap.size + 1, 0, none⟩ = some (.slice X R.length cx))
              ((with_reducible first | exact ⟨hco9, hx9⟩ | exact ⟨hco8, hx8⟩ | exact ⟨hcod, hxd⟩))
              ((go_at_call 59; refine (copyTable_c _ _ _ _ (HRX.out.keep ((HWB.out.trans HB07.out).trans hd7)) HX.out hr).mono ?_; rintro e w8 ⟨v8, rfl, ho8, hb8'⟩; obtain ⟨A8, c8, rfl, -, -, -⟩ := own_openR (ks := k_rule) rfl ho8; have hb8 := hd7.trans hb8'; have HF8 := copy_row (H7.out.1.keep hd7).fam hb8' (r := rulesRow (.slice A8 R.length c8) R) ho8 (HB07.out.trans hd7).sz; have R9 := (H7.out.1.keep hb8).rules (by rw [List.length_set]; exact hj) HF8; have HR9 := Lib.hid R9; have hco8 := (hb8.cell _ _ (World.block_lt_of_cell? _ _ hco7)).trans hco7; have hx8 := (hb8.cell _ _ (World.block_lt_of_cell? _ _ hx7)).trans hx7; have hth := (H7.out.1.keep hb8).there (o := j * 64 + 63) (m := 1) (by rw [List.length_set]; omega) 0 (by omega); obtain ⟨ov, hcS⟩ := Option.isSome_iff_exists.1 hth.1; have hfS := hth.2; rw [Nat.add_zero] at hcS hfS; have hco9 := (World.grownBy.cell_far R9.2 ⟨w1.heap.size, 0, none⟩ (World.block_lt_of_cell? _ _ hco8) (fun e => by injection e with e; have h1 : w1.heap.size = g := e; omega)).trans hco8; have hx9 := (World.grownBy.cell_far R9.2 ⟨w.heap.size + 1, 0, none⟩ (World.block_lt_of_cell? _ _ hx8) (fun e => by injection e with e; have h1 : w.heap.size + 1 = g := e; omega)).trans hx8; have HB08 := hid' (HB07.out.trans hb8); clear hth R9 ho8))
            obtain ⟨w9, hw9⟩ : ∃ w9, w9 = w8.setCell ⟨g, j * 64 + 63, none⟩ (.slice A8 R.length c8) := ⟨_, rfl⟩
            rw [← hw9] at hco9 HR9 ⊢
            clear hw9 hc1 hc3 hf3 hco hcS hfS hx9 hx8 hco8 hcod hxd hw1 hw2
            have HB09 := hid' (HB08.out.grown HR9.out.2 (fun q e => by injection e with e; omega))
            have hc9 := (HK3.out _ HB09.out).1
            have hf9 := (HK3.out _ HB09.out).2
            have HT9 : Hid (TreeAt w9 W0.heap.size (.slice (some ⟨g, 0, none⟩) (setTT T j R).length c1) (setTT T j R)) := hid' (by
              have ht := HR9.out.1.tree
              rw [setTT_length]
              unfold setTT
              rw [HMD.out]
              first | exact ht | simpa using ht)
            have HLS : Hid (T.length = (setTT T j R).length) := hid' (setTT_length T j R).symm
            go_wp2_with fail
            refine bodyPost_ret (v := .tuple #[.agg #[.slice (some ⟨g, 0, none⟩) T.length c1], .int .i64 (0)]) (by simp [results, Try.results27, go_sem, *]) rfl ⟨_, _, by (rw [HR.out]; try (first | rfl | (rw [← HLS.out]))), ?_, ?_⟩
            · rw [HR.out]
              exact (TreeAt.far HT9.out (grown_set _ _ _) (by rw [HS.out]; omega)).base (by rw [HS.out]; omega)
            · exact (HWB.out.trans HB09.out).setCell (show w.heap.size ≤ w.heap.size + 1 + 1 by omega) _
      · have HR : Hid (setTableT T ((j : Int) + 1) R = (setTT T j R, 0)) := hid' (HRT.out (fun hh => hr0 hh.1))
        have hr0i : (R.length : Int) = 0 := by omega
        have HMD : Hid (decide (0 < R.length) = false) := hid' (by simpa using hr0)
        obtain ⟨g, KS, RS, rfl, hE⟩ := Ed.of_tree HT4.out (by omega)
        have hgl := (Ed.of_tree HT1.out (by omega)).elim fun g' h => h.elim fun KS' h => h.elim fun RS' h => (by have e := h.1; injection e with e; injection e with e; rw [e]; exact h.2.lo : W0.heap.size ≤ g ∧ g < w1.heap.size)
        have HE := Lib.hid hE
        have hjt : (j : Int) < (T.length : Int) := by omega
        have HW0 := HS.out
        clear hE
        go_wp2_with ((with_reducible show wpList _ _ _ (Oper.mk _ (Op.store _ _ _) _ _ _ _ :: _) _ _); refine HE.out.storeMeas hj rfl _ _ rfl rfl rfl ?_; intro w7 H7; have HB07 := hid' (HB04.out.grown H7.out.2 (fun q e => by injection e with e; omega)); have hx7 := HK2.out _ HB07.out; have hco7 : w7.cell? ⟨w1.heap.size, 0, none⟩ = some (.slice (some ⟨g, 0, none⟩) T.length c1) := (World.grownBy.cell_far H7.out.2 ⟨w1.heap.size, 0, none⟩ (World.block_lt_of_cell? _ _ hco) (fun e => by injection e with e; have h1 : w1.heap.size = g := e; omega)).trans hco)
        have hd7 : Bel w7 w7.drew := (Bel.refl w7).drew
        have hcod := (hd7.cell _ _ (World.block_lt_of_cell? _ _ hco7)).trans hco7
        have hxd := (hd7.cell _ _ (World.block_lt_of_cell? _ _ hx7)).trans hx7
        have hw1 : IntKind.i64.wrap ((j : Int) + 1 - 1) = (j : Int) := by rw [show (j : Int) + 1 - 1 = (j : Int) by omega]; exact IntWalk.i64_in _ (by omega)
        have hw2 : IntKind.i64.wrap (j : Int) = (j : Int) := IntWalk.i64_in _ (by omega)
        go_region_held3 (fun u => u.cell? ⟨w1.heap.size, 0, none⟩ = some (.slice (some ⟨g, 0, none⟩) T.length c1) ∧ u.cell? ⟨w.heap.size + 1, 0, none⟩ = some (.slice X R.length cx))
          ((with_reducible first | exact ⟨hco9, hx9⟩ | exact ⟨hco8, hx8⟩ | exact ⟨hcod, hxd⟩))
          ((go_at_call 59; refine (copyTable_c _ _ _ _ (HRX.out.keep ((HWB.out.trans HB07.out).trans hd7)) HX.out hr).mono ?_; rintro e w8 ⟨v8, rfl, ho8, hb8'⟩; obtain ⟨A8, c8, rfl, -, -, -⟩ := own_openR (ks := k_rule) rfl ho8; have hb8 := hd7.trans hb8'; have HF8 := copy_row (H7.out.1.keep hd7).fam hb8' (r := rulesRow (.slice A8 R.length c8) R) ho8 (HB07.out.trans hd7).sz; have R9 := (H7.out.1.keep hb8).rules (by rw [List.length_set]; exact hj) HF8; have HR9 := Lib.hid R9; have hco8 := (hb8.cell _ _ (World.block_lt_of_cell? _ _ hco7)).trans hco7; have hx8 := (hb8.cell _ _ (World.block_lt_of_cell? _ _ hx7)).trans hx7; have hth := (H7.out.1.keep hb8).there (o := j * 64 + 63) (m := 1) (by rw [List.length_set]; omega) 0 (by omega); obtain ⟨ov, hcS⟩ := Option.isSome_iff_exists.1 hth.1; have hfS := hth.2; rw [Nat.add_zero] at hcS hfS; have hco9 := (World.grownBy.cell_far R9.2 ⟨w1.heap.size, 0, none⟩ (World.block_lt_of_cell? _ _ hco8) (fun e => by injection e with e; have h1 : w1.heap.size = g := e; omega)).trans hco8; have hx9 := (World.grownBy.cell_far R9.2 ⟨w.heap.size + 1, 0, none⟩ (World.block_lt_of_cell? _ _ hx8) (fun e => by injection e with e; have h1 : w.heap.size + 1 = g := e; omega)).trans hx8; have HB08 := hid' (HB07.out.trans hb8); clear hth R9 ho8))
        obtain ⟨w9, hw9⟩ : ∃ w9, w9 = w8.setCell ⟨g, j * 64 + 63, none⟩ (.slice A8 R.length c8) := ⟨_, rfl⟩
        rw [← hw9] at hco9 HR9 ⊢
        clear hw9 hc1 hc3 hf3 hco hcS hfS hx9 hx8 hco8 hcod hxd hw1 hw2
        have HB09 := hid' (HB08.out.grown HR9.out.2 (fun q e => by injection e with e; omega))
        have hc9 := (HK3.out _ HB09.out).1
        have hf9 := (HK3.out _ HB09.out).2
        have HT9 : Hid (TreeAt w9 W0.heap.size (.slice (some ⟨g, 0, none⟩) (setTT T j R).length c1) (setTT T j R)) := hid' (by
          have ht := HR9.out.1.tree
          rw [setTT_length]
          unfold setTT
          rw [HMD.out]
          first | exact ht | simpa using ht)
        have HLS : Hid (T.length = (setTT T j R).length) := hid' (setTT_length T j R).symm
        go_wp2_with fail
        refine bodyPost_ret (v := .tuple #[.agg #[.slice (some ⟨g, 0, none⟩) T.length c1], .int .i64 (0)]) (by simp [results, Try.results27, go_sem, *]) rfl ⟨_, _, by (rw [HR.out]; try (first | rfl | (rw [← HLS.out]))), ?_, ?_⟩
        · rw [HR.out]
          exact (TreeAt.far HT9.out (grown_set _ _ _) (by rw [HS.out]; omega)).base (by rw [HS.out]; omega)
        · exact (HWB.out.trans HB09.out).setCell (show w.heap.size ≤ w.heap.size + 1 + 1 by omega) _
set_option maxRecDepth 100000 in
set_option maxHeartbeats 8000000 in
theorem sSetTable_c (A : Option Addr) (c : Nat) (T : List NodeD) (n : Int) (X : Option Addr) (cx : Nat) (R : List Rec) (w : World) (h : NodesC w A T) (hn : treeSz T ≤ 1048576) (hx : Recs w X k_rule R) (hX : X = none → cx = 0) (hr : R.length ≤ 1048576) :
    Calls Try.prog 25 #[treeV A T.length c, .int .i64 n, tableV X R.length cx] w fun e w' => ∃ A' c', e = .returned (.tuple #[treeV A' (setTableT T n R).1.length c', .int .i64 (setTableT T n R).2]) ∧ TreeAt w' w.heap.size (.slice A' (setTableT T n R).1.length c') (setTableT T n R).1 ∧ Bel w w' := by
  have HX := Lib.hid hX
  have HRX := Lib.hid hx
  clear hX hx
  have hT := len_of hn
  have HKR := hid' (kr_of hn)
  have HN := Lib.hid hn
  clear hn
  obtain ⟨W0, hW0⟩ : ∃ W0, W0 = ((w.alloc (.cells #[.slice A T.length c] 30)).alloc (.cells #[.slice X R.length cx] 45)).alloc (.cells #[.slice none 0 0] 30) := ⟨_, rfl⟩
  have HWB : Hid (Bel w W0) := hid' (by rw [hW0]; exact (((Bel.refl w).alloc _).alloc _).alloc _)
  have HS : Hid (W0.heap.size = w.heap.size + 1 + 1 + 1) := hid' (by rw [hW0]; simp)
  have HK1 : Hid (∀ u, Bel W0 u → u.cell? ⟨w.heap.size, 0, none⟩ = some (.slice A T.length c)) := hid' (fun u hu => by
    have hb : Bel (w.alloc (.cells #[.slice A T.length c] 30)) W0 := by rw [hW0]; exact ((Bel.refl _).alloc _).alloc _
    exact ((hb.trans hu).cell _ _ (by simp)).trans (by simp))
  have HK2 : Hid (∀ u, Bel W0 u → u.cell? ⟨w.heap.size + 1, 0, none⟩ = some (.slice X R.length cx)) := hid' (fun u hu => by
    have hz : (w.alloc (.cells #[.slice A T.length c] 30)).heap.size = w.heap.size + 1 := by simp
    have hb : Bel ((w.alloc (.cells #[.slice A T.length c] 30)).alloc (.cells #[.slice X R.length cx] 45)) W0 := by rw [hW0]; exact (Bel.refl _).alloc _
    rw [← hz]
    exact ((hb.trans hu).cell _ _ (by simp)).trans (new_cell1 _ _ _).1)
  have HK3 : Hid (∀ u, Bel W0 u → u.cell? ⟨w.heap.size + 1 + 1, 0, none⟩ = some (.slice none 0 0) ∧ u.frozen? ⟨w.heap.size + 1 + 1, 0, none⟩ = false) := hid' (fun u hu => by
    have hz : ((w.alloc (.cells #[.slice A T.length c] 30)).alloc (.cells #[.slice X R.length cx] 45)).heap.size = w.heap.size + 1 + 1 := by simp
    rw [hW0] at hu
    rw [← hz]
    exact ⟨(hu.cell _ _ (by simp)).trans (new_cell1 _ _ _).1, (hu.frozen _ _ (by simp)).trans (new_cell1 _ _ _).2⟩)
  go_enter Try.func25, Try.ntmps25
  go_wp2_with fail
  rw [← hW0]
  clear hW0
  refine (sCopyTree_c _ _ _ _ (h.keep HWB.out) HN.out).mono ?_; rintro e w1 ⟨A1, c1, rfl, ht1, hb1⟩
  have HT1 := Lib.hid ht1
  clear ht1
  have hcA := HK1.out _ (hb1.alloc (.cells #[.slice A1 T.length c1] 30))
  have hcB := HK2.out _ (hb1.alloc (.cells #[.slice A1 T.length c1] 30))
  have hlb1 : w.heap.size + 1 + 1 < w1.heap.size := by have := hb1.sz; rw [HS.out] at this; omega
  have HB1 := Lib.hid hb1
  go_wp2_with fail
  obtain ⟨w2, hw2⟩ : ∃ w2, w2 = w1.alloc (.cells #[.slice A1 T.length c1] 30) := ⟨_, rfl⟩
  rw [← hw2] at hcA hcB ⊢
  have HOC : Hid (∀ u, Bel w2 u → u.cell? ⟨w1.heap.size, 0, none⟩ = some (.slice A1 T.length c1)) := hid' (fun u hu => by rw [hu.cell _ _ (by rw [hw2]; simp), hw2]; simp)
  have HB2 : Hid (Bel w1 w2) := hid' (by rw [hw2]; exact (Bel.refl w1).alloc _)
  have HL2 : Hid (w1.heap.size < w2.heap.size) := hid' (by rw [hw2]; simp)
  have HBX : Hid ((bx w1.heap.size (.slice A1 T.length c1)).own w2 w1.heap.size) := hid' (by rw [hw2]; exact World.ownsRow_lit (e := 30) (size := 1) w1 #[.slice A1 T.length c1] 1 (Nat.le_refl _) (by unfold maxLen; omega) rfl)
  have HF2 : Hid (w2.frozen? ⟨w1.heap.size, 0, none⟩ = false) := hid' (by rw [hw2]; exact (new_cell1 _ _ _).2)
  clear hw2 hcA hcB hb1
  have HB02 := hid' (HB1.out.trans HB2.out)
  refine (sTreeOk_c _ _ _ _ (h.nodes.keep (HWB.out.trans HB02.out)) hT HKR.out).mono ?_; rintro e w3 ⟨rfl, hb3⟩
  have HB03 := hid' (HB02.out.trans hb3)
  have HB23 := Lib.hid hb3
  clear hb3
  have hc1 := HK1.out _ HB03.out
  have hc2 := HK2.out _ HB03.out
  have hc3 := (HK3.out _ HB03.out).1
  have hf3 := (HK3.out _ HB03.out).2
  have hco := HOC.out _ HB23.out
  have HT3 := hid' (HT1.out.keep (HB2.out.trans HB23.out))
  cases ht : treeOk T
  · have HR : Hid (setTableT T n R = (T, 1)) := hid' (by simp [setTableT, ht])
    go_wp2_with fail
    refine bodyPost_ret (v := .tuple #[.agg #[.slice A1 T.length c1], .int .i64 (1)]) (by simp [results, Try.results25, go_sem, *]) rfl ⟨_, _, by (rw [HR.out]; try (first | rfl | (rw [← HLS.out]))), ?_, ?_⟩
    · rw [HR.out]
      exact (TreeAt.far HT3.out (grown_set _ _ _) (by rw [HS.out]; omega)).base (by rw [HS.out]; omega)
    · exact (HWB.out.trans HB03.out).setCell (show w.heap.size ≤ w.heap.size + 1 + 1 by omega) _
  · have HTO := Lib.hid ht
    clear ht
    go_wp2_with fail
    refine (sIsNode_c _ _ _ _ _).mono ?_
    rintro e w4 ⟨rfl, hb4⟩
    have HB04 := hid' (HB03.out.trans hb4)
    have HB24 := hid' (HB23.out.trans hb4)
    clear hc1 hc2 hc3 hf3 hco hb4
    have hc1 := HK1.out _ HB04.out
    have hc2 := HK2.out _ HB04.out
    have hc3 := (HK3.out _ HB04.out).1
    have hf3 := (HK3.out _ HB04.out).2
    have hco := HOC.out _ HB24.out
    have HT4 := hid' (HT1.out.keep (HB2.out.trans HB24.out))
    cases hnn : isNodeB T n
    · have HR : Hid (setTableT T n R = (T, 1)) := hid' (by simp [setTableT, hnn])
      go_wp2_with fail
      refine bodyPost_ret (v := .tuple #[.agg #[.slice A1 T.length c1], .int .i64 (1)]) (by simp [results, Try.results25, go_sem, *]) rfl ⟨_, _, by (rw [HR.out]; try (first | rfl | (rw [← HLS.out]))), ?_, ?_⟩
      · rw [HR.out]
        exact (TreeAt.far HT4.out (grown_set _ _ _) (by rw [HS.out]; omega)).base (by rw [HS.out]; omega)
      · exact (HWB.out.trans HB04.out).setCell (show w.heap.size ≤ w.heap.size + 1 + 1 by omega) _
    · obtain ⟨j, rfl, hj⟩ := isNode_split hnn
      have HNN := Lib.hid hnn
      clear hnn
      have hk12 := kids_few HTO.out hj
      have HRT : Hid (¬ (0 < R.length ∧ (tableOk R = false ∨ 0 < (node_ T j).kids.length)) → setTableT T ((j : Int) + 1) R = (setTT T j R, 0)) := hid' (fun hne => by unfold setTableT; rw [if_pos ⟨HTO.out, HNN.out⟩, nd_eq, if_neg hne]; simp)
      have HR6 : Hid ((0 < R.length ∧ (tableOk R = false ∨ 0 < (node_ T j).kids.length)) → setTableT T ((j : Int) + 1) R = (T, 6)) := hid' (fun hne => by unfold setTableT; rw [if_pos ⟨HTO.out, HNN.out⟩, nd_eq, if_pos hne])
      obtain ⟨b, o, K, ck, R0, cr, rfl, hbl, hrg, hKI⟩ := h.nodes.open1 hj
      have HRG := Lib.hid hrg
      clear hrg hKI
      by_cases hr0 : 0 < R.length
      · have hr0i : (0 : Int) < (R.length : Int) := by omega
        go_wp2_with fail
        refine (sTableOk_c _ _ _ _ (HRX.out.keep (HWB.out.trans HB04.out)) hr).mono ?_
        rintro e w5 ⟨rfl, hb5⟩
        have HB05 := hid' (HB04.out.trans hb5)
        have HB25 := hid' (HB24.out.trans hb5)
        clear hc1 hc2 hc3 hf3 hco hb5
        have hc1 := HK1.out _ HB05.out
        have hc2 := HK2.out _ HB05.out
        have hc3 := (HK3.out _ HB05.out).1
        have hf3 := (HK3.out _ HB05.out).2
        have hco := HOC.out _ HB25.out
        have HT5 := hid' (HT1.out.keep (HB2.out.trans HB25.out))
        cases hto : tableOk R
        · have HR : Hid (setTableT T ((j : Int) + 1) R = (T, 6)) := hid' (HR6.out ⟨hr0, .inl hto⟩)
          clear hto
          go_wp2_with fail
          refine bodyPost_ret (v := .tuple #[.agg #[.slice A1 T.length c1], .int .i64 (6)]) (by simp [results, Try.results25, go_sem, *]) rfl ⟨_, _, by (rw [HR.out]; try (first | rfl | (rw [← HLS.out]))), ?_, ?_⟩
          · rw [HR.out]
            exact (TreeAt.far HT5.out (grown_set _ _ _) (by rw [HS.out]; omega)).base (by rw [HS.out]; omega)
          · exact (HWB.out.trans HB05.out).setCell (show w.heap.size ≤ w.heap.size + 1 + 1 by omega) _
        · go_wp2_with fail
          refine (sNode_at b o c T j K _ ck R0 _ cr _ (Nat.lt_of_lt_of_le hbl (HWB.out.trans HB05.out).sz) (range_bel HRG.out (HWB.out.trans HB05.out) hbl) hj hT).mono ?_
          rintro e w6 ⟨rfl, hb6⟩
          have HB06 := hid' (HB05.out.trans hb6)
          have HB26 := hid' (HB25.out.trans hb6)
          clear hc1 hc2 hc3 hf3 hco hb6
          have hc1 := HK1.out _ HB06.out
          have hc2 := HK2.out _ HB06.out
          have hc3 := (HK3.out _ HB06.out).1
          have hf3 := (HK3.out _ HB06.out).2
          have hco := HOC.out _ HB26.out
          have HT6 := hid' (HT1.out.keep (HB2.out.trans HB26.out))
          have hfu := field_kids (node_ T j) (.slice K (node_ T j).kids.length ck) (.slice R0 (node_ T j).rules.length cr) w6
          by_cases hk0 : 0 < (node_ T j).kids.length
          · have HR : Hid (setTableT T ((j : Int) + 1) R = (T, 6)) := hid' (HR6.out ⟨hr0, .inr hk0⟩)
            have hk0i : (0 : Int) < ((node_ T j).kids.length : Int) := by omega
            clear hto
            go_wp2_with fail
            refine bodyPost_ret (v := .tuple #[.agg #[.slice A1 T.length c1], .int .i64 (6)]) (by simp [results, Try.results25, go_sem, *]) rfl ⟨_, _, by (rw [HR.out]; try (first | rfl | (rw [← HLS.out]))), ?_, ?_⟩
            · rw [HR.out]
              exact (TreeAt.far HT6.out (grown_set _ _ _) (by rw [HS.out]; omega)).base (by rw [HS.out]; omega)
            · exact (HWB.out.trans HB06.out).setCell (show w.heap.size ≤ w.heap.size + 1 + 1 by omega) _
          · have HR : Hid (setTableT T ((j : Int) + 1) R = (setTT T j R, 0)) := hid' (HRT.out (fun hh => hh.2.elim (fun e => by rw [hto] at e; cases e) (fun e => hk0 e)))
            have hk0i : ((node_ T j).kids.length : Int) = 0 := by omega
            have HMD : Hid (decide (0 < R.length) = true) := hid' (by simpa using hr0)
            clear hto hk0
            obtain ⟨g, KS, RS, rfl, hE⟩ := Ed.of_tree HT6.out (by omega)
            have hgl := (Ed.of_tree HT1.out (by omega)).elim fun g' h => h.elim fun KS' h => h.elim fun RS' h => (by have e := h.1; injection e with e; injection e with e; rw [e]; exact h.2.lo : W0.heap.size ≤ g ∧ g < w1.heap.size)
            have HE := Lib.hid hE
            have hjt : (j : Int) < (T.length : Int) := by omega
            have HW0 := HS.out
            clear hE
            go_wp2_with ((with_reducible show wpList _ _ _ (Oper.mk _ (Op.store _ _ _) _ _ _ _ :: _) _ _); refine HE.out.storeMeas hj rfl _ _ rfl rfl rfl ?_; intro w7 H7; have HB07 := hid' (HB06.out.grown H7.out.2 (fun q e => by injection e with e; omega)); have hx7 := HK2.out _ HB07.out; have hco7 : w7.cell? ⟨w1.heap.size, 0, none⟩ = some (.slice (some ⟨g, 0, none⟩) T.length c1) := (World.grownBy.cell_far H7.out.2 ⟨w1.heap.size, 0, none⟩ (World.block_lt_of_cell? _ _ hco) (fun e => by injection e with e; have h1 : w1.heap.size = g := e; omega)).trans hco)
            have hd7 : Bel w7 w7.drew := (Bel.refl w7).drew
            have hcod := (hd7.cell _ _ (World.block_lt_of_cell? _ _ hco7)).trans hco7
            have hxd := (hd7.cell _ _ (World.block_lt_of_cell? _ _ hx7)).trans hx7
            have hw1 : IntKind.i64.wrap ((j : Int) + 1 - 1) = (j : Int) := by rw [show (j : Int) + 1 - 1 = (j : Int) by omega]; exact IntWalk.i64_in _ (by omega)
            have hw2 : IntKind.i64.wrap (j : Int) = (j : Int) := IntWalk.i64_in _ (by omega)
            have hdA : Bel w7 (w7.alloc (.cells #[] 106)).drew := ((Bel.refl w7).alloc _).drew
            have hdB : Bel w7 (w7.drew.alloc (.cells #[] 106)) := hd7.alloc _
            have hcoA := (hdA.cell _ _ (World.block_lt_of_cell? _ _ hco7)).trans hco7
            have hxA := (hdA.cell _ _ (World.block_lt_of_cell? _ _ hx7)).trans hx7
            have hoA : (w7.alloc (.cells #[] 106)).drew.ownsRow w7.heap.size 106 3 (.slice (some ⟨w7.heap.size, 0, none⟩) 0 0) 0 [] := own_keep (World.ownsRow_lit w7 #[] 0 (Nat.le_refl _) (by unfold maxLen; omega) rfl) ((Bel.refl _).drew)
            have HOA := Lib.hid hoA
            clear hoA
            go_region_held3 (fun u => u.cell? ⟨w1.heap.size, 0, none⟩ = some (.slice (some ⟨g, 0, none⟩) T.length c1) ∧ u.cell? ⟨w.heap.size + 1, 0, none⟩ = some (.slice X R.length cx))
              ((with_reducible first | exact ⟨hco9, hx9⟩ | exact ⟨hco8, hx8⟩ | exact ⟨hcoA, hxA⟩ | exact ⟨hcod, hxd⟩))
              ((refine step_appR rfl (.tmp 53) (.tmp 55) (by rfl) w7.heap.size (.slice (some ⟨w7.heap.size, 0, none⟩) 0 0) 0 [] (by rfl) HOA.out X cx R (by rfl) (HRX.out.keep ((HWB.out.trans HB07.out).trans hdA)) HX.out (by omega) hdA.sz ?_; intro v8 w8 ho8 hg8; rw [Nat.zero_add, List.nil_append] at ho8; have hb8 : Bel w7 w8 := hdA.grown hg8 (by simp [Value.ownBlock]); obtain ⟨A8, c8, rfl, -, -, -⟩ := own_openR (ks := k_rule) rfl ho8; have HF8 := copy_row H7.out.1.fam hb8 (r := rulesRow (.slice A8 R.length c8) R) ho8 HB07.out.sz; have R9 := (H7.out.1.keep hb8).rules (by rw [List.length_set]; exact hj) HF8; have HR9 := Lib.hid R9; have hco8 := (hb8.cell _ _ (World.block_lt_of_cell? _ _ hco7)).trans hco7; have hx8 := (hb8.cell _ _ (World.block_lt_of_cell? _ _ hx7)).trans hx7; have hth := (H7.out.1.keep hb8).there (o := j * 64 + 63) (m := 1) (by rw [List.length_set]; omega) 0 (by omega); obtain ⟨ov, hcS⟩ := Option.isSome_iff_exists.1 hth.1; have hfS := hth.2; rw [Nat.add_zero] at hcS hfS; have hco9 := (World.grownBy.cell_far R9.2 ⟨w1.heap.size, 0, none⟩ (World.block_lt_of_cell? _ _ hco8) (fun e => by injection e with e; have h1 : w1.heap.size = g := e; omega)).trans hco8; have hx9 := (World.grownBy.cell_far R9.2 ⟨w.heap.size + 1, 0, none⟩ (World.block_lt_of_cell? _ _ hx8) (fun e => by injection e with e; have h1 : w.heap.size + 1 = g := e; omega)).trans hx8; have HB08 := hid' (HB07.out.trans hb8); clear hth R9 ho8))
            clear hcoA hxA
            obtain ⟨w9, hw9⟩ : ∃ w9, w9 = w8.setCell ⟨g, j * 64 + 63, none⟩ (.slice A8 R.length c8) := ⟨_, rfl⟩
            rw [← hw9] at hco9 HR9 ⊢
            clear hw9 hc1 hc3 hf3 hco hcS hfS hx9 hx8 hco8 hcod hxd hw1 hw2
            have HB09 := hid' (HB08.out.grown HR9.out.2 (fun q e => by injection e with e; omega))
            have hc9 := (HK3.out _ HB09.out).1
            have hf9 := (HK3.out _ HB09.out).2
            have HT9 : Hid (TreeAt w9 W0.heap.size (.slice (some ⟨g, 0, none⟩) (setTT T j R).length c1) (setTT T j R)) := hid' (by
              have ht := HR9.out.1.tree
              rw [setTT_length]
              unfold setTT
              rw [HMD.out]
              first | exact ht | simpa using ht)
            have HLS : Hid (T.length = (setTT T j R).length) := hid' (setTT_length T j R).symm
            go_wp2_with fail
            refine bodyPost_ret (v := .tuple #[.agg #[.slice (some ⟨g, 0, none⟩) T.length c1], .int .i64 (0)]) (by simp [results, Try.results25, go_sem, *]) rfl ⟨_, _, by (rw [HR.out]; try (first | rfl | (rw [← HLS.out]))), ?_, ?_⟩
            · rw [HR.out]
              exact (TreeAt.far HT9.out (grown_set _ _ _) (by rw [HS.out]; omega)).base (by rw [HS.out]; omega)
            · exact (HWB.out.trans HB09.out).setCell (show w.heap.size ≤ w.heap.size + 1 + 1 by omega) _
      · have HR : Hid (setTableT T ((j : Int) + 1) R = (setTT T j R, 0)) := hid' (HRT.out (fun hh => hr0 hh.1))
        have hr0i : (R.length : Int) = 0 := by omega
        have HMD : Hid (decide (0 < R.length) = false) := hid' (by simpa using hr0)
        obtain ⟨g, KS, RS, rfl, hE⟩ := Ed.of_tree HT4.out (by omega)
        have hgl := (Ed.of_tree HT1.out (by omega)).elim fun g' h => h.elim fun KS' h => h.elim fun RS' h => (by have e := h.1; injection e with e; injection e with e; rw [e]; exact h.2.lo : W0.heap.size ≤ g ∧ g < w1.heap.size)
        have HE := Lib.hid hE
        have hjt : (j : Int) < (T.length : Int) := by omega
        have HW0 := HS.out
        clear hE
        go_wp2_with ((with_reducible show wpList _ _ _ (Oper.mk _ (Op.store _ _ _) _ _ _ _ :: _) _ _); refine HE.out.storeMeas hj rfl _ _ rfl rfl rfl ?_; intro w7 H7; have HB07 := hid' (HB04.out.grown H7.out.2 (fun q e => by injection e with e; omega)); have hx7 := HK2.out _ HB07.out; have hco7 : w7.cell? ⟨w1.heap.size, 0, none⟩ = some (.slice (some ⟨g, 0, none⟩) T.length c1) := (World.grownBy.cell_far H7.out.2 ⟨w1.heap.size, 0, none⟩ (World.block_lt_of_cell? _ _ hco) (fun e => by injection e with e; have h1 : w1.heap.size = g := e; omega)).trans hco)
        have hd7 : Bel w7 w7.drew := (Bel.refl w7).drew
        have hcod := (hd7.cell _ _ (World.block_lt_of_cell? _ _ hco7)).trans hco7
        have hxd := (hd7.cell _ _ (World.block_lt_of_cell? _ _ hx7)).trans hx7
        have hw1 : IntKind.i64.wrap ((j : Int) + 1 - 1) = (j : Int) := by rw [show (j : Int) + 1 - 1 = (j : Int) by omega]; exact IntWalk.i64_in _ (by omega)
        have hw2 : IntKind.i64.wrap (j : Int) = (j : Int) := IntWalk.i64_in _ (by omega)
        have hdA : Bel w7 (w7.alloc (.cells #[] 106)).drew := ((Bel.refl w7).alloc _).drew
        have hdB : Bel w7 (w7.drew.alloc (.cells #[] 106)) := hd7.alloc _
        have hcoA := (hdA.cell _ _ (World.block_lt_of_cell? _ _ hco7)).trans hco7
        have hxA := (hdA.cell _ _ (World.block_lt_of_cell? _ _ hx7)).trans hx7
        have hoA : (w7.alloc (.cells #[] 106)).drew.ownsRow w7.heap.size 106 3 (.slice (some ⟨w7.heap.size, 0, none⟩) 0 0) 0 [] := own_keep (World.ownsRow_lit w7 #[] 0 (Nat.le_refl _) (by unfold maxLen; omega) rfl) ((Bel.refl _).drew)
        have HOA := Lib.hid hoA
        clear hoA
        go_region_held3 (fun u => u.cell? ⟨w1.heap.size, 0, none⟩ = some (.slice (some ⟨g, 0, none⟩) T.length c1) ∧ u.cell? ⟨w.heap.size + 1, 0, none⟩ = some (.slice X R.length cx))
          ((with_reducible first | exact ⟨hco9, hx9⟩ | exact ⟨hco8, hx8⟩ | exact ⟨hcoA, hxA⟩ | exact ⟨hcod, hxd⟩))
          ((refine step_appR rfl (.tmp 53) (.tmp 55) (by rfl) w7.heap.size (.slice (some ⟨w7.heap.size, 0, none⟩) 0 0) 0 [] (by rfl) HOA.out X cx R (by rfl) (HRX.out.keep ((HWB.out.trans HB07.out).trans hdA)) HX.out (by omega) hdA.sz ?_; intro v8 w8 ho8 hg8; rw [Nat.zero_add, List.nil_append] at ho8; have hb8 : Bel w7 w8 := hdA.grown hg8 (by simp [Value.ownBlock]); obtain ⟨A8, c8, rfl, -, -, -⟩ := own_openR (ks := k_rule) rfl ho8; have HF8 := copy_row H7.out.1.fam hb8 (r := rulesRow (.slice A8 R.length c8) R) ho8 HB07.out.sz; have R9 := (H7.out.1.keep hb8).rules (by rw [List.length_set]; exact hj) HF8; have HR9 := Lib.hid R9; have hco8 := (hb8.cell _ _ (World.block_lt_of_cell? _ _ hco7)).trans hco7; have hx8 := (hb8.cell _ _ (World.block_lt_of_cell? _ _ hx7)).trans hx7; have hth := (H7.out.1.keep hb8).there (o := j * 64 + 63) (m := 1) (by rw [List.length_set]; omega) 0 (by omega); obtain ⟨ov, hcS⟩ := Option.isSome_iff_exists.1 hth.1; have hfS := hth.2; rw [Nat.add_zero] at hcS hfS; have hco9 := (World.grownBy.cell_far R9.2 ⟨w1.heap.size, 0, none⟩ (World.block_lt_of_cell? _ _ hco8) (fun e => by injection e with e; have h1 : w1.heap.size = g := e; omega)).trans hco8; have hx9 := (World.grownBy.cell_far R9.2 ⟨w.heap.size + 1, 0, none⟩ (World.block_lt_of_cell? _ _ hx8) (fun e => by injection e with e; have h1 : w.heap.size + 1 = g := e; omega)).trans hx8; have HB08 := hid' (HB07.out.trans hb8); clear hth R9 ho8))
        clear hcoA hxA
        obtain ⟨w9, hw9⟩ : ∃ w9, w9 = w8.setCell ⟨g, j * 64 + 63, none⟩ (.slice A8 R.length c8) := ⟨_, rfl⟩
        rw [← hw9] at hco9 HR9 ⊢
        clear hw9 hc1 hc3 hf3 hco hcS hfS hx9 hx8 hco8 hcod hxd hw1 hw2
        have HB09 := hid' (HB08.out.grown HR9.out.2 (fun q e => by injection e with e; omega))
        have hc9 := (HK3.out _ HB09.out).1
        have hf9 := (HK3.out _ HB09.out).2
        have HT9 : Hid (TreeAt w9 W0.heap.size (.slice (some ⟨g, 0, none⟩) (setTT T j R).length c1) (setTT T j R)) := hid' (by
          have ht := HR9.out.1.tree
          rw [setTT_length]
          unfold setTT
          rw [HMD.out]
          first | exact ht | simpa using ht)
        have HLS : Hid (T.length = (setTT T j R).length) := hid' (setTT_length T j R).symm
        go_wp2_with fail
        refine bodyPost_ret (v := .tuple #[.agg #[.slice (some ⟨g, 0, none⟩) T.length c1], .int .i64 (0)]) (by simp [results, Try.results25, go_sem, *]) rfl ⟨_, _, by (rw [HR.out]; try (first | rfl | (rw [← HLS.out]))), ?_, ?_⟩
        · rw [HR.out]
          exact (TreeAt.far HT9.out (grown_set _ _ _) (by rw [HS.out]; omega)).base (by rw [HS.out]; omega)
        · exact (HWB.out.trans HB09.out).setCell (show w.heap.size ≤ w.heap.size + 1 + 1 by omega) _
end Go.Proofs.Ytcdneamoemmohaa
