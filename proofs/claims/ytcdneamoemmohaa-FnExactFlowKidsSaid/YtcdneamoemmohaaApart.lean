/- ApartKids, both sides. -/
import Derived.Test.YtcdneamoemmohaaUnder
import Derived.Deep.RegionHeld3
namespace Go.Proofs.Ytcdneamoemmohaa
open Go.RowKit Go.ChangeShapes Go.WideShapes
set_option linter.unusedVariables false
set_option linter.unusedSimpArgs false

def isApart (T : List NodeD) (k : Int) : Bool := !(nd T k).style.b 7 && (nd T k).style.b 6
def apartTo (T : List NodeD) (j q : Nat) : List Int := ((node_ T j).kids.take q).filter (isApart T)
def apartKids (T : List NodeD) (n : Int) : List Int := if treeOk T = true ∧ isNodeB T n = true then (nd T n).kids.filter (isApart T) else []
theorem apartTo_yes {T : List NodeD} {j q : Nat} (hq : q < (node_ T j).kids.length) (h : isApart T (at_ (node_ T j).kids q) = true) : apartTo T j (q + 1) = apartTo T j q ++ [at_ (node_ T j).kids q] := by
  unfold apartTo
  rw [List.take_add_one, at_eq hq, List.filter_append]
  simp [h]
theorem apartTo_no {T : List NodeD} {j q : Nat} (hq : q < (node_ T j).kids.length) (h : isApart T (at_ (node_ T j).kids q) = false) : apartTo T j (q + 1) = apartTo T j q := by
  unfold apartTo
  rw [List.take_add_one, at_eq hq, List.filter_append]
  simp [h]
theorem apartTo_all {T : List NodeD} {j : Nat} (h : treeOk T = true) (hj : j < T.length) : apartKids T ((j : Int) + 1) = apartTo T j (node_ T j).kids.length := by
  unfold apartKids apartTo
  rw [if_pos ⟨h, isNode_iff.2 (by omega)⟩, nd_eq, List.take_length]
theorem apartTo_len (T : List NodeD) (j q : Nat) : (apartTo T j q).length ≤ (node_ T j).kids.length := by
  unfold apartTo
  refine Nat.le_trans (List.length_filter_le _ _) ?_
  rw [List.length_take]
  omega
theorem apartKids_len (T : List NodeD) (n : Int) : (apartKids T n).length ≤ 1048576 := by
  by_cases h : treeOk T = true ∧ isNodeB T n = true
  · obtain ⟨j, rfl, hj⟩ := isNode_split h.2
    rw [apartTo_all h.1 hj]
    have h1 := apartTo_len T j (node_ T j).kids.length
    have h2 := kids_few h.1 hj
    omega
  · unfold apartKids; rw [if_neg h]; simp

/-! ### a style in a block of its own -/
theorem run_allocStyle (w : World) : (Instr.alloc 68 true (.tuple #[])).run Try.prog w = .ok (.pointer (some ⟨w.heap.size, 0, none⟩)) (w.alloc (.cells zstyle.toArray 68)) := by
  obtain ⟨i0, hi, hz0, hz1, hz2⟩ := info_parts (show (Try.prog.info? 68).map (fun i => (i.zero, i.size, i.bytes)) = some (some (.agg zstyle.toArray), 60, 472) by kernel_rfl)
  obtain ⟨zs, hzs⟩ : ∃ zs, zstyle.toArray = zs := ⟨_, rfl⟩
  rw [hzs] at hz0 ⊢
  simp [Instr.alloc, zeroValue, typeInfo, hi, hz0, newVar, newRow, Value.cells, Sem.run_bind]
theorem zstyle_size : zstyle.toArray.size = 60 := rfl
theorem step_allocStyle {w : World} {op : Oper} {a : Act} {K : Act → World → Prop} {Q : Exit → Act → World → Prop} (ho : op.op = .alloc 68)
    (h : K (a.put op.dst (.pointer (some ⟨w.heap.size, 0, none⟩))) (w.alloc (.cells zstyle.toArray 68))) : op.wp Try.prog a w K Q := by
  unfold Oper.wp execOp
  simp only [ho, Sem.run_bind, Sem.run_pure, Result.andThen_ok, run_allocStyle]
  exact h
theorem step_storeStyle {w : World} {op : Oper} {a : Act} {K : Act → World → Prop} {Q : Exit → Act → World → Prop} (x y : Operand) (ho : op.op = .store 68 x y) (g : Nat) (hx : a.eval x = .pointer (some ⟨g, 0, none⟩)) (r : Rec)
    (hy : a.eval y = styleV r) (ht : w.there g 0 60) (h : K (a.put op.dst undef) (w.setCells g 0 (styleL r))) : op.wp Try.prog a w K Q :=
  wp_store_mid 68 x y ho g 0 (styleL r).toArray hx hy (by simpa [styleL_length] using ht) (by rw [List.size_toArray, styleL_length]; kernel_rfl) (all_oneCell_toArray (rcells_one _ _)) h
/-- the style r lies in block g of u, and u is w with new blocks -/
structure StyleBox (w u : World) (g : Nat) (r : Rec) : Prop where
  bel : Bel w u
  rng : u.rangeAt g 0 (styleL r)
  lo : w.heap.size ≤ g
  hi : g < u.heap.size
theorem StyleBox.put {w w1 : World} {g : Nat} {r : Rec} (hb : Bel w w1) (ht : w1.there g 0 60) (hg : w.heap.size ≤ g) (hg2 : g < w1.heap.size) : StyleBox w (w1.setCells g 0 (styleL r)) g r :=
  ⟨hb.grown (setCells_gb g (styleL r) 0 w1) (fun q e => by injection e with e; omega), World.rangeAt_setCells_same w1 g 0 (styleL r) (by rw [styleL_length]; exact ht), hg, by have := (setCells_gb g (styleL r) 0 w1).size; omega⟩
theorem StyleBox.cell {w u u' : World} {g : Nat} {r : Rec} (h : StyleBox w u g r) (hb : Bel u u') {i : Nat} {v : Value} (hv : (styleL r)[i]? = some v) : u'.cell? ⟨g, i, none⟩ = some v := by
  rw [hb.cell _ _ h.hi]
  have := h.rng i v hv
  rwa [Nat.zero_add] at this
theorem there_allocS (w : World) : (w.alloc (.cells zstyle.toArray 68)).there w.heap.size 0 60 := there_new w zstyle.toArray 68
theorem there_keep {w w' : World} {g o n : Nat} (h : w.there g o n) (hb : Bel w w') (hg : g < w.heap.size) : w'.there g o n := fun j hj => by
  obtain ⟨h1, h2⟩ := h j hj
  exact ⟨by rw [hb.cell _ _ hg]; exact h1, by rw [hb.frozen _ _ hg]; exact h2⟩
theorem allocStyle {w : World} {ops : Array Oper} {rest : List Oper} {op : Oper} {a : Act} {Q : Exit → Act → World → Prop} (hgd : op.guard = none) (ho : op.op = .alloc 68)
    (h : ∀ w', Hid (w' = w.alloc (.cells zstyle.toArray 68)) → wpList Try.prog ops Q rest (a.put op.dst (.pointer (some ⟨w.heap.size, 0, none⟩))) w') : wpList Try.prog ops Q (op :: rest) a w :=
  wpList_plain hgd fun _ hK => step_allocStyle ho (hK _ _ (h _ (hid' rfl)))
/-- the style stored in the block that was laid just ahead of it -/
theorem storeStyle {w w1 : World} {ops : Array Oper} {rest : List Oper} {op : Oper} {a : Act} {Q : Exit → Act → World → Prop} (hgd : op.guard = none) (x y : Operand) (ho : op.op = .store 68 x y) (hA : Hid (w1 = w.alloc (.cells zstyle.toArray 68))) (hx : a.eval x = .pointer (some ⟨w.heap.size, 0, none⟩)) (r : Rec)
    (hy : a.eval y = styleV r) (h : ∀ w', Hid (StyleBox w w' w.heap.size r) → wpList Try.prog ops Q rest (a.put op.dst undef) w') : wpList Try.prog ops Q (op :: rest) a w1 :=
  wpList_plain hgd fun _ hK => by
    have ht : w1.there w.heap.size 0 60 := by rw [hA.out]; exact there_allocS w
    exact step_storeStyle x y ho w.heap.size hx r hy ht (hK _ _ (h _ (hid' (StyleBox.put (by rw [hA.out]; exact (Bel.refl w).alloc _) ht (Nat.le_refl _) (by rw [hA.out]; simp)))))
theorem style_b6 (r : Rec) : (styleL r)[6]? = some (.bool (r.b 6)) := rcells_bool r rfl
theorem style_b7 (r : Rec) : (styleL r)[7]? = some (.bool (r.b 7)) := rcells_bool r rfl

set_option maxRecDepth 100000 in
set_option maxHeartbeats 4000000 in
theorem iApartKids_r (A : Option Addr) (c : Nat) (T : List NodeD) (j : Nat) (w : World) (h : Nodes w A T) (hok : treeOk T = true) (hj : j < T.length) :
    Calls Try.prog 50 #[treeV A T.length c, .int .i64 ((j : Int) + 1)] w fun e w' => ∃ v, e = .returned v ∧ w'.ownsRow w.heap.size 3 1 v (apartKids T ((j : Int) + 1)).length (VI (apartKids T ((j : Int) + 1))) ∧ Bel w w' := by
  have h12 := treeOk_len hok
  have HOK := Lib.hid hok
  obtain ⟨b, o, K, ck, R, cr, rfl, hbl, hrg, hKI⟩ := h.open1 hj
  have HNL := hid' (apartTo_all hok hj)
  obtain ⟨U, hU⟩ : ∃ U, apartKids T ((j : Int) + 1) = U := ⟨_, rfl⟩
  rw [hU] at HNL ⊢
  clear hU
  have HK12 := hid' (kids_few hok hj)
  have HTL : Hid (∀ q, (apartTo T j q).length ≤ 12) := hid' (fun q => Nat.le_trans (apartTo_len T j q) HK12.out)
  obtain ⟨nk, hnk⟩ : ∃ nk, (node_ T j).kids.length = nk := ⟨_, rfl⟩
  rw [hnk] at hrg HNL HK12
  have HNK := Lib.hid hnk
  have hk12 := HK12.out
  clear hnk
  obtain ⟨W, hW⟩ : ∃ W, W = w.alloc (.cells #[.slice (some ⟨b, o, none⟩) T.length c] 30) := ⟨_, rfl⟩
  have HWB : Hid (Bel w W) := hid' (by rw [hW]; exact (Bel.refl w).alloc _)
  have HK : Hid (∀ u, Bel W u → u.cell? ⟨w.heap.size, 0, none⟩ = some (.slice (some ⟨b, o, none⟩) T.length c)) := hid' (fun u hu => by rw [hu.cell _ _ (by rw [hW]; simp), hW]; simp)
  have HRG := Lib.hid hrg
  have HKI := Lib.hid hKI
  clear hrg hKI hok
  go_enter Try.func50, Try.ntmps50
  go_wp2_with fail
  rw [← hW]
  clear hW
  refine (iNode_at b o c T j K nk ck R (node_ T j).rules.length cr _ (Nat.lt_of_lt_of_le hbl HWB.out.sz) (range_bel HRG.out HWB.out hbl) hj (by omega)).mono ?_; rintro e w1 ⟨rfl, hb1⟩
  have hfu := field_kids (node_ T j) (.slice K nk ck) (.slice R (node_ T j).rules.length cr) w1
  go_wp2_with fail
  clear hfu
  go_loopw [5, 14] (fun v i wr => ∃ (q : Nat), q ≤ nk ∧ i = .int .i64 q ∧ Hid (wr.ownsRow W.heap.size 3 1 v (apartTo T j q).length (VI (apartTo T j q))) ∧ Bel W wr) (fun _ i _ => nk - (intOf i).toNat)
  case atStart => exact ⟨0, Nat.zero_le _, rfl, hid' (own_nil _ _ _), hb1⟩
  case round =>
    obtain ⟨q, hq, rfl, HO, hb⟩ := hrel
    have hc0 := HK.out _ hb
    by_cases hql : q < nk
    · have hqk : q < (node_ T j).kids.length := by rw [HNK.out]; exact hql
      obtain ⟨bk, ok, rfl, hbk, hck⟩ := HKI.out q hqk
      have hcK := ((HWB.out.trans hb).cell _ _ hbk).trans (hck q hqk)
      have hqi : (q : Int) < (nk : Int) := by omega
      obtain ⟨j2, hj2e, hj2⟩ := isNode_split (kid_facts HOK.out hj hqk).1
      have hle := HTL.out q
      have hAP : isApart T (at_ (node_ T j).kids q) = (!(node_ T j2).style.b 7 && (node_ T j2).style.b 6) := by rw [hj2e]; unfold isApart; rw [nd_eq]
      have HAY : Hid (isApart T (at_ (node_ T j).kids q) = true → apartTo T j (q + 1) = apartTo T j q ++ [((j2 : Int) + 1)]) := hid' (fun e => by rw [apartTo_yes hqk e, hj2e])
      have HAN : Hid (isApart T (at_ (node_ T j).kids q) = false → apartTo T j (q + 1) = apartTo T j q) := hid' (fun e => apartTo_no hqk e)
      rw [hAP] at HAY HAN
      rw [hj2e] at hcK
      clear hck hqk hj2e hAP
      obtain ⟨b', o', K2, ck2, R2, cr2, hA2, hbl2, hrg2, -⟩ := h.open1 hj2
      obtain ⟨rfl, rfl⟩ : b = b' ∧ o = o' := by cases hA2; exact ⟨rfl, rfl⟩
      have HR2 := hid' (range_bel hrg2 (HWB.out.trans hb) hbl)
      clear hrg2 hA2
      go_wp2_with fail
      refine (iNode_at b o c T j2 K2 _ ck2 R2 _ cr2 _ (Nat.lt_of_lt_of_le hbl (HWB.out.trans hb).sz) HR2.out hj2 (by omega)).mono ?_; rintro e w2 ⟨rfl, hb2'⟩
      have hfs := field_style (node_ T j2) (.slice K2 (node_ T j2).kids.length ck2) (.slice R2 (node_ T j2).rules.length cr2) w2
      have hb2 := hb.trans hb2'
      have HO2 := hid' (own_keep HO.out hb2')
      cases h7 : (node_ T j2).style.b 7
      · cases h6 : (node_ T j2).style.b 6
        · have HN1 : Hid (apartTo T j (q + 1) = apartTo T j q) := hid' (HAN.out (by rw [h7, h6]; rfl))
          go_wp2_with (first
            | ((with_reducible show wpList _ _ _ (Oper.mk _ (Op.alloc _) _ _ _ _ :: _) _ _); refine allocStyle rfl rfl ?_; intro w3 HA)
            | ((with_reducible show wpList _ _ _ (Oper.mk _ (Op.store _ _ _) _ _ _ _ :: _) _ _); refine storeStyle rfl _ _ rfl HA rfl (node_ T j2).style rfl ?_; intro w4 H4
               have hb4 := hb2.trans H4.out.bel
               have c6 := H4.out.cell (Bel.refl w4) (style_b6 _)
               have c7 := H4.out.cell (Bel.refl w4) (style_b7 _)
               rw [h7] at c7
               rw [h6] at c6
               have HO4 := hid' (own_keep HO2.out H4.out.bel))
            | (at_builtin; refine app1w rfl (.tmp 29) (.tmp 31) rfl W.heap.size _ _ _ rfl (HO4.out.alloc _) w4.heap.size _ rfl (World.cell?_alloc_new _ _ _ _) (by omega) (hb4.alloc _).sz ?_; intro v5 w5 ho5 hg5 hv5
               have hb5 : Bel W w5 := (hb4.alloc _).own (Nat.le_refl _) (HO4.out.alloc _) hg5
               clear hv5))
          go_roundw
          case rel => exact ⟨q + 1, by omega, by go_num, hid' (by rw [HN1.out]; exact HO4.out), hb4⟩
          case measure => simp [intOf]; omega
        · have HN1 : Hid (apartTo T j (q + 1) = apartTo T j q ++ [((j2 : Int) + 1)]) := hid' (HAY.out (by rw [h7, h6]; rfl))
          go_wp2_with (first
            | ((with_reducible show wpList _ _ _ (Oper.mk _ (Op.alloc _) _ _ _ _ :: _) _ _); refine allocStyle rfl rfl ?_; intro w3 HA)
            | ((with_reducible show wpList _ _ _ (Oper.mk _ (Op.store _ _ _) _ _ _ _ :: _) _ _); refine storeStyle rfl _ _ rfl HA rfl (node_ T j2).style rfl ?_; intro w4 H4
               have hb4 := hb2.trans H4.out.bel
               have c6 := H4.out.cell (Bel.refl w4) (style_b6 _)
               have c7 := H4.out.cell (Bel.refl w4) (style_b7 _)
               rw [h7] at c7
               rw [h6] at c6
               have HO4 := hid' (own_keep HO2.out H4.out.bel))
            | (at_builtin; refine app1w rfl (.tmp 29) (.tmp 31) rfl W.heap.size _ _ _ rfl (HO4.out.alloc _) w4.heap.size _ rfl (World.cell?_alloc_new _ _ _ _) (by omega) (hb4.alloc _).sz ?_; intro v5 w5 ho5 hg5 hv5
               have hb5 : Bel W w5 := (hb4.alloc _).own (Nat.le_refl _) (HO4.out.alloc _) hg5
               clear hv5))
          go_roundw
          case rel => exact ⟨q + 1, by omega, by go_num, hid' (by rw [HN1.out, List.length_append, ← VI_snoc]; exact ho5), hb5⟩
          case measure => simp [intOf]; omega
      · have HN1 : Hid (apartTo T j (q + 1) = apartTo T j q) := hid' (HAN.out (by rw [h7]; rfl))
        go_wp2_with (first
          | ((with_reducible show wpList _ _ _ (Oper.mk _ (Op.alloc _) _ _ _ _ :: _) _ _); refine allocStyle rfl rfl ?_; intro w3 HA)
          | ((with_reducible show wpList _ _ _ (Oper.mk _ (Op.store _ _ _) _ _ _ _ :: _) _ _); refine storeStyle rfl _ _ rfl HA rfl (node_ T j2).style rfl ?_; intro w4 H4
             have hb4 := hb2.trans H4.out.bel
             have c6 := H4.out.cell (Bel.refl w4) (style_b6 _)
             have c7 := H4.out.cell (Bel.refl w4) (style_b7 _)
             rw [h7] at c7
             skip
             have HO4 := hid' (own_keep HO2.out H4.out.bel))
          | (at_builtin; refine app1w rfl (.tmp 29) (.tmp 31) rfl W.heap.size _ _ _ rfl (HO4.out.alloc _) w4.heap.size _ rfl (World.cell?_alloc_new _ _ _ _) (by omega) (hb4.alloc _).sz ?_; intro v5 w5 ho5 hg5 hv5
             have hb5 : Bel W w5 := (hb4.alloc _).own (Nat.le_refl _) (HO4.out.alloc _) hg5
             clear hv5))
        go_roundw
        case rel => exact ⟨q + 1, by omega, by go_num, hid' (by rw [HN1.out]; exact HO4.out), hb4⟩
        case measure => simp [intOf]; omega
    · obtain rfl : nk = q := by omega
      go_wp2_with fail
      go_ret
      exact ⟨_, rfl, by rw [HNL.out]; exact own_low HO.out HWB.out.sz, HWB.out.trans hb⟩
end Go.Proofs.Ytcdneamoemmohaa
