/- flowKids: the closure and the program's text. -/
import Derived.Test.YtkoljbndbomhdaaGreatSort
import Derived.Test.YtkoljbndbomhdaaGreatApartS
import Derived.Deep.RegionHeld3
namespace Go.Proofs.YtkoljbndbomhdaaGreat
open Go.RowKit Go.ChangeShapes Go.WideShapes
set_option linter.unusedVariables false
set_option linter.unusedSimpArgs false

theorem field_order (r : Rec) (w : World) : (Instr.field 47 (styleV r) 8).run Tryz.prog w = .ok (.int .i64 (r.s 8)) w := by
  have hagg : (isAgg 3).run Tryz.prog w = .ok false w := by
    unfold isAgg
    rw [Sem.run_bind, run_underlying Tryz.underlying3 w]
    rfl
  have h0 : (styleL r).toArray[8]? = some (.int .i64 (r.s 8)) := by
    rw [List.getElem?_toArray]
    exact rcells_int r rfl
  unfold styleV
  obtain ⟨cs, hcs⟩ : ∃ cs, (styleL r).toArray = cs := ⟨_, rfl⟩
  rw [hcs] at h0 ⊢
  unfold Instr.field
  rw [Sem.run_bind, run_underlying Tryz.underlying47 w]
  simp only [Result.andThen_ok]
  show (asAgg (.agg cs) >>= fun z => part 3 z 8).run Tryz.prog w = _
  simp [asAgg, part, Sem.run_bind, hagg, h0]
theorem order_eq (T : List NodeD) (p : Nat) : orderOf T ((p : Int) + 1) = (node_ T p).style.s 8 := by unfold orderOf; rw [nd_eq]
set_option maxRecDepth 100000 in
set_option maxHeartbeats 4000000 in
theorem less_c (b o c base : Nat) (T : List NodeD) (x2 x5 blk n cap : Nat) (l : List Int) (wr : World) (hc2 : wr.cell? ⟨x2, 0, none⟩ = some (.slice (some ⟨b, o, none⟩) T.length c)) (hc5 : wr.cell? ⟨x5, 0, none⟩ = some (.slice (some ⟨blk, 0, none⟩) n cap))
    (hR : RowI wr base blk n cap l) (hl : l.length = n) (hT : T.length ≤ 1048576) (hN : Nodes wr (some ⟨b, o, none⟩) T) (hall : ∀ z ∈ l, isNodeB T z = true) (i j : Nat) (hi : i < n) (hj : j < n) :
    Calls Tryz.prog 62 #[.int .i64 (i : Int), .int .i64 (j : Int), .pointer (some ⟨x2, 0, none⟩), .pointer (some ⟨x5, 0, none⟩)] wr fun e w' => e = .returned (.bool (decide (orderOf T (at_ l i) < orderOf T (at_ l j)))) ∧ Bel wr w' := by
  obtain ⟨p, hp, hpl⟩ := isNode_split (hall _ (at_mem (show i < l.length by omega)))
  obtain ⟨q, hq, hql⟩ := isNode_split (hall _ (at_mem (show j < l.length by omega)))
  have hci : wr.cell? ⟨blk, i, none⟩ = some (.int .i64 ((p : Int) + 1)) := by rw [hR.cellAt i (by omega), ← hp]; exact VI_at (by omega)
  have hcj : wr.cell? ⟨blk, j, none⟩ = some (.int .i64 ((q : Int) + 1)) := by rw [hR.cellAt j (by omega), ← hq]; exact VI_at (by omega)
  have hbk : blk < wr.heap.size := (hR.lt blk rfl).2
  rw [hp, hq, order_eq, order_eq]
  obtain ⟨b1, o1, K, ck, R, cr, hA, hbl, hrg, -⟩ := hN.open1 hpl
  obtain ⟨rfl, rfl⟩ : b = b1 ∧ o = o1 := by cases hA; exact ⟨rfl, rfl⟩
  obtain ⟨b2, o2, K2, ck2, R2, cr2, hA2, hbl2, hrg2, -⟩ := hN.open1 hql
  obtain ⟨rfl, rfl⟩ : b = b2 ∧ o = o2 := by cases hA2; exact ⟨rfl, rfl⟩
  have HRG := Lib.hid hrg
  have HRG2 := Lib.hid hrg2
  have hii : (i : Int) < (n : Int) := by omega
  have hjj : (j : Int) < (n : Int) := by omega
  have hi0 : (0 : Int) ≤ (i : Int) := Int.natCast_nonneg i
  have hj0 : (0 : Int) ≤ (j : Int) := Int.natCast_nonneg j
  have hx2 := World.block_lt_of_cell? _ _ hc2
  have hx5 := World.block_lt_of_cell? _ _ hc5
  have HSS : Hid (∀ u, Bel wr u → u.cell? ⟨x2, 0, none⟩ = some (.slice (some ⟨b, o, none⟩) T.length c) ∧ u.cell? ⟨x5, 0, none⟩ = some (.slice (some ⟨blk, 0, none⟩) n cap) ∧ u.cell? ⟨blk, i, none⟩ = some (.int .i64 ((p : Int) + 1)) ∧ u.cell? ⟨blk, j, none⟩ = some (.int .i64 ((q : Int) + 1))) :=
    hid' (fun u hu => ⟨(hu.cell _ _ hx2).trans hc2, (hu.cell _ _ hx5).trans hc5, (hu.cell _ _ hbk).trans hci, (hu.cell _ _ hbk).trans hcj⟩)
  have hfp : ∀ u : World, (Instr.field 79 (.agg (nodeL (node_ T p) (.slice K (node_ T p).kids.length ck) (.slice R (node_ T p).rules.length cr)).toArray) 2).run Tryz.prog u = .ok (styleV (node_ T p).style) u := fun u => field_style (node_ T p) _ _ u
  have hfq : ∀ u : World, (Instr.field 79 (.agg (nodeL (node_ T q) (.slice K2 (node_ T q).kids.length ck2) (.slice R2 (node_ T q).rules.length cr2)).toArray) 2).run Tryz.prog u = .ok (styleV (node_ T q).style) u := fun u => field_style (node_ T q) _ _ u
  have hop : ∀ u : World, (Instr.field 47 (styleV (node_ T p).style) 8).run Tryz.prog u = .ok (.int .i64 ((node_ T p).style.s 8)) u := fun u => field_order _ u
  have hoq : ∀ u : World, (Instr.field 47 (styleV (node_ T q).style) 8).run Tryz.prog u = .ok (.int .i64 ((node_ T q).style.s 8)) u := fun u => field_order _ u
  have hd0 : Bel wr wr.drew := (Bel.refl wr).drew
  clear hR hN hall hp hq hrg hrg2 hA hA2
  go_enter Tryz.func62, Tryz.ntmps62
  go_wp2_with fail
  go_region_held3 (fun u => u.cell? ⟨x2, 0, none⟩ = some (.slice (some ⟨b, o, none⟩) T.length c) ∧ u.cell? ⟨x5, 0, none⟩ = some (.slice (some ⟨blk, 0, none⟩) n cap) ∧ u.cell? ⟨blk, i, none⟩ = some (.int .i64 ((p : Int) + 1)) ∧ u.cell? ⟨blk, j, none⟩ = some (.int .i64 ((q : Int) + 1)))
    ((with_reducible first | exact HSS.out _ hu2 | exact HSS.out _ hu1 | exact HSS.out _ hd0))
    (first
      | (go_at_call 35; (with_reducible show Calls _ _ #[_, Value.int .i64 ((p : Int) + 1)] wr.drew _); refine (iNode_at b o c T p K _ ck R _ cr _ (Nat.lt_of_lt_of_le hbl hd0.sz) (range_bel HRG.out hd0 hbl) hpl hT).mono ?_; rintro e u1 ⟨rfl, hbn⟩; have hu1 := hd0.trans hbn; clear hbn)
      | (go_at_call 35; (with_reducible show Calls _ _ #[_, Value.int .i64 ((q : Int) + 1)] wr.drew _); refine (iNode_at b o c T q K2 _ ck2 R2 _ cr2 _ (Nat.lt_of_lt_of_le hbl hd0.sz) (range_bel HRG2.out hd0 hbl) hql hT).mono ?_; rintro e u1 ⟨rfl, hbn⟩; have hu1 := hd0.trans hbn; clear hbn)
      | (go_at_call 35; (with_reducible show Calls _ _ #[_, Value.int .i64 ((p : Int) + 1)] u1 _); refine (iNode_at b o c T p K _ ck R _ cr _ (Nat.lt_of_lt_of_le hbl hu1.sz) (range_bel HRG.out hu1 hbl) hpl hT).mono ?_; rintro e u2 ⟨rfl, hbn⟩; have hu2 := hu1.trans hbn; clear hbn)
      | (go_at_call 35; (with_reducible show Calls _ _ #[_, Value.int .i64 ((q : Int) + 1)] u1 _); refine (iNode_at b o c T q K2 _ ck2 R2 _ cr2 _ (Nat.lt_of_lt_of_le hbl hu1.sz) (range_bel HRG2.out hu1 hbl) hql hT).mono ?_; rintro e u2 ⟨rfl, hbn⟩; have hu2 := hu1.trans hbn; clear hbn))
  all_goals
    go_wp2_with fail
    go_ret
    exact ⟨rfl, hu2⟩
set_option maxRecDepth 100000 in
set_option maxHeartbeats 8000000 in
theorem iFlowKids_r (A : Option Addr) (c : Nat) (T : List NodeD) (j : Nat) (w : World) (h : Nodes w A T) (hok : treeOk T = true) (hj : j < T.length) :
    Calls Tryz.prog 37 #[treeV A T.length c, .int .i64 ((j : Int) + 1)] w fun e w' => ∃ v, e = .returned v ∧ w'.ownsRow w.heap.size 3 1 v (flowKids T ((j : Int) + 1)).length (VI (flowKids T ((j : Int) + 1))) ∧ Bel w w' := by
  have h12 := treeOk_len hok
  have HOK := Lib.hid hok
  obtain ⟨b, o, K, ck, R, cr, rfl, hbl, hrg, hKI⟩ := h.open1 hj
  have HNL := hid' (flowTo_all hok hj)
  obtain ⟨U, hU⟩ : ∃ U, flowKids T ((j : Int) + 1) = U := ⟨_, rfl⟩
  rw [hU] at HNL ⊢
  clear hU
  have HK12 := hid' (kids_few hok hj)
  have HTL : Hid (∀ q, (flowTo T j q).length ≤ 12) := hid' (fun q => Nat.le_trans (flowTo_len T j q) HK12.out)
  have HALL : Hid (∀ q, ∀ z ∈ flowTo T j q, isNodeB T z = true) := hid' (fun q z hz => flowTo_node hok hj hz)
  obtain ⟨nk, hnk⟩ : ∃ nk, (node_ T j).kids.length = nk := ⟨_, rfl⟩
  rw [hnk] at hrg HNL HK12
  have HNK := Lib.hid hnk
  have hk12 := HK12.out
  clear hnk
  obtain ⟨W0, hW0⟩ : ∃ W0, W0 = w.alloc (.cells #[.slice (some ⟨b, o, none⟩) T.length c] 32) := ⟨_, rfl⟩
  have HWB : Hid (Bel w W0) := hid' (by rw [hW0]; exact (Bel.refl w).alloc _)
  have HS : Hid (W0.heap.size = w.heap.size + 1) := hid' (by rw [hW0]; simp)
  have HK : Hid (∀ u, Bel W0 u → u.cell? ⟨w.heap.size, 0, none⟩ = some (.slice (some ⟨b, o, none⟩) T.length c)) := hid' (fun u hu => by rw [hu.cell _ _ (by rw [hW0]; simp), hW0]; simp)
  obtain ⟨W1, hW1⟩ : ∃ W1, W1 = W0.alloc (.cells #[.slice none 0 0] 48) := ⟨_, rfl⟩
  have HS1 : Hid (W1.heap.size = w.heap.size + 1 + 1) := hid' (by rw [hW1]; simp [HS.out])
  have HB1 : Hid (Bel W0 W1) := hid' (by rw [hW1]; exact (Bel.refl W0).alloc _)
  have HC1 : Hid (W1.cell? ⟨w.heap.size + 1, 0, none⟩ = some (.slice none 0 0) ∧ W1.frozen? ⟨w.heap.size + 1, 0, none⟩ = false) := hid' (by
    have h0 := new_cell1 W0 (.slice none 0 0) 48
    rw [HS.out] at h0
    rw [hW1]
    exact h0)
  have HRG := Lib.hid hrg
  have HKI := Lib.hid hKI
  clear hrg hKI hok
  go_enter Tryz.func37, Tryz.ntmps37
  go_wp2_with fail
  rw [← hW0]
  (try rw [← hW1])
  clear hW0 hW1
  refine (iNode_at b o c T j K nk ck R (node_ T j).rules.length cr _ (Nat.lt_of_lt_of_le hbl (HWB.out.trans HB1.out).sz) (range_bel HRG.out (HWB.out.trans HB1.out) hbl) hj (by omega)).mono ?_; rintro e w1 ⟨rfl, hb1⟩
  have hfu := field_kids (node_ T j) (.slice K nk ck) (.slice R (node_ T j).rules.length cr) w1
  have hcS : w1.cell? ⟨w.heap.size + 1, 0, none⟩ = some (.slice none 0 0) ∧ w1.frozen? ⟨w.heap.size + 1, 0, none⟩ = false := ⟨(hb1.cell _ _ (by rw [HS1.out]; omega)).trans HC1.out.1, (hb1.frozen _ _ (by rw [HS1.out]; omega)).trans HC1.out.2⟩
  have HCS := Lib.hid hcS
  have HBS := hid' (HB1.out.trans hb1)
  have HLS : Hid (w.heap.size + 1 + 1 ≤ w1.heap.size) := hid' (by rw [← HS1.out]; exact hb1.sz)
  clear hcS hb1
  go_wp2_with fail
  clear hfu
  go_loopw [14] (fun i wr => ∃ (q : Nat) (v : Value), q ≤ nk ∧ i = .int .i64 q ∧ wr.cell? ⟨w.heap.size + 1, 0, none⟩ = some v ∧ wr.frozen? ⟨w.heap.size + 1, 0, none⟩ = false ∧ Hid (wr.ownsRow (w.heap.size + 1 + 1) 3 1 v (flowTo T j q).length (VI (flowTo T j q))) ∧ Hid (w.heap.size + 1 + 1 ≤ wr.heap.size) ∧ Bel W0 wr) (fun i _ => nk - (intOf i).toNat)
  case atStart => exact ⟨0, .slice none 0 0, Nat.zero_le _, rfl, HCS.out.1, HCS.out.2, hid' (own_nil _ _ _), HLS, HBS.out⟩
  case round =>
    obtain ⟨q, v, hq, rfl, hcv, hfv, HO, HLE, hb⟩ := hrel
    have hc0 := HK.out _ hb
    by_cases hql : q < nk
    · have hqk : q < (node_ T j).kids.length := by rw [HNK.out]; exact hql
      obtain ⟨bk, ok, rfl, hbk, hck⟩ := HKI.out q hqk
      have hcK := ((HWB.out.trans hb).cell _ _ hbk).trans (hck q hqk)
      have hqi : (q : Int) < (nk : Int) := by omega
      obtain ⟨j2, hj2e, hj2⟩ := isNode_split (kid_facts HOK.out hj hqk).1
      have hle := HTL.out q
      have hAP : isFlow T (at_ (node_ T j).kids q) = (!(node_ T j2).style.b 7 && !(node_ T j2).style.b 6) := by rw [hj2e]; unfold isFlow; rw [nd_eq]
      have HAY : Hid (isFlow T (at_ (node_ T j).kids q) = true → flowTo T j (q + 1) = flowTo T j q ++ [((j2 : Int) + 1)]) := hid' (fun e => by rw [flowTo_yes hqk e, hj2e])
      have HAN : Hid (isFlow T (at_ (node_ T j).kids q) = false → flowTo T j (q + 1) = flowTo T j q) := hid' (fun e => flowTo_no hqk e)
      rw [hAP] at HAY HAN
      rw [hj2e] at hcK
      clear hck hqk hj2e hAP
      obtain ⟨b', o', K2, ck2, R2, cr2, hA2, hbl2, hrg2, -⟩ := h.open1 hj2
      obtain ⟨rfl, rfl⟩ : b = b' ∧ o = o' := by cases hA2; exact ⟨rfl, rfl⟩
      have HR2 := hid' (range_bel hrg2 (HWB.out.trans hb) hbl)
      clear hrg2 hA2
      go_wp2_with fail
      refine (iNode_at b o c T j2 K2 _ ck2 R2 _ cr2 _ (Nat.lt_of_lt_of_le hbl (HWB.out.trans hb).sz) HR2.out hj2 (by omega)).mono ?_; rintro e w2 ⟨rfl, hb2'⟩
      have hfs := field_style (node_ T j2) (.slice K2 (node_ T j2).kids.length ck2) (.slice R2 (node_ T j2).rules.length cr2) w2
      have hb2 := hb.trans hb2'
      have HV2 : Hid (∀ u, Bel wr u → u.cell? ⟨w.heap.size + 1, 0, none⟩ = some v ∧ u.frozen? ⟨w.heap.size + 1, 0, none⟩ = false ∧ u.ownsRow (w.heap.size + 1 + 1) 3 1 v (flowTo T j q).length (VI (flowTo T j q)) ∧ w.heap.size + 1 + 1 ≤ u.heap.size) :=
        hid' (fun u hu => ⟨(hu.cell _ _ (World.block_lt_of_cell? _ _ hcv)).trans hcv, (hu.frozen _ _ (World.block_lt_of_cell? _ _ hcv)).trans hfv, own_keep HO.out hu, Nat.le_trans HLE.out hu.sz⟩)
      have HB2' := Lib.hid hb2'
      clear hcv hfv HO
      cases h7 : (node_ T j2).style.b 7
      · cases h6 : (node_ T j2).style.b 6
        · have HN1 : Hid (flowTo T j (q + 1) = flowTo T j q ++ [((j2 : Int) + 1)]) := hid' (HAY.out (by rw [h7, h6]; rfl))
          go_wp2_with (first
            | ((with_reducible show wpList _ _ _ (Oper.mk _ (Op.alloc _) _ _ _ _ :: _) _ _); refine allocStyle rfl rfl ?_; intro w3 HA)
            | ((with_reducible show wpList _ _ _ (Oper.mk _ (Op.store _ _ _) _ _ _ _ :: _) _ _); refine storeStyle rfl _ _ rfl HA rfl (node_ T j2).style rfl ?_; intro w4 H4
               have hb4 := hb2.trans H4.out.bel
               have HB4 := hid' (HB2'.out.trans H4.out.bel)
               have c6 := H4.out.cell (Bel.refl w4) (style_b6 _)
               have c7 := H4.out.cell (Bel.refl w4) (style_b7 _)
               rw [h7] at c7
               rw [h6] at c6
               have hcv4 := (HV2.out _ HB4.out).1)
            | (at_builtin; refine app1w rfl (.tmp 30) (.tmp 32) rfl (w.heap.size + 1 + 1) _ _ _ rfl ((HV2.out _ HB4.out).2.2.1.alloc _) w4.heap.size _ rfl (World.cell?_alloc_new _ _ _ _) (by omega) (Nat.le_trans (HV2.out _ HB4.out).2.2.2 ((Bel.refl w4).alloc _).sz) ?_; intro v5 w5 ho5 hg5 hv5
               have HLT5 := hid' ((HV2.out _ HB4.out).2.2.1.lt)
               obtain ⟨g5, c5, rfl⟩ := own_pos ho5
               have hsz4 : w.heap.size + 1 < (w4.alloc (.cells #[.int .i64 ((j2 : Int) + 1)] 3)).heap.size := Nat.lt_of_lt_of_le (show w.heap.size + 1 < w4.heap.size by have := (HV2.out _ HB4.out).2.2.2; omega) ((Bel.refl w4).alloc _).sz
               have hne5 : v.ownBlock ≠ some (w.heap.size + 1) := (fun e => by have := (HLT5.out _ e).1; omega)
               have hcv5 : w5.cell? ⟨w.heap.size + 1, 0, none⟩ = some v := (World.grownBy.cell_far hg5 ⟨w.heap.size + 1, 0, none⟩ hsz4 (fun e => hne5 e.symm)).trans ((((Bel.refl w4).alloc (.cells #[.int .i64 ((j2 : Int) + 1)] 3)).cell _ _ (World.block_lt_of_cell? _ _ hcv4)).trans hcv4)
               have hfv5 : w5.frozen? ⟨w.heap.size + 1, 0, none⟩ = false := (World.grownBy.frozen_far hg5 ⟨w.heap.size + 1, 0, none⟩ hsz4 (fun e => hne5 e.symm)).trans ((((Bel.refl w4).alloc (.cells #[.int .i64 ((j2 : Int) + 1)] 3)).frozen _ _ (World.block_lt_of_cell? _ _ hcv4)).trans (HV2.out _ HB4.out).2.1)
               have hb5 : Bel W0 w5 := (hb4.alloc _).grown hg5 (fun q e => by have := (HLT5.out q e).1; have := HS.out; omega)
               have HOX : Hid ((w5.setCell ⟨w.heap.size + 1, 0, none⟩ (.slice (some ⟨g5, 0, none⟩) ((flowTo T j q).length + 1) c5)).ownsRow (w.heap.size + 1 + 1) 3 1 (.slice (some ⟨g5, 0, none⟩) ((flowTo T j q).length + 1) c5) ((flowTo T j q).length + 1) (VI (flowTo T j q) ++ [.int .i64 ((j2 : Int) + 1)])) := hid' (own_far ho5 (grown_set _ _ _) (by omega))
               have hcx : (w5.setCell ⟨w.heap.size + 1, 0, none⟩ (.slice (some ⟨g5, 0, none⟩) ((flowTo T j q).length + 1) c5)).cell? ⟨w.heap.size + 1, 0, none⟩ = some (.slice (some ⟨g5, 0, none⟩) ((flowTo T j q).length + 1) c5) := World.cell?_setCell_same _ _ _ hcv5
               have hfx : (w5.setCell ⟨w.heap.size + 1, 0, none⟩ (.slice (some ⟨g5, 0, none⟩) ((flowTo T j q).length + 1) c5)).frozen? ⟨w.heap.size + 1, 0, none⟩ = false := (by rw [World.frozen?_setCell]; exact hfv5)
               have HLX : Hid (w.heap.size + 1 + 1 ≤ (w5.setCell ⟨w.heap.size + 1, 0, none⟩ (.slice (some ⟨g5, 0, none⟩) ((flowTo T j q).length + 1) c5)).heap.size) := hid' (Nat.le_trans (Nat.le_of_lt_succ (Nat.succ_lt_succ hsz4)) (Nat.le_trans hg5.size (grown_set w5 (w.heap.size + 1) _).size))
               have hbx : Bel W0 (w5.setCell ⟨w.heap.size + 1, 0, none⟩ (.slice (some ⟨g5, 0, none⟩) ((flowTo T j q).length + 1) c5)) := hb5.setCell (Nat.le_of_eq HS.out) _
               have HCX := hid' (And.intro hcx hfx)
               clear hg5 hv5 ho5 hcx hfx hne5 hcv4))
          go_roundw
          case rel => exact ⟨q + 1, _, by omega, by go_num, HCX.out.1, HCX.out.2, hid' (by rw [HN1.out, List.length_append, ← VI_snoc]; exact HOX.out), HLX, hbx⟩
          case measure => simp [intOf]; omega
        · have HN1 : Hid (flowTo T j (q + 1) = flowTo T j q) := hid' (HAN.out (by rw [h7, h6]; rfl))
          go_wp2_with (first
            | ((with_reducible show wpList _ _ _ (Oper.mk _ (Op.alloc _) _ _ _ _ :: _) _ _); refine allocStyle rfl rfl ?_; intro w3 HA)
            | ((with_reducible show wpList _ _ _ (Oper.mk _ (Op.store _ _ _) _ _ _ _ :: _) _ _); refine storeStyle rfl _ _ rfl HA rfl (node_ T j2).style rfl ?_; intro w4 H4
               have hb4 := hb2.trans H4.out.bel
               have HB4 := hid' (HB2'.out.trans H4.out.bel)
               have c6 := H4.out.cell (Bel.refl w4) (style_b6 _)
               have c7 := H4.out.cell (Bel.refl w4) (style_b7 _)
               rw [h7] at c7
               rw [h6] at c6
               have hcv4 := (HV2.out _ HB4.out).1)
            | (at_builtin; refine app1w rfl (.tmp 30) (.tmp 32) rfl (w.heap.size + 1 + 1) _ _ _ rfl ((HV2.out _ HB4.out).2.2.1.alloc _) w4.heap.size _ rfl (World.cell?_alloc_new _ _ _ _) (by omega) (Nat.le_trans (HV2.out _ HB4.out).2.2.2 ((Bel.refl w4).alloc _).sz) ?_; intro v5 w5 ho5 hg5 hv5
               have HLT5 := hid' ((HV2.out _ HB4.out).2.2.1.lt)
               obtain ⟨g5, c5, rfl⟩ := own_pos ho5
               have hsz4 : w.heap.size + 1 < (w4.alloc (.cells #[.int .i64 ((j2 : Int) + 1)] 3)).heap.size := Nat.lt_of_lt_of_le (show w.heap.size + 1 < w4.heap.size by have := (HV2.out _ HB4.out).2.2.2; omega) ((Bel.refl w4).alloc _).sz
               have hne5 : v.ownBlock ≠ some (w.heap.size + 1) := (fun e => by have := (HLT5.out _ e).1; omega)
               have hcv5 : w5.cell? ⟨w.heap.size + 1, 0, none⟩ = some v := (World.grownBy.cell_far hg5 ⟨w.heap.size + 1, 0, none⟩ hsz4 (fun e => hne5 e.symm)).trans ((((Bel.refl w4).alloc (.cells #[.int .i64 ((j2 : Int) + 1)] 3)).cell _ _ (World.block_lt_of_cell? _ _ hcv4)).trans hcv4)
               have hfv5 : w5.frozen? ⟨w.heap.size + 1, 0, none⟩ = false := (World.grownBy.frozen_far hg5 ⟨w.heap.size + 1, 0, none⟩ hsz4 (fun e => hne5 e.symm)).trans ((((Bel.refl w4).alloc (.cells #[.int .i64 ((j2 : Int) + 1)] 3)).frozen _ _ (World.block_lt_of_cell? _ _ hcv4)).trans (HV2.out _ HB4.out).2.1)
               have hb5 : Bel W0 w5 := (hb4.alloc _).grown hg5 (fun q e => by have := (HLT5.out q e).1; have := HS.out; omega)
               have HOX : Hid ((w5.setCell ⟨w.heap.size + 1, 0, none⟩ (.slice (some ⟨g5, 0, none⟩) ((flowTo T j q).length + 1) c5)).ownsRow (w.heap.size + 1 + 1) 3 1 (.slice (some ⟨g5, 0, none⟩) ((flowTo T j q).length + 1) c5) ((flowTo T j q).length + 1) (VI (flowTo T j q) ++ [.int .i64 ((j2 : Int) + 1)])) := hid' (own_far ho5 (grown_set _ _ _) (by omega))
               have hcx : (w5.setCell ⟨w.heap.size + 1, 0, none⟩ (.slice (some ⟨g5, 0, none⟩) ((flowTo T j q).length + 1) c5)).cell? ⟨w.heap.size + 1, 0, none⟩ = some (.slice (some ⟨g5, 0, none⟩) ((flowTo T j q).length + 1) c5) := World.cell?_setCell_same _ _ _ hcv5
               have hfx : (w5.setCell ⟨w.heap.size + 1, 0, none⟩ (.slice (some ⟨g5, 0, none⟩) ((flowTo T j q).length + 1) c5)).frozen? ⟨w.heap.size + 1, 0, none⟩ = false := (by rw [World.frozen?_setCell]; exact hfv5)
               have HLX : Hid (w.heap.size + 1 + 1 ≤ (w5.setCell ⟨w.heap.size + 1, 0, none⟩ (.slice (some ⟨g5, 0, none⟩) ((flowTo T j q).length + 1) c5)).heap.size) := hid' (Nat.le_trans (Nat.le_of_lt_succ (Nat.succ_lt_succ hsz4)) (Nat.le_trans hg5.size (grown_set w5 (w.heap.size + 1) _).size))
               have hbx : Bel W0 (w5.setCell ⟨w.heap.size + 1, 0, none⟩ (.slice (some ⟨g5, 0, none⟩) ((flowTo T j q).length + 1) c5)) := hb5.setCell (Nat.le_of_eq HS.out) _
               have HCX := hid' (And.intro hcx hfx)
               clear hg5 hv5 ho5 hcx hfx hne5 hcv4))
          go_roundw
          case rel => exact ⟨q + 1, v, by omega, by go_num, (HV2.out _ HB4.out).1, (HV2.out _ HB4.out).2.1, hid' (by rw [HN1.out]; exact (HV2.out _ HB4.out).2.2.1), hid' (HV2.out _ HB4.out).2.2.2, hb4⟩
          case measure => simp [intOf]; omega
      · have HN1 : Hid (flowTo T j (q + 1) = flowTo T j q) := hid' (HAN.out (by rw [h7]; rfl))
        go_wp2_with (first
          | ((with_reducible show wpList _ _ _ (Oper.mk _ (Op.alloc _) _ _ _ _ :: _) _ _); refine allocStyle rfl rfl ?_; intro w3 HA)
          | ((with_reducible show wpList _ _ _ (Oper.mk _ (Op.store _ _ _) _ _ _ _ :: _) _ _); refine storeStyle rfl _ _ rfl HA rfl (node_ T j2).style rfl ?_; intro w4 H4
             have hb4 := hb2.trans H4.out.bel
             have HB4 := hid' (HB2'.out.trans H4.out.bel)
             have c6 := H4.out.cell (Bel.refl w4) (style_b6 _)
             have c7 := H4.out.cell (Bel.refl w4) (style_b7 _)
             rw [h7] at c7
             skip
             have hcv4 := (HV2.out _ HB4.out).1)
          | (at_builtin; refine app1w rfl (.tmp 30) (.tmp 32) rfl (w.heap.size + 1 + 1) _ _ _ rfl ((HV2.out _ HB4.out).2.2.1.alloc _) w4.heap.size _ rfl (World.cell?_alloc_new _ _ _ _) (by omega) (Nat.le_trans (HV2.out _ HB4.out).2.2.2 ((Bel.refl w4).alloc _).sz) ?_; intro v5 w5 ho5 hg5 hv5
             have HLT5 := hid' ((HV2.out _ HB4.out).2.2.1.lt)
             obtain ⟨g5, c5, rfl⟩ := own_pos ho5
             have hsz4 : w.heap.size + 1 < (w4.alloc (.cells #[.int .i64 ((j2 : Int) + 1)] 3)).heap.size := Nat.lt_of_lt_of_le (show w.heap.size + 1 < w4.heap.size by have := (HV2.out _ HB4.out).2.2.2; omega) ((Bel.refl w4).alloc _).sz
             have hne5 : v.ownBlock ≠ some (w.heap.size + 1) := (fun e => by have := (HLT5.out _ e).1; omega)
             have hcv5 : w5.cell? ⟨w.heap.size + 1, 0, none⟩ = some v := (World.grownBy.cell_far hg5 ⟨w.heap.size + 1, 0, none⟩ hsz4 (fun e => hne5 e.symm)).trans ((((Bel.refl w4).alloc (.cells #[.int .i64 ((j2 : Int) + 1)] 3)).cell _ _ (World.block_lt_of_cell? _ _ hcv4)).trans hcv4)
             have hfv5 : w5.frozen? ⟨w.heap.size + 1, 0, none⟩ = false := (World.grownBy.frozen_far hg5 ⟨w.heap.size + 1, 0, none⟩ hsz4 (fun e => hne5 e.symm)).trans ((((Bel.refl w4).alloc (.cells #[.int .i64 ((j2 : Int) + 1)] 3)).frozen _ _ (World.block_lt_of_cell? _ _ hcv4)).trans (HV2.out _ HB4.out).2.1)
             have hb5 : Bel W0 w5 := (hb4.alloc _).grown hg5 (fun q e => by have := (HLT5.out q e).1; have := HS.out; omega)
             have HOX : Hid ((w5.setCell ⟨w.heap.size + 1, 0, none⟩ (.slice (some ⟨g5, 0, none⟩) ((flowTo T j q).length + 1) c5)).ownsRow (w.heap.size + 1 + 1) 3 1 (.slice (some ⟨g5, 0, none⟩) ((flowTo T j q).length + 1) c5) ((flowTo T j q).length + 1) (VI (flowTo T j q) ++ [.int .i64 ((j2 : Int) + 1)])) := hid' (own_far ho5 (grown_set _ _ _) (by omega))
             have hcx : (w5.setCell ⟨w.heap.size + 1, 0, none⟩ (.slice (some ⟨g5, 0, none⟩) ((flowTo T j q).length + 1) c5)).cell? ⟨w.heap.size + 1, 0, none⟩ = some (.slice (some ⟨g5, 0, none⟩) ((flowTo T j q).length + 1) c5) := World.cell?_setCell_same _ _ _ hcv5
             have hfx : (w5.setCell ⟨w.heap.size + 1, 0, none⟩ (.slice (some ⟨g5, 0, none⟩) ((flowTo T j q).length + 1) c5)).frozen? ⟨w.heap.size + 1, 0, none⟩ = false := (by rw [World.frozen?_setCell]; exact hfv5)
             have HLX : Hid (w.heap.size + 1 + 1 ≤ (w5.setCell ⟨w.heap.size + 1, 0, none⟩ (.slice (some ⟨g5, 0, none⟩) ((flowTo T j q).length + 1) c5)).heap.size) := hid' (Nat.le_trans (Nat.le_of_lt_succ (Nat.succ_lt_succ hsz4)) (Nat.le_trans hg5.size (grown_set w5 (w.heap.size + 1) _).size))
             have hbx : Bel W0 (w5.setCell ⟨w.heap.size + 1, 0, none⟩ (.slice (some ⟨g5, 0, none⟩) ((flowTo T j q).length + 1) c5)) := hb5.setCell (Nat.le_of_eq HS.out) _
             have HCX := hid' (And.intro hcx hfx)
             clear hg5 hv5 ho5 hcx hfx hne5 hcv4))
        go_roundw
        case rel => exact ⟨q + 1, v, by omega, by go_num, (HV2.out _ HB4.out).1, (HV2.out _ HB4.out).2.1, hid' (by rw [HN1.out]; exact (HV2.out _ HB4.out).2.2.1), hid' (HV2.out _ HB4.out).2.2.2, hb4⟩
        case measure => simp [intOf]; omega
    · obtain rfl : nk = q := by omega
      obtain ⟨l, hll⟩ : ∃ l, flowTo T j nk = l := ⟨_, rfl⟩
      have HNL2 : Hid (U = sorted (orderOf T) l) := hid' (by rw [HNL.out, hll])
      have hlen : l.length ≤ 12 := by rw [← hll]; exact HTL.out nk
      have HAL : Hid (∀ z ∈ l, isNodeB T z = true) := hid' (fun z hz => HALL.out nk z (by rw [hll]; exact hz))
      rw [hll] at HO
      clear hll
      have HLESS : Hid (∀ blk cap, v = .slice (some ⟨blk, 0, none⟩) l.length cap → LessOk w.heap.size (w.heap.size + 1) (w.heap.size + 1 + 1) blk l.length cap l (orderOf T) wr) := hid' (fun blk cap hv wr' l' hg hR hl' hmem i j hi hj => by
        have hb2 : w.heap.size + 1 + 1 ≤ blk ∧ blk < wr.heap.size := by
          have := HO.out
          rw [hv] at this
          exact this.lt blk rfl
        have hbw : Bel w wr' := (HWB.out.trans hb).grown hg (fun q e => by injection e with e; omega)
        exact less_c b o c _ T w.heap.size (w.heap.size + 1) blk l.length cap l' wr' ((World.grownBy.cell_far hg ⟨w.heap.size, 0, none⟩ (by show w.heap.size < wr.heap.size; omega) (fun e => by have e2 : w.heap.size = blk := Option.some.inj e; omega)).trans hc0)
          ((World.grownBy.cell_far hg ⟨w.heap.size + 1, 0, none⟩ (by show w.heap.size + 1 < wr.heap.size; omega) (fun e => by have e2 : w.heap.size + 1 = blk := Option.some.inj e; omega)).trans (by rw [hcv, hv])) hR hl' (by omega) (h.keep hbw) (fun z hz => HAL.out z (hmem z hz)) i j hi hj)
      have hS := sliceStable_c w.heap.size (w.heap.size + 1) (w.heap.size + 1 + 1) l.length v l (orderOf T) wr rfl hlen HO.out HLESS.out
      have hown := HO.out.lt
      have HOWN := Lib.hid hown
      clear hown HLESS
      go_wp2_with (go_at_call 61; refine hS.mono ?_; rintro e w9 ⟨rfl, ho9, hg9⟩
                   have hcv9 : w9.cell? ⟨w.heap.size + 1, 0, none⟩ = some v := (World.grownBy.cell_far hg9 ⟨w.heap.size + 1, 0, none⟩ (World.block_lt_of_cell? _ _ hcv) (fun e => by have h1 := (HOWN.out (w.heap.size + 1) e.symm).1; omega)).trans hcv
                   have HO9 := hid' (And.intro ho9 hg9)
                   clear ho9 hg9)
      go_ret
      refine ⟨_, rfl, ?_, ?_⟩
      · rw [HNL2.out, sorted_length]
        exact own_low HO9.out.1 (by omega)
      · exact (HWB.out.trans hb).grown HO9.out.2 (fun q e => by have := (HOWN.out q e).1; omega)
end Go.Proofs.YtkoljbndbomhdaaGreat
