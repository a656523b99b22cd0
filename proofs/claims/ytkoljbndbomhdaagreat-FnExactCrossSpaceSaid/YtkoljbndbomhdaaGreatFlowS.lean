/- FlowKids: the wrapper and the reference's text. -/
import Derived.Test.YtkoljbndbomhdaaGreatFlow
import Derived.Test.YtkoljbndbomhdaaGreatCut
import Derived.Lib.QuietBelow
namespace Go.Proofs.YtkoljbndbomhdaaGreat
open Go.RowKit Go.ChangeShapes Go.WideShapes Go.Sort
set_option linter.unusedVariables false
set_option linter.unusedSimpArgs false

theorem style_i8 (r : Rec) : (styleL r)[8]? = some (.int .i64 (r.s 8)) := rcells_int r rfl
theorem sbox_ex {w u : World} {g : Nat} {r : Rec} (h : StyleBox w u g r) : ∃ g' u', g' = g ∧ u' = u ∧ StyleBox w u' g' r := ⟨g, u, rfl, rfl, h⟩
theorem insF_parts (P : List Int) (a : Nat) (x : Int) : P.take a ++ [x] ++ P.drop a = insF P a x := by simp [insF]
set_option maxRecDepth 100000 in
set_option maxHeartbeats 16000000 in
theorem sFlowKids_r (A : Option Addr) (c : Nat) (T : List NodeD) (j : Nat) (w : World) (h : Nodes w A T) (hok : treeOk T = true) (hj : j < T.length) (hkr : ∀ j, j < T.length → (node_ T j).kids.length ≤ 1048576 ∧ (node_ T j).rules.length ≤ 1048576) :
    Calls Tryz.prog 27 #[treeV A T.length c, .int .i64 ((j : Int) + 1)] w fun e w' => ∃ v, e = .returned v ∧ w'.ownsRow w.heap.size 3 1 v (flowKids T ((j : Int) + 1)).length (VI (flowKids T ((j : Int) + 1))) ∧ Bel w w' := by
  have h12 := treeOk_len hok
  have HOK := Lib.hid hok
  have HKR := Lib.hid hkr
  obtain ⟨b, o, K, ck, R, cr, rfl, hbl, hrg, hKI⟩ := h.open1 hj
  have HNL := hid' (flowTo_all hok hj)
  obtain ⟨U, hU⟩ : ∃ U, flowKids T ((j : Int) + 1) = U := ⟨_, rfl⟩
  rw [hU] at HNL ⊢
  clear hU
  have HNN : Hid (isNodeB T ((j : Int) + 1) = true) := hid' (isNode_iff.2 (by omega))
  have HK12 := hid' (kids_few hok hj)
  have HTL : Hid (∀ q, (sorted (orderOf T) (flowTo T j q)).length ≤ 12) := hid' (fun q => by rw [sorted_length]; exact Nat.le_trans (flowTo_len T j q) HK12.out)
  have HALL : Hid (∀ q, ∀ z ∈ sorted (orderOf T) (flowTo T j q), isNodeB T z = true) := hid' (fun q z hz => flowTo_node hok hj ((sorted_mem _).1 hz))
  obtain ⟨nk, hnk⟩ : ∃ nk, (node_ T j).kids.length = nk := ⟨_, rfl⟩
  rw [hnk] at hrg HNL HK12
  have HNK := Lib.hid hnk
  have hk12 := HK12.out
  clear hnk
  obtain ⟨W, hW⟩ : ∃ W, W = w.alloc (.cells #[.slice (some ⟨b, o, none⟩) T.length c] 32) := ⟨_, rfl⟩
  have HWB : Hid (Bel w W) := hid' (by rw [hW]; exact (Bel.refl w).alloc _)
  have HS : Hid (W.heap.size = w.heap.size + 1) := hid' (by rw [hW]; simp)
  have HK : Hid (∀ u, Bel W u → u.cell? ⟨w.heap.size, 0, none⟩ = some (.slice (some ⟨b, o, none⟩) T.length c)) := hid' (fun u hu => by rw [hu.cell _ _ (by rw [hW]; simp), hW]; simp)
  have HO0 : Hid ((W.alloc (.cells #[] 3)).ownsRow W.heap.size 3 1 (.slice (some ⟨W.heap.size, 0, none⟩) 0 0) (sorted (orderOf T) (flowTo T j 0)).length (VI (sorted (orderOf T) (flowTo T j 0)))) := hid' (by
    exact World.ownsRow_lit (e := 3) W #[] 0 (Nat.le_refl _) (by unfold maxLen; omega) rfl)
  have HRG := Lib.hid hrg
  have HKI := Lib.hid hKI
  clear hrg hKI hok hkr
  have hb0 : Bel W (W.alloc (.cells #[] 3)) := (Bel.refl W).alloc _
  go_enter Tryz.func27, Tryz.ntmps27
  go_wp2_with fail
  rw [← hW]
  clear hW
  refine (sTreeOk_c _ _ _ _ (h.keep (HWB.out.trans hb0)) (by omega) HKR.out).mono ?_; rintro e w1 ⟨rfl, hb1⟩
  rw [HOK.out]
  have hb01 := hb0.trans hb1
  have hc1 := HK.out _ hb01
  go_wp2_with fail
  refine (sIsNode_c _ _ _ _ _).mono ?_; rintro e w2 ⟨rfl, hb2⟩
  rw [HNN.out]
  have hb02 := hb01.trans hb2
  have hc2 := HK.out _ hb02
  have HO2 := hid' (own_keep (own_keep HO0.out hb1) hb2)
  go_wp2_with fail
  refine (sNode_at b o c T j K nk ck R (node_ T j).rules.length cr _ (Nat.lt_of_lt_of_le hbl (HWB.out.trans hb02).sz) (range_bel HRG.out (HWB.out.trans hb02) hbl) hj (by omega)).mono ?_; rintro e w4 ⟨rfl, hb4⟩
  have hfu := field_kids (node_ T j) (.slice K nk ck) (.slice R (node_ T j).rules.length cr) w4
  have hb04 := hb02.trans hb4
  have HO4 := hid' (own_keep HO2.out hb4)
  go_wp2_with fail
  clear hfu
  go_loopw [5, 7] (fun v i wr => ∃ (q : Nat), q ≤ nk ∧ i = .int .i64 q ∧ Hid (wr.ownsRow W.heap.size 3 1 v (sorted (orderOf T) (flowTo T j q)).length (VI (sorted (orderOf T) (flowTo T j q)))) ∧ Bel W wr) (fun _ i _ => nk - (intOf i).toNat)
  case atStart => exact ⟨0, Nat.zero_le _, rfl, hid' (by have := HO4.out; rw [HS.out] at this ⊢; exact this), hb04⟩
  case round =>
    obtain ⟨q, hq, rfl, HO, hb⟩ := hrel
    have hc0 := HK.out _ hb
    by_cases hql : q < nk
    · have hqk : q < (node_ T j).kids.length := by rw [HNK.out]; exact hql
      obtain ⟨bk, ok, rfl, hbk, hck⟩ := HKI.out q hqk
      have hcK := ((HWB.out.trans hb).cell _ _ hbk).trans (hck q hqk)
      have hqi : (q : Int) < (nk : Int) := by omega
      obtain ⟨j2, hj2e, hj2⟩ := isNode_split (kid_facts HOK.out hj hqk).1
      have hAP : isFlow T (at_ (node_ T j).kids q) = (!(node_ T j2).style.b 7 && !(node_ T j2).style.b 6) := by rw [hj2e]; unfold isFlow; rw [nd_eq]
      have HAY : Hid (isFlow T (at_ (node_ T j).kids q) = true → sorted (orderOf T) (flowTo T j (q + 1)) = insP (orderOf T) (sorted (orderOf T) (flowTo T j q)) ((j2 : Int) + 1)) := hid' (fun e => by rw [flowTo_yes hqk e, hj2e, sorted_snoc])
      have HAN : Hid (isFlow T (at_ (node_ T j).kids q) = false → sorted (orderOf T) (flowTo T j (q + 1)) = sorted (orderOf T) (flowTo T j q)) := hid' (fun e => by rw [flowTo_no hqk e])
      rw [hAP] at HAY HAN
      rw [hj2e] at hcK
      clear hck hqk hj2e hAP
      obtain ⟨P, hP⟩ : ∃ P, sorted (orderOf T) (flowTo T j q) = P := ⟨_, rfl⟩
      have hle : P.length ≤ 12 := by rw [← hP]; exact HTL.out q
      have HALP : Hid (∀ z ∈ P, isNodeB T z = true) := hid' (fun z hz => HALL.out q z (by rw [hP]; exact hz))
      rw [hP] at HO HAY HAN
      clear hP
      obtain ⟨b', o', K2, ck2, R2, cr2, hA2, hbl2, hrg2, -⟩ := h.open1 hj2
      obtain ⟨rfl, rfl⟩ : b = b' ∧ o = o' := by cases hA2; exact ⟨rfl, rfl⟩
      have HR2 := hid' (range_bel hrg2 (HWB.out.trans hb) hbl)
      clear hrg2 hA2
      obtain ⟨A, cA, rfl, hcA1, hcA2, hA0, hIP⟩ := own_openC HO.out
      have HIPr := Lib.hid hIP
      have HCA := hid' (And.intro hcA1 hA0)
      clear hIP hcA1 hcA2 hA0
      go_wp2_with fail
      have hd0 : Bel wr wr.drew := (Bel.refl wr).drew
      have hdA : Bel wr (wr.alloc (.cells zstyle.toArray 47)).drew := ((Bel.refl wr).alloc _).drew
      unfold zstyle at hdA
      have hal := run_allocStyle
      have HSS : Hid (∀ u, Bel wr u → u.cell? ⟨w.heap.size, 0, none⟩ = some (.slice (some ⟨b, o, none⟩) T.length c) ∧ u.cell? ⟨bk, ok + q, none⟩ = some (.int .i64 ((j2 : Int) + 1))) := hid' (fun u hu => ⟨(hu.cell _ _ (World.block_lt_of_cell? _ _ hc0)).trans hc0, (hu.cell _ _ (World.block_lt_of_cell? _ _ hcK)).trans hcK⟩)
      have hsz60 : (Tryz.prog.info? 47).map (·.size) = some 60 := by kernel_rfl
      have hsl60 : (styleL (node_ T j2).style).length = 60 := styleL_length _
      have hone : ∀ v ∈ styleL (node_ T j2).style, v.oneCell' = true := rcells_one _ _
      have hfs : ∀ u : World, (Instr.field 79 (.agg (nodeL (node_ T j2) (.slice K2 (node_ T j2).kids.length ck2) (.slice R2 (node_ T j2).rules.length cr2)).toArray) 2).run Tryz.prog u = .ok (.agg (styleL (node_ T j2).style).toArray) u := fun u => field_style (node_ T j2) _ _ u
      go_region_held3 (fun u => u.cell? ⟨w.heap.size, 0, none⟩ = some (.slice (some ⟨b, o, none⟩) T.length c) ∧ u.cell? ⟨bk, ok + q, none⟩ = some (.int .i64 ((j2 : Int) + 1)))
        ((with_reducible first | exact HSS.out _ hBA2 | exact HSS.out _ hBB2 | exact HSS.out _ hA7 | exact HSS.out _ hb7 | exact HSS.out _ hdA | exact HSS.out _ hd0))
        (first
          | (go_at_call 25; refine (sNode_at b o c T j2 K2 _ ck2 R2 _ cr2 _ (Nat.lt_of_lt_of_le hbl ((HWB.out.trans hb).trans hd0).sz) (range_bel HR2.out hd0 (Nat.lt_of_lt_of_le hbl (HWB.out.trans hb).sz)) hj2 (by omega)).mono ?_; rintro e w7 ⟨rfl, hb7'⟩
             have hb7 := hd0.trans hb7'
             have hBA := boxA (r := (node_ T j2).style) hb7
             have hA7 := hb7.alloc (.cells zstyle.toArray 47)
             have hBA2 := hBA.bel
             unfold zstyle at hBA hA7 hBA2
             have htA := run_storeS (node_ T j2).style (there_allocS w7)
             unfold zstyle at htA)
          | (go_at_call 25; refine (sNode_at b o c T j2 K2 _ ck2 R2 _ cr2 _ (Nat.lt_of_lt_of_le hbl ((HWB.out.trans hb).trans hdA).sz) (range_bel HR2.out hdA (Nat.lt_of_lt_of_le hbl (HWB.out.trans hb).sz)) hj2 (by omega)).mono ?_; rintro e w7 ⟨rfl, hb7'⟩
             have hb7 := hdA.trans hb7'
             have hBB : StyleBox wr (w7.setCells wr.heap.size 0 (styleL (node_ T j2).style)) wr.heap.size (node_ T j2).style := (boxB (r := (node_ T j2).style) hb7').1
             have hBB2 := hBB.bel
             have htB : (storeCells ⟨wr.heap.size, 0, none⟩ (styleL (node_ T j2).style)).run Tryz.prog w7 = .ok () (w7.setCells wr.heap.size 0 (styleL (node_ T j2).style)) := run_storeS (node_ T j2).style (boxB (r := (node_ T j2).style) hb7').2))
      all_goals
        (first | have HBX := hBA | have HBX := hBB)
        obtain ⟨g8, w4, hg8, hw4, HB4⟩ := sbox_ex HBX
        rw [← hw4]
        rw [← hg8]
        replace HB4 := Lib.hid HB4
        have hb4 := hb.trans HB4.out.bel
        have HO4 := hid' (own_keep HO.out HB4.out.bel)
        have c6 := HB4.out.cell (Bel.refl _) (style_b6 _)
        have c7 := HB4.out.cell (Bel.refl _) (style_b7 _)
        have hcK4 := (HSS.out _ HB4.out.bel).2
        have HCK4 : Hid (∀ u, Bel w4 u → u.cell? ⟨bk, ok + q, none⟩ = some (.int .i64 ((j2 : Int) + 1))) := hid' (fun u hu => (HSS.out _ (HB4.out.bel.trans hu)).2)
        have HCB4 : Hid (∀ u, Bel w4 u → u.cell? ⟨w.heap.size, 0, none⟩ = some (.slice (some ⟨b, o, none⟩) T.length c)) := hid' (fun u hu => (HSS.out _ (HB4.out.bel.trans hu)).1)
        have HBW4 := Lib.hid hb4
        have HIP := hid' (HIPr.out.keep HB4.out.bel)
        clear hfs hal hsz60 hsl60 hone hdA hd0 HBX hg8 hw4
        clear hc0 hcK
        cases h7 : (node_ T j2).style.b 7
        · rw [h7] at c7
          cases h6 : (node_ T j2).style.b 6
          · rw [h6] at c6
            have HNX : Hid (sorted (orderOf T) (flowTo T j (q + 1)) = insF P (insPos (orderOf T) P ((j2 : Int) + 1) P.length) ((j2 : Int) + 1)) := hid' (HAY.out (by rw [h7, h6]; rfl))
            clear h6 h7
            go_wp2_with fail
            clear c6 c7 hcK4
            go_loopw [9] (fun va wr2 => ∃ (a : Nat), a ≤ P.length ∧ va = .int .i64 a ∧ Hid (insPos (orderOf T) P ((j2 : Int) + 1) a = insPos (orderOf T) P ((j2 : Int) + 1) P.length) ∧ Bel w4 wr2) (fun va _ => (intOf va).toNat)
            case atStart => exact ⟨P.length, Nat.le_refl _, rfl, hid' rfl, Bel.refl w4⟩
            case round =>
              obtain ⟨a, ha, rfl, HPA, hb5⟩ := hrel
              by_cases ha0 : 0 < a
              · obtain ⟨a', rfl⟩ : ∃ a', a = a' + 1 := ⟨a - 1, by omega⟩
                obtain ⟨p, hpe, hpl⟩ := isNode_split (HALP.out _ (at_mem (show a' < P.length by omega)))
                obtain ⟨bA, oA, rfl, hbA, hcA⟩ := HIP.out a' (by omega)
                have HW5 := hid' (HWB.out.trans (HBW4.out.trans hb5))
                obtain ⟨b3, o3, K3, ck3, R3, cr3, hA3, hbl3, hrg3, -⟩ := h.open1 hpl
                obtain ⟨rfl, rfl⟩ : b = b3 ∧ o = o3 := by cases hA3; exact ⟨rfl, rfl⟩
                have HR3 := hid' (range_bel hrg3 HW5.out hbl)
                have hbl5 : b < wr.heap.size := Nat.lt_of_lt_of_le hbl HW5.out.sz
                have e0 := HCB4.out _ hb5
                have e1 : wr.cell? ⟨bA, oA + a', none⟩ = some (.int .i64 ((p : Int) + 1)) := (hb5.cell _ _ hbA).trans (by rw [hcA a' (by omega), hpe])
                have e8 : wr.cell? ⟨g8, 8, none⟩ = some (.int .i64 ((node_ T j2).style.s 8)) := HB4.out.cell hb5 (style_i8 _)
                have HSI : Hid (∀ u, Bel wr u → u.cell? ⟨w.heap.size, 0, none⟩ = some (.slice (some ⟨b, o, none⟩) T.length c) ∧ u.cell? ⟨bA, oA + a', none⟩ = some (.int .i64 ((p : Int) + 1)) ∧ u.cell? ⟨g8, 8, none⟩ = some (.int .i64 ((node_ T j2).style.s 8))) :=
                  hid' (fun u hu => ⟨(hu.cell _ _ (World.block_lt_of_cell? _ _ e0)).trans e0, (hu.cell _ _ (World.block_lt_of_cell? _ _ e1)).trans e1, (hu.cell _ _ (World.block_lt_of_cell? _ _ e8)).trans e8⟩)
                have HPS : Hid (insPos (orderOf T) P ((j2 : Int) + 1) (a' + 1) = if (node_ T j2).style.s 8 < (node_ T p).style.s 8 then insPos (orderOf T) P ((j2 : Int) + 1) a' else a' + 1) := hid' (by
                  conv => lhs; unfold insPos
                  rw [hpe, order_eq, order_eq])
                have hfp : ∀ u : World, (Instr.field 79 (.agg (nodeL (node_ T p) (.slice K3 (node_ T p).kids.length ck3) (.slice R3 (node_ T p).rules.length cr3)).toArray) 2).run Tryz.prog u = .ok (styleV (node_ T p).style) u := fun u => field_style (node_ T p) _ _ u
                have hop : ∀ u : World, (Instr.field 47 (styleV (node_ T p).style) 8).run Tryz.prog u = .ok (.int .i64 ((node_ T p).style.s 8)) u := fun u => field_order _ u
                have hd0 : Bel wr wr.drew := (Bel.refl wr).drew
                have ea : ((a' + 1 : Nat) : Int) = (a' : Int) + 1 := by omega
                rw [ea]
                have hgt : (0 : Int) < (a' : Int) + 1 := by omega
                have hw1 : IntKind.i64.wrap ((a' : Int) + 1 - 1) = (a' : Int) := by rw [IntWalk.i64_in _ (by omega)]; omega
                have hw2 : IntKind.i64.wrap (a' : Int) = (a' : Int) := IntWalk.i64_in _ (by omega)
                have ha00 : (0 : Int) ≤ (a' : Int) := Int.natCast_nonneg a'
                have haL : (a' : Int) < (P.length : Int) := by omega
                clear ea hpe hcA hrg3 hA3 ha0
                by_cases hord : (node_ T j2).style.s 8 < (node_ T p).style.s 8
                · have HPT : Hid (insPos (orderOf T) P ((j2 : Int) + 1) a' = insPos (orderOf T) P ((j2 : Int) + 1) P.length) := hid' (by rw [← HPA.out, HPS.out, if_pos hord])
                  go_wp2_with fail
                  go_region_held3 (fun u => u.cell? ⟨w.heap.size, 0, none⟩ = some (.slice (some ⟨b, o, none⟩) T.length c) ∧ u.cell? ⟨bA, oA + a', none⟩ = some (.int .i64 ((p : Int) + 1)) ∧ u.cell? ⟨g8, 8, none⟩ = some (.int .i64 ((node_ T j2).style.s 8)))
                    ((with_reducible first | exact HSI.out _ hb10 | exact HSI.out _ hd0))
                    ((go_at_call 25; refine (sNode_at b o c T p K3 _ ck3 R3 _ cr3 _ (Nat.lt_of_lt_of_le hbl5 hd0.sz) (range_bel HR3.out hd0 hbl5) hpl (by omega)).mono ?_; rintro e w10 ⟨rfl, hbn⟩; have hb10 := hd0.trans hbn; clear hbn))
                  all_goals
                    clear hw1 hw2 hfp hop hd0 e0 e1 e8
                    go_wp2_with fail
                    go_roundw
                    case rel => exact ⟨a', by omega, by go_num, HPT, hb5.trans hb10⟩
                    case measure => (simp [intOf]; try omega)
                · have HPT : Hid (insPos (orderOf T) P ((j2 : Int) + 1) P.length = a' + 1) := hid' (by rw [← HPA.out, HPS.out, if_neg hord])
                  go_wp2_with fail
                  go_region_held3 (fun u => u.cell? ⟨w.heap.size, 0, none⟩ = some (.slice (some ⟨b, o, none⟩) T.length c) ∧ u.cell? ⟨bA, oA + a', none⟩ = some (.int .i64 ((p : Int) + 1)) ∧ u.cell? ⟨g8, 8, none⟩ = some (.int .i64 ((node_ T j2).style.s 8)))
                    ((with_reducible first | exact HSI.out _ hb10 | exact HSI.out _ hd0))
                    ((go_at_call 25; refine (sNode_at b o c T p K3 _ ck3 R3 _ cr3 _ (Nat.lt_of_lt_of_le hbl5 hd0.sz) (range_bel HR3.out hd0 hbl5) hpl (by omega)).mono ?_; rintro e w10 ⟨rfl, hbn⟩; have hb10 := hd0.trans hbn; clear hbn))
                  all_goals
                    clear hw1 hw2 hfp hop hd0 e0 e1 e8 hgt
                    have HPA := HPT
                    have HB10 := hid' (hb5.trans hb10)
                    clear HPS HSI haL
                    obtain ⟨la, hla⟩ : ∃ la, P.take (a' + 1) = la := ⟨_, rfl⟩
                    obtain ⟨lb, hlb⟩ : ∃ lb, P.drop (a' + 1) = lb := ⟨_, rfl⟩
                    have HLA : Hid (la.length = (a' + 1)) := hid' (by rw [← hla, List.length_take]; omega)
                    have HLB : Hid (lb.length = P.length - (a' + 1)) := hid' (by rw [← hlb, List.length_drop])
                    have HIA : Hid (Ints w10 (some ⟨bA, oA, none⟩) la) := hid' (by rw [← hla]; exact cut_take (HIP.out.keep HB10.out) (a' + 1))
                    have HIB : Hid (Ints w10 (cutO (some ⟨bA, oA, none⟩) (a' + 1) cA) lb) := hid' (by rw [← hlb]; exact cut_dropO (HIP.out.keep HB10.out) HCA.out.1)
                    have HIL : Hid (sorted (orderOf T) (flowTo T j (q + 1)) = la ++ [(j2 : Int) + 1] ++ lb) := hid' (by rw [HNX.out, HPA.out, ← hla, ← hlb, insF_parts])
                    have hs1 : ∀ u, (Instr.slice 48 (.slice (some ⟨bA, oA, none⟩) P.length cA) none (some (.int .i64 ((a' : Int) + 1))) none).run Tryz.prog u = .ok (.slice (some ⟨bA, oA, none⟩) la.length cA) u := fun u => by rw [HLA.out]; exact run_cutH 48 elem_ints size_int (some ⟨bA, oA, none⟩) P.length cA (a' + 1) ha HCA.out.1 u
                    have hs2 : ∀ u, (Instr.slice 48 (.slice (some ⟨bA, oA, none⟩) P.length cA) (some (.int .i64 ((a' : Int) + 1))) none none).run Tryz.prog u = .ok (.slice (cutO (some ⟨bA, oA, none⟩) (a' + 1) cA) lb.length (cA - (a' + 1))) u := fun u => by rw [HLB.out]; exact run_cutL 48 elem_ints size_int (some ⟨bA, oA, none⟩) P.length cA (a' + 1) ha u
                    have HL20 : Hid (la.length ≤ 12 ∧ lb.length ≤ 12) := hid' ⟨by rw [HLA.out]; omega, by rw [HLB.out]; omega⟩
                    have HBW10 : Hid (Bel W w10) := hid' (HBW4.out.trans HB10.out)
                    have HCK : Hid (∀ u, Bel w10 u → u.cell? ⟨bk, ok + q, none⟩ = some (.int .i64 ((j2 : Int) + 1))) := hid' (fun u hu => HCK4.out _ (HB10.out.trans hu))
                    have hcK10 := HCK.out _ (Bel.refl w10)
                    have hd0 : Bel w10 w10.drew := (Bel.refl w10).drew
                    clear hla hlb
                    go_wp2_with fail
                    have hX1 : Bel w10 (w10.alloc (.cells #[.int .i64 ((j2 : Int) + 1)] 3)).drew := ((Bel.refl w10).alloc _).drew
                    have hE1 : Bel w10 (w10.alloc (.cells #[] 3)).drew := ((Bel.refl w10).alloc _).drew
                    have hEX : Bel w10 ((w10.alloc (.cells #[] 3)).alloc (.cells #[.int .i64 ((j2 : Int) + 1)] 3)).drew := (((Bel.refl w10).alloc _).alloc _).drew
                    have hXE : Bel w10 ((w10.alloc (.cells #[.int .i64 ((j2 : Int) + 1)] 3)).alloc (.cells #[] 3)).drew := (((Bel.refl w10).alloc _).alloc _).drew
                    have OL : Hid ((w10.alloc (.cells #[] 3)).ownsRow w10.heap.size 3 1 (.slice (some ⟨w10.heap.size, 0, none⟩) 0 0) 0 []) := hid' (World.ownsRow_lit (e := 3) w10 #[] 0 (Nat.le_refl _) (by unfold maxLen; omega) rfl)
                    have OE1 := hid' (own_keep OL.out ((Bel.refl _).drew))
                    have OEX := hid' (own_keep OL.out (((Bel.refl _).alloc (.cells #[.int .i64 ((j2 : Int) + 1)] 3)).drew))
                    have OXE : Hid (((w10.alloc (.cells #[.int .i64 ((j2 : Int) + 1)] 3)).alloc (.cells #[] 3)).drew.ownsRow w10.heap.size 3 1 (.slice (some ⟨w10.heap.size + 1, 0, none⟩) 0 0) 0 []) := hid' (by
                      have h0 := World.ownsRow_lit (e := 3) (size := 1) (w10.alloc (.cells #[.int .i64 ((j2 : Int) + 1)] 3)) #[] 0 (Nat.le_refl _) (by unfold maxLen; omega) rfl
                      have hz : (w10.alloc (.cells #[.int .i64 ((j2 : Int) + 1)] 3)).heap.size = w10.heap.size + 1 := by simp
                      rw [hz] at h0
                      exact own_low (own_keep h0 ((Bel.refl _).drew)) (by omega))
                    have CEX : Hid (((w10.alloc (.cells #[] 3)).alloc (.cells #[.int .i64 ((j2 : Int) + 1)] 3)).drew.cell? ⟨w10.heap.size + 1, 0, none⟩ = some (.int .i64 ((j2 : Int) + 1))) := hid' (by
                      have h0 := (new_cell1 (w10.alloc (.cells #[] 3)) (.int .i64 ((j2 : Int) + 1)) 3).1
                      have hz : (w10.alloc (.cells #[] 3)).heap.size = w10.heap.size + 1 := by simp
                      rw [hz] at h0
                      exact h0)
                    have CXE : Hid (((w10.alloc (.cells #[.int .i64 ((j2 : Int) + 1)] 3)).alloc (.cells #[] 3)).drew.cell? ⟨w10.heap.size, 0, none⟩ = some (.int .i64 ((j2 : Int) + 1))) := hid' (by
                      have h0 := (new_cell1 w10 (.int .i64 ((j2 : Int) + 1)) 3).1
                      exact ((((Bel.refl (w10.alloc (.cells #[.int .i64 ((j2 : Int) + 1)] 3))).alloc (.cells #[] 3)).drew).cell _ _ (by simp)).trans h0)
                    refine wp_join [10, 65, 66, 67, 68, 69, 70, 71, 72, 73, 74, 75] (fun y u => ∃ g9 c9, y 10 = .slice (some ⟨g9, 0, none⟩) (la.length + 1) c9 ∧ Hid (u.ownsRow w10.heap.size 3 1 (.slice (some ⟨g9, 0, none⟩) (la.length + 1) c9) (la.length + 1) (VI la ++ VI [(j2 : Int) + 1])) ∧ Bel w10 u) ?_ ?_
                    · go_region_held3 (fun u => u.cell? ⟨bk, ok + q, none⟩ = some (.int .i64 ((j2 : Int) + 1)))
                        ((with_reducible first | exact HCK.out _ h80 | exact HCK.out _ h79 | exact HCK.out _ h77 | exact HCK.out _ hEX | exact HCK.out _ hXE | exact HCK.out _ hE1 | exact HCK.out _ hX1 | exact HCK.out _ hd0))
                        (first
                          | (refine step_appS rfl (.tmp 65) (.tmp 68) rfl w10.heap.size _ 0 [] rfl OE1.out (some ⟨bA, oA, none⟩) cA la rfl (HIA.out.keep hE1) HCA.out.2 (by have := HL20.out; omega) hE1.sz ?_; intro v1 u1 ho1 hg1
                             have h77 : Bel w10 u1 := hE1.own (Nat.le_refl _) OE1.out hg1
                             rw [Nat.zero_add, List.nil_append] at ho1
                             have HO1 : Hid (u1.ownsRow w10.heap.size 3 1 v1 la.length (VI la)) := hid' ho1
                             have h79 : Bel w10 (u1.alloc (.cells #[.int .i64 ((j2 : Int) + 1)] 3)) := h77.alloc _
                             have x79 : Hid ((u1.alloc (.cells #[.int .i64 ((j2 : Int) + 1)] 3)).cell? ⟨u1.heap.size, 0, none⟩ = some (.int .i64 ((j2 : Int) + 1))) := hid' (new_cell1 _ _ _).1
                             clear ho1 hg1)
                          | (refine step_appS rfl (.tmp 65) (.tmp 68) rfl w10.heap.size _ 0 [] rfl OEX.out (some ⟨bA, oA, none⟩) cA la rfl (HIA.out.keep hEX) HCA.out.2 (by have := HL20.out; omega) hEX.sz ?_; intro v1 u1 ho1 hg1
                             have h77 : Bel w10 u1 := hEX.own (Nat.le_refl _) OEX.out hg1
                             rw [Nat.zero_add, List.nil_append] at ho1
                             have HO1 : Hid (u1.ownsRow w10.heap.size 3 1 v1 la.length (VI la)) := hid' ho1
                             have z79 : Hid (u1.cell? ⟨w10.heap.size + 1, 0, none⟩ = some (.int .i64 ((j2 : Int) + 1))) := hid' ((World.grownBy.cell_far hg1 ⟨w10.heap.size + 1, 0, none⟩ (World.block_lt_of_cell? _ _ CEX.out) (fun e => by have e2 : w10.heap.size + 1 = w10.heap.size := Option.some.inj e; omega)).trans CEX.out)
                             clear ho1 hg1)
                          | (refine step_appS rfl (.tmp 65) (.tmp 68) rfl w10.heap.size _ 0 [] rfl OXE.out (some ⟨bA, oA, none⟩) cA la rfl (HIA.out.keep hXE) HCA.out.2 (by have := HL20.out; omega) hXE.sz ?_; intro v1 u1 ho1 hg1
                             have h77 : Bel w10 u1 := hXE.own (Nat.le_refl _) OXE.out hg1
                             rw [Nat.zero_add, List.nil_append] at ho1
                             have HO1 : Hid (u1.ownsRow w10.heap.size 3 1 v1 la.length (VI la)) := hid' ho1
                             have y79 : Hid (u1.cell? ⟨w10.heap.size, 0, none⟩ = some (.int .i64 ((j2 : Int) + 1))) := hid' ((World.grownBy.cell_far hg1 ⟨w10.heap.size, 0, none⟩ (World.block_lt_of_cell? _ _ CXE.out) (fun e => by have e2 : w10.heap.size = w10.heap.size + 1 := Option.some.inj e; omega)).trans CXE.out)
                             clear ho1 hg1)
                          | (refine step_appS rfl (.tmp 69) (.tmp 74) rfl w10.heap.size _ _ _ rfl (own_keep HO1.out ((Bel.refl u1).alloc _)) (some ⟨u1.heap.size, 0, none⟩) 1 [(j2 : Int) + 1] rfl (ints_one x79.out (by simp)) (fun h => by cases h) (by have := HL20.out; simp; omega) h79.sz ?_; intro v2 u2 ho2 hg2
                             have h80 : Bel w10 u2 := h79.own (Nat.le_refl _) (own_keep HO1.out ((Bel.refl u1).alloc _)) hg2
                             obtain ⟨g2, c2, rfl⟩ := own_pos ho2
                             have HO2 := Lib.hid ho2
                             clear ho2 hg2)
                          | (refine step_appS rfl (.tmp 69) (.tmp 74) rfl w10.heap.size _ _ _ rfl HO1.out (some ⟨w10.heap.size, 0, none⟩) 1 [(j2 : Int) + 1] rfl (ints_one y79.out (World.block_lt_of_cell? _ _ y79.out)) (fun h => by cases h) (by have := HL20.out; simp; omega) h77.sz ?_; intro v2 u2 ho2 hg2
                             have h80 : Bel w10 u2 := h77.own (Nat.le_refl _) HO1.out hg2
                             obtain ⟨g2, c2, rfl⟩ := own_pos ho2
                             have HO2 := Lib.hid ho2
                             clear ho2 hg2)
                          | (refine step_appS rfl (.tmp 69) (.tmp 74) rfl w10.heap.size _ _ _ rfl HO1.out (some ⟨w10.heap.size + 1, 0, none⟩) 1 [(j2 : Int) + 1] rfl (ints_one z79.out (World.block_lt_of_cell? _ _ z79.out)) (fun h => by cases h) (by have := HL20.out; simp; omega) h77.sz ?_; intro v2 u2 ho2 hg2
                             have h80 : Bel w10 u2 := h77.own (Nat.le_refl _) HO1.out hg2
                             obtain ⟨g2, c2, rfl⟩ := own_pos ho2
                             have HO2 := Lib.hid ho2
                             clear ho2 hg2))
                      all_goals exact join_here (by kernel_rfl) ⟨_, _, rfl, HO2, h80⟩
                    rintro y w11 ⟨g9, c9, hy, HO9, hb9⟩
                    have HCK11 := hid' (HCK.out _ hb9)
                    clear hd0 hX1 hE1 hEX hXE hs1 hcK10
                    simp only [setAll, List.foldl_cons, List.foldl_nil, List.setIfInBounds_toArray, List.set_cons_zero, List.set_cons_succ]
                    rw [hy]
                    clear hy
                    go_wp2_with (at_builtin; refine appS rfl (.tmp 76) (.tmp 79) rfl w10.heap.size _ _ _ rfl HO9.out (cutO (some ⟨bA, oA, none⟩) (a' + 1) cA) (cA - (a' + 1)) lb rfl (HIB.out.keep hb9) (cut_none HCA.out.2) (by have := HL20.out; omega) hb9.sz ?_; intro v12 w12 ho12 hg12; have hb12 : Bel w10 w12 := hb9.own (Nat.le_refl _) HO9.out hg12)
                    go_roundw
                    case rel =>
                      refine ⟨q + 1, by omega, by go_num, hid' ?_, HBW10.out.trans hb12⟩
                      rw [VI_app, VI_app, ← HIL.out] at ho12
                      have e2 : la.length + 1 + lb.length = (sorted (orderOf T) (flowTo T j (q + 1))).length := by rw [HIL.out, List.length_append, List.length_append]; rfl
                      rw [← e2]
                      exact own_low ho12 HBW10.out.sz
                    case measure => (simp [intOf]; try omega)
              · obtain rfl : a = 0 := by omega
                go_wp2_with fail
                refine wp_region_quiet_below (by kernel_rfl) (by kernel_rfl) ?_
                repeat (go_big_quiet_step (fail))
                refine wpQuiet_nil ?_
                intro _ hw'
                obtain ⟨⟨dq, osq⟩, hw''⟩ := hw'
                subst hw''
                have hbq : Bel wr (grow (redrawn wr dq) osq) := below_regrown wr dq osq
                generalize grow (redrawn wr dq) osq = wq at hbq ⊢
                obtain ⟨w10, hw10⟩ : ∃ u : World, u = wq := ⟨_, rfl⟩
                subst hw10
                have HB10 := hid' (hb5.trans hbq)
                have HPA0 : Hid (insPos (orderOf T) P ((j2 : Int) + 1) P.length = 0) := hid' (by rw [← HPA.out]; rfl)
                have HPA := HPA0
                obtain ⟨la, hla⟩ : ∃ la, P.take 0 = la := ⟨_, rfl⟩
                obtain ⟨lb, hlb⟩ : ∃ lb, P.drop 0 = lb := ⟨_, rfl⟩
                have HLA : Hid (la.length = 0) := hid' (by rw [← hla, List.length_take]; omega)
                have HLB : Hid (lb.length = P.length - 0) := hid' (by rw [← hlb, List.length_drop])
                have HIA : Hid (Ints w10 A la) := hid' (by rw [← hla]; exact cut_take (HIP.out.keep HB10.out) 0)
                have HIB : Hid (Ints w10 (cutO A 0 cA) lb) := hid' (by rw [← hlb]; exact cut_dropO (HIP.out.keep HB10.out) HCA.out.1)
                have HIL : Hid (sorted (orderOf T) (flowTo T j (q + 1)) = la ++ [(j2 : Int) + 1] ++ lb) := hid' (by rw [HNX.out, HPA.out, ← hla, ← hlb, insF_parts])
                have hs1 : ∀ u, (Instr.slice 48 (.slice A P.length cA) none (some (.int .i64 (0 : Int))) none).run Tryz.prog u = .ok (.slice A la.length cA) u := fun u => by rw [HLA.out]; exact run_cutH 48 elem_ints size_int A P.length cA 0 ha HCA.out.1 u
                have hs2 : ∀ u, (Instr.slice 48 (.slice A P.length cA) (some (.int .i64 (0 : Int))) none none).run Tryz.prog u = .ok (.slice (cutO A 0 cA) lb.length (cA - 0)) u := fun u => by rw [HLB.out]; exact run_cutL 48 elem_ints size_int A P.length cA 0 ha u
                have HL20 : Hid (la.length ≤ 12 ∧ lb.length ≤ 12) := hid' ⟨by rw [HLA.out]; omega, by rw [HLB.out]; omega⟩
                have HBW10 : Hid (Bel W w10) := hid' (HBW4.out.trans HB10.out)
                have HCK : Hid (∀ u, Bel w10 u → u.cell? ⟨bk, ok + q, none⟩ = some (.int .i64 ((j2 : Int) + 1))) := hid' (fun u hu => HCK4.out _ (HB10.out.trans hu))
                have hcK10 := HCK.out _ (Bel.refl w10)
                have hd0 : Bel w10 w10.drew := (Bel.refl w10).drew
                clear hla hlb
                go_wp2_with fail
                have hX1 : Bel w10 (w10.alloc (.cells #[.int .i64 ((j2 : Int) + 1)] 3)).drew := ((Bel.refl w10).alloc _).drew
                have hE1 : Bel w10 (w10.alloc (.cells #[] 3)).drew := ((Bel.refl w10).alloc _).drew
                have hEX : Bel w10 ((w10.alloc (.cells #[] 3)).alloc (.cells #[.int .i64 ((j2 : Int) + 1)] 3)).drew := (((Bel.refl w10).alloc _).alloc _).drew
                have hXE : Bel w10 ((w10.alloc (.cells #[.int .i64 ((j2 : Int) + 1)] 3)).alloc (.cells #[] 3)).drew := (((Bel.refl w10).alloc _).alloc _).drew
                have OL : Hid ((w10.alloc (.cells #[] 3)).ownsRow w10.heap.size 3 1 (.slice (some ⟨w10.heap.size, 0, none⟩) 0 0) 0 []) := hid' (World.ownsRow_lit (e := 3) w10 #[] 0 (Nat.le_refl _) (by unfold maxLen; omega) rfl)
                have OE1 := hid' (own_keep OL.out ((Bel.refl _).drew))
                have OEX := hid' (own_keep OL.out (((Bel.refl _).alloc (.cells #[.int .i64 ((j2 : Int) + 1)] 3)).drew))
                have OXE : Hid (((w10.alloc (.cells #[.int .i64 ((j2 : Int) + 1)] 3)).alloc (.cells #[] 3)).drew.ownsRow w10.heap.size 3 1 (.slice (some ⟨w10.heap.size + 1, 0, none⟩) 0 0) 0 []) := hid' (by
                  have h0 := World.ownsRow_lit (e := 3) (size := 1) (w10.alloc (.cells #[.int .i64 ((j2 : Int) + 1)] 3)) #[] 0 (Nat.le_refl _) (by unfold maxLen; omega) rfl
                  have hz : (w10.alloc (.cells #[.int .i64 ((j2 : Int) + 1)] 3)).heap.size = w10.heap.size + 1 := by simp
                  rw [hz] at h0
                  exact own_low (own_keep h0 ((Bel.refl _).drew)) (by omega))
                have CEX : Hid (((w10.alloc (.cells #[] 3)).alloc (.cells #[.int .i64 ((j2 : Int) + 1)] 3)).drew.cell? ⟨w10.heap.size + 1, 0, none⟩ = some (.int .i64 ((j2 : Int) + 1))) := hid' (by
                  have h0 := (new_cell1 (w10.alloc (.cells #[] 3)) (.int .i64 ((j2 : Int) + 1)) 3).1
                  have hz : (w10.alloc (.cells #[] 3)).heap.size = w10.heap.size + 1 := by simp
                  rw [hz] at h0
                  exact h0)
                have CXE : Hid (((w10.alloc (.cells #[.int .i64 ((j2 : Int) + 1)] 3)).alloc (.cells #[] 3)).drew.cell? ⟨w10.heap.size, 0, none⟩ = some (.int .i64 ((j2 : Int) + 1))) := hid' (by
                  have h0 := (new_cell1 w10 (.int .i64 ((j2 : Int) + 1)) 3).1
                  exact ((((Bel.refl (w10.alloc (.cells #[.int .i64 ((j2 : Int) + 1)] 3))).alloc (.cells #[] 3)).drew).cell _ _ (by simp)).trans h0)
                refine wp_join [10, 65, 66, 67, 68, 69, 70, 71, 72, 73, 74, 75] (fun y u => ∃ g9 c9, y 10 = .slice (some ⟨g9, 0, none⟩) (la.length + 1) c9 ∧ Hid (u.ownsRow w10.heap.size 3 1 (.slice (some ⟨g9, 0, none⟩) (la.length + 1) c9) (la.length + 1) (VI la ++ VI [(j2 : Int) + 1])) ∧ Bel w10 u) ?_ ?_
                · go_region_held3 (fun u => u.cell? ⟨bk, ok + q, none⟩ = some (.int .i64 ((j2 : Int) + 1)))
                    ((with_reducible first | exact HCK.out _ h80 | exact HCK.out _ h79 | exact HCK.out _ h77 | exact HCK.out _ hEX | exact HCK.out _ hXE | exact HCK.out _ hE1 | exact HCK.out _ hX1 | exact HCK.out _ hd0))
                    (first
                      | (refine step_appS rfl (.tmp 65) (.tmp 68) rfl w10.heap.size _ 0 [] rfl OE1.out A cA la rfl (HIA.out.keep hE1) HCA.out.2 (by have := HL20.out; omega) hE1.sz ?_; intro v1 u1 ho1 hg1
                         have h77 : Bel w10 u1 := hE1.own (Nat.le_refl _) OE1.out hg1
                         rw [Nat.zero_add, List.nil_append] at ho1
                         have HO1 : Hid (u1.ownsRow w10.heap.size 3 1 v1 la.length (VI la)) := hid' ho1
                         have h79 : Bel w10 (u1.alloc (.cells #[.int .i64 ((j2 : Int) + 1)] 3)) := h77.alloc _
                         have x79 : Hid ((u1.alloc (.cells #[.int .i64 ((j2 : Int) + 1)] 3)).cell? ⟨u1.heap.size, 0, none⟩ = some (.int .i64 ((j2 : Int) + 1))) := hid' (new_cell1 _ _ _).1
                         clear ho1 hg1)
                      | (refine step_appS rfl (.tmp 65) (.tmp 68) rfl w10.heap.size _ 0 [] rfl OEX.out A cA la rfl (HIA.out.keep hEX) HCA.out.2 (by have := HL20.out; omega) hEX.sz ?_; intro v1 u1 ho1 hg1
                         have h77 : Bel w10 u1 := hEX.own (Nat.le_refl _) OEX.out hg1
                         rw [Nat.zero_add, List.nil_append] at ho1
                         have HO1 : Hid (u1.ownsRow w10.heap.size 3 1 v1 la.length (VI la)) := hid' ho1
                         have z79 : Hid (u1.cell? ⟨w10.heap.size + 1, 0, none⟩ = some (.int .i64 ((j2 : Int) + 1))) := hid' ((World.grownBy.cell_far hg1 ⟨w10.heap.size + 1, 0, none⟩ (World.block_lt_of_cell? _ _ CEX.out) (fun e => by have e2 : w10.heap.size + 1 = w10.heap.size := Option.some.inj e; omega)).trans CEX.out)
                         clear ho1 hg1)
                      | (refine step_appS rfl (.tmp 65) (.tmp 68) rfl w10.heap.size _ 0 [] rfl OXE.out A cA la rfl (HIA.out.keep hXE) HCA.out.2 (by have := HL20.out; omega) hXE.sz ?_; intro v1 u1 ho1 hg1
                         have h77 : Bel w10 u1 := hXE.own (Nat.le_refl _) OXE.out hg1
                         rw [Nat.zero_add, List.nil_append] at ho1
                         have HO1 : Hid (u1.ownsRow w10.heap.size 3 1 v1 la.length (VI la)) := hid' ho1
                         have y79 : Hid (u1.cell? ⟨w10.heap.size, 0, none⟩ = some (.int .i64 ((j2 : Int) + 1))) := hid' ((World.grownBy.cell_far hg1 ⟨w10.heap.size, 0, none⟩ (World.block_lt_of_cell? _ _ CXE.out) (fun e => by have e2 : w10.heap.size = w10.heap.size + 1 := Option.some.inj e; omega)).trans CXE.out)
                         clear ho1 hg1)
                      | (refine step_appS rfl (.tmp 69) (.tmp 74) rfl w10.heap.size _ _ _ rfl (own_keep HO1.out ((Bel.refl u1).alloc _)) (some ⟨u1.heap.size, 0, none⟩) 1 [(j2 : Int) + 1] rfl (ints_one x79.out (by simp)) (fun h => by cases h) (by have := HL20.out; simp; omega) h79.sz ?_; intro v2 u2 ho2 hg2
                         have h80 : Bel w10 u2 := h79.own (Nat.le_refl _) (own_keep HO1.out ((Bel.refl u1).alloc _)) hg2
                         obtain ⟨g2, c2, rfl⟩ := own_pos ho2
                         have HO2 := Lib.hid ho2
                         clear ho2 hg2)
                      | (refine step_appS rfl (.tmp 69) (.tmp 74) rfl w10.heap.size _ _ _ rfl HO1.out (some ⟨w10.heap.size, 0, none⟩) 1 [(j2 : Int) + 1] rfl (ints_one y79.out (World.block_lt_of_cell? _ _ y79.out)) (fun h => by cases h) (by have := HL20.out; simp; omega) h77.sz ?_; intro v2 u2 ho2 hg2
                         have h80 : Bel w10 u2 := h77.own (Nat.le_refl _) HO1.out hg2
                         obtain ⟨g2, c2, rfl⟩ := own_pos ho2
                         have HO2 := Lib.hid ho2
                         clear ho2 hg2)
                      | (refine step_appS rfl (.tmp 69) (.tmp 74) rfl w10.heap.size _ _ _ rfl HO1.out (some ⟨w10.heap.size + 1, 0, none⟩) 1 [(j2 : Int) + 1] rfl (ints_one z79.out (World.block_lt_of_cell? _ _ z79.out)) (fun h => by cases h) (by have := HL20.out; simp; omega) h77.sz ?_; intro v2 u2 ho2 hg2
                         have h80 : Bel w10 u2 := h77.own (Nat.le_refl _) HO1.out hg2
                         obtain ⟨g2, c2, rfl⟩ := own_pos ho2
                         have HO2 := Lib.hid ho2
                         clear ho2 hg2))
                  all_goals exact join_here (by kernel_rfl) ⟨_, _, rfl, HO2, h80⟩
                rintro y w11 ⟨g9, c9, hy, HO9, hb9⟩
                have HCK11 := hid' (HCK.out _ hb9)
                clear hd0 hX1 hE1 hEX hXE hs1 hcK10
                simp only [setAll, List.foldl_cons, List.foldl_nil, List.setIfInBounds_toArray, List.set_cons_zero, List.set_cons_succ]
                rw [hy]
                clear hy
                go_wp2_with (at_builtin; refine appS rfl (.tmp 76) (.tmp 79) rfl w10.heap.size _ _ _ rfl HO9.out (cutO A 0 cA) (cA - 0) lb rfl (HIB.out.keep hb9) (cut_none HCA.out.2) (by have := HL20.out; omega) hb9.sz ?_; intro v12 w12 ho12 hg12; have hb12 : Bel w10 w12 := hb9.own (Nat.le_refl _) HO9.out hg12)
                go_roundw
                case rel =>
                  refine ⟨q + 1, by omega, by go_num, hid' ?_, HBW10.out.trans hb12⟩
                  rw [VI_app, VI_app, ← HIL.out] at ho12
                  have e2 : la.length + 1 + lb.length = (sorted (orderOf T) (flowTo T j (q + 1))).length := by rw [HIL.out, List.length_append, List.length_append]; rfl
                  rw [← e2]
                  exact own_low ho12 HBW10.out.sz
                case measure => (simp [intOf]; try omega)
          · rw [h6] at c6
            have HN1 : Hid (sorted (orderOf T) (flowTo T j (q + 1)) = P) := hid' (HAN.out (by rw [h7, h6]; rfl))
            clear h6 h7
            go_wp2_with fail
            go_roundw
            case rel => exact ⟨q + 1, by omega, by go_num, hid' (by rw [HN1.out]; exact HO4.out), hb4⟩
            case measure => (simp [intOf]; try omega)
        · rw [h7] at c7
          have HN1 : Hid (sorted (orderOf T) (flowTo T j (q + 1)) = P) := hid' (HAN.out (by rw [h7]; rfl))
          clear h7
          go_wp2_with fail
          go_roundw
          case rel => exact ⟨q + 1, by omega, by go_num, hid' (by rw [HN1.out]; exact HO4.out), hb4⟩
          case measure => (simp [intOf]; try omega)
    · obtain rfl : nk = q := by omega
      go_wp2_with fail
      go_ret
      exact ⟨_, rfl, by rw [HNL.out]; exact own_low HO.out HWB.out.sz, HWB.out.trans hb⟩
set_option maxRecDepth 100000 in
set_option maxHeartbeats 2000000 in
theorem sFlowKids_c (A : Option Addr) (c : Nat) (T : List NodeD) (n : Int) (w : World) (h : Nodes w A T) (hn : T.length ≤ 1048576) (hkr : ∀ j, j < T.length → (node_ T j).kids.length ≤ 1048576 ∧ (node_ T j).rules.length ≤ 1048576) :
    Calls Tryz.prog 27 #[treeV A T.length c, .int .i64 n] w fun e w' => ∃ v, e = .returned v ∧ w'.ownsRow w.heap.size 3 1 v (flowKids T n).length (VI (flowKids T n)) ∧ Bel w w' := by
  by_cases hall : treeOk T = true ∧ isNodeB T n = true
  · obtain ⟨j, rfl, hj⟩ := isNode_split hall.2
    exact sFlowKids_r A c T j w h hall.1 hj hkr
  · have HR : flowKids T n = [] := by unfold flowKids; rw [if_neg hall]
    rw [HR]
    obtain ⟨W, hW⟩ : ∃ W, W = w.alloc (.cells #[.slice A T.length c] 32) := ⟨_, rfl⟩
    have HWB : Hid (Bel w W) := hid' (by rw [hW]; exact (Bel.refl w).alloc _)
    have HS : Hid (W.heap.size = w.heap.size + 1) := hid' (by rw [hW]; simp)
    have HK : Hid (∀ u, Bel W u → u.cell? ⟨w.heap.size, 0, none⟩ = some (.slice A T.length c)) := hid' (fun u hu => by rw [hu.cell _ _ (by rw [hW]; simp), hW]; simp)
    have HO0 : Hid ((W.alloc (.cells #[] 3)).ownsRow W.heap.size 3 1 (.slice (some ⟨W.heap.size, 0, none⟩) 0 0) 0 (VI [])) := hid' (by
      exact World.ownsRow_lit (e := 3) W #[] 0 (Nat.le_refl _) (by unfold maxLen; omega) rfl)
    have HO0 := hid' (own_low HO0.out (show w.heap.size ≤ W.heap.size from HWB.out.sz))
    rw [HS.out] at HO0
    have HKR := Lib.hid hkr
    clear hkr HR
    have hb0 : Bel W (W.alloc (.cells #[] 3)) := (Bel.refl W).alloc _
    go_enter Tryz.func27, Tryz.ntmps27
    go_wp2_with fail
    rw [← hW]
    clear hW
    refine (sTreeOk_c _ _ _ _ (h.keep (HWB.out.trans hb0)) hn HKR.out).mono ?_; rintro e w1 ⟨rfl, hb1⟩
    have hb01 := hb0.trans hb1
    have hc1 := HK.out _ hb01
    have HO1 := hid' (own_keep HO0.out hb1)
    cases ht : treeOk T
    · clear hall
      go_wp2_with fail
      go_ret
      exact ⟨_, rfl, HO1.out, HWB.out.trans hb01⟩
    · have hnn : isNodeB T n = false := by
        cases hq : isNodeB T n
        · rfl
        · exact absurd ⟨ht, hq⟩ hall
      clear hall ht
      go_wp2_with fail
      refine (sIsNode_c _ _ _ _ _).mono ?_; rintro e w2 ⟨rfl, hb2⟩
      rw [hnn]
      have hb02 := hb01.trans hb2
      have HO2 := hid' (own_keep HO1.out hb2)
      go_wp2_with fail
      go_ret
      exact ⟨_, rfl, HO2.out, HWB.out.trans hb02⟩
end Go.Proofs.YtkoljbndbomhdaaGreat
