/- ApartKids: the wrapper and the reference's text. -/
import Derived.Test.YtcdneamoemmohaaApart
namespace Go.Proofs.Ytcdneamoemmohaa
open Go.RowKit Go.ChangeShapes Go.WideShapes
set_option linter.unusedVariables false
set_option linter.unusedSimpArgs false

/-- the style's box where it is laid behind the call -/
theorem boxA {w w7 : World} {r : Rec} (hb : Bel w w7) : StyleBox w ((w7.alloc (.cells zstyle.toArray 68)).setCells w7.heap.size 0 (styleL r)) w7.heap.size r :=
  StyleBox.put (hb.alloc _) (there_allocS w7) hb.sz (by simp)
/-- and where it is laid ahead of it -/
theorem boxB {w w7 : World} {r : Rec} (hb : Bel (w.alloc (.cells zstyle.toArray 68)).drew w7) : StyleBox w (w7.setCells w.heap.size 0 (styleL r)) w.heap.size r ∧ w7.there w.heap.size 0 60 := by
  have hb' := ((Bel.refl (w.alloc (.cells zstyle.toArray 68))).drew).trans hb
  have ht := there_keep (there_allocS w) hb' (by simp)
  exact ⟨StyleBox.put (((Bel.refl w).alloc _).trans hb') ht (Nat.le_refl _) (by have := hb'.sz; simp at this; omega), ht⟩
theorem run_storeS {w : World} {g : Nat} (r : Rec) (ht : w.there g 0 60) : (storeCells ⟨g, 0, none⟩ (styleL r)).run Try.prog w = .ok () (w.setCells g 0 (styleL r)) := by
  have := run_storeCells_cells (P := Try.prog) g 0 (styleL r) 0 w (fun j hj => (ht j (by rw [styleL_length] at hj; omega)).1) (fun j hj => (ht j (by rw [styleL_length] at hj; omega)).2) (rcells_one _ _)
  simpa using this
set_option maxRecDepth 100000 in
set_option maxHeartbeats 2000000 in
theorem iApartKids_c (A : Option Addr) (c : Nat) (T : List NodeD) (n : Int) (w : World) (h : Nodes w A T) (hn : T.length ≤ 1048576) (hkr : ∀ j, j < T.length → (node_ T j).kids.length ≤ 1048576 ∧ (node_ T j).rules.length ≤ 1048576) :
    Calls Try.prog 21 #[treeV A T.length c, .int .i64 n] w fun e w' => ∃ v, e = .returned v ∧ w'.ownsRow w.heap.size 3 1 v (apartKids T n).length (VI (apartKids T n)) ∧ Bel w w' := by
  obtain ⟨W, hW⟩ : ∃ W, W = w.alloc (.cells #[.slice A T.length c] 30) := ⟨_, rfl⟩
  have HWB : Hid (Bel w W) := hid' (by rw [hW]; exact (Bel.refl w).alloc _)
  have HK : Hid (∀ u, Bel W u → u.cell? ⟨w.heap.size, 0, none⟩ = some (.slice A T.length c)) := hid' (fun u hu => by rw [hu.cell _ _ (by rw [hW]; simp), hW]; simp)
  have HKR := Lib.hid hkr
  clear hkr
  go_enter Try.func21, Try.ntmps21
  go_wp2_with fail
  rw [← hW]
  clear hW
  refine (iTreeOk_c _ _ _ _ (h.keep HWB.out) hn HKR.out).mono ?_; rintro e w1 ⟨rfl, hb1⟩
  have hc1 := HK.out _ hb1
  cases ht : treeOk T
  · have HR : Hid (apartKids T n = []) := hid' (by simp [apartKids, ht])
    go_wp2_with fail
    go_ret
    exact ⟨_, rfl, by rw [HR.out]; exact own_nil _ _ _, HWB.out.trans hb1⟩
  · have HTO := Lib.hid ht
    clear ht
    go_wp2_with fail
    refine (iIsNode_c _ _ _ _ _).mono ?_; rintro e w2 ⟨rfl, hb2⟩
    have hb12 := hb1.trans hb2
    have hc2 := HK.out _ hb12
    cases hnn : isNodeB T n
    · have HR : Hid (apartKids T n = []) := hid' (by simp [apartKids, hnn])
      go_wp2_with fail
      go_ret
      exact ⟨_, rfl, by rw [HR.out]; exact own_nil _ _ _, HWB.out.trans hb12⟩
    · obtain ⟨j, rfl, hj⟩ := isNode_split hnn
      clear hnn
      go_wp2_with fail
      refine (iApartKids_r _ _ T j _ (h.keep (HWB.out.trans hb12)) HTO.out hj).mono ?_; rintro e w3 ⟨v3, rfl, ho3, hb3⟩
      have HO3 := hid' (own_low ho3 (HWB.out.trans hb12).sz)
      clear ho3
      go_wp2_with fail
      go_ret
      exact ⟨_, rfl, HO3.out, HWB.out.trans (hb12.trans hb3)⟩
set_option maxRecDepth 100000 in
set_option maxHeartbeats 4000000 in
theorem sApartKids_r (A : Option Addr) (c : Nat) (T : List NodeD) (j : Nat) (w : World) (h : Nodes w A T) (hok : treeOk T = true) (hj : j < T.length) (hkr : ∀ j, j < T.length → (node_ T j).kids.length ≤ 1048576 ∧ (node_ T j).rules.length ≤ 1048576) :
    Calls Try.prog 20 #[treeV A T.length c, .int .i64 ((j : Int) + 1)] w fun e w' => ∃ v, e = .returned v ∧ w'.ownsRow w.heap.size 3 1 v (apartKids T ((j : Int) + 1)).length (VI (apartKids T ((j : Int) + 1))) ∧ Bel w w' := by
  have h12 := treeOk_len hok
  have HOK := Lib.hid hok
  have HKR := Lib.hid hkr
  obtain ⟨b, o, K, ck, R, cr, rfl, hbl, hrg, hKI⟩ := h.open1 hj
  have HNL := hid' (apartTo_all hok hj)
  obtain ⟨U, hU⟩ : ∃ U, apartKids T ((j : Int) + 1) = U := ⟨_, rfl⟩
  rw [hU] at HNL ⊢
  clear hU
  have HNN : Hid (isNodeB T ((j : Int) + 1) = true) := hid' (isNode_iff.2 (by omega))
  have HK12 := hid' (kids_few hok hj)
  have HTL : Hid (∀ q, (apartTo T j q).length ≤ 12) := hid' (fun q => Nat.le_trans (apartTo_len T j q) HK12.out)
  obtain ⟨nk, hnk⟩ : ∃ nk, (node_ T j).kids.length = nk := ⟨_, rfl⟩
  rw [hnk] at hrg HNL HK12
  have HNK := Lib.hid hnk
  have hk12 := HK12.out
  clear hnk
  obtain ⟨W, hW⟩ : ∃ W, W = w.alloc (.cells #[.slice (some ⟨b, o, none⟩) T.length c] 30) := ⟨_, rfl⟩
  have HWB : Hid (Bel w W) := hid' (by rw [hW]; exact (Bel.refl w).alloc _)
  have HS : Hid (W.heap.size = w.heap.size + 1) := hid' (by rw [hW]; simp)
  have HK : Hid (∀ u, Bel W u → u.cell? ⟨w.heap.size, 0, none⟩ = some (.slice (some ⟨b, o, none⟩) T.length c)) := hid' (fun u hu => by rw [hu.cell _ _ (by rw [hW]; simp), hW]; simp)
  have HO0 : Hid ((W.alloc (.cells #[] 3)).ownsRow W.heap.size 3 1 (.slice (some ⟨W.heap.size, 0, none⟩) 0 0) (apartTo T j 0).length (VI (apartTo T j 0))) := hid' (by
    exact World.ownsRow_lit (e := 3) W #[] 0 (Nat.le_refl _) (by unfold maxLen; omega) rfl)
  have HRG := Lib.hid hrg
  have HKI := Lib.hid hKI
  clear hrg hKI hok hkr
  have hb0 : Bel W (W.alloc (.cells #[] 3)) := (Bel.refl W).alloc _
  go_enter Try.func20, Try.ntmps20
  go_wp2_with fail
  rw [← hW]
  clear hW
  refine (sTreeOk_c _ _ _ _ (h.keep (HWB.out.trans hb0)) (by omega) HKR.out).mono ?_; rintro e w1 ⟨rfl, hb1⟩
  rw [HOK.out]
  have hb01 := hb0.trans hb1
  have hc1 := HK.out _ hb01
  go_wp2_with fail
  refine (sIsNode_c _ _ _ _ _).mono ?_; rintro e w2 ⟨rfl, hb2⟩
  rw [HNN.out]
  have hb02 := hb01.trans hb2
  have hc2 := HK.out _ hb02
  have HO2 := hid' (own_keep (own_keep HO0.out hb1) hb2)
  go_wp2_with fail
  refine (sNode_at b o c T j K nk ck R (node_ T j).rules.length cr _ (Nat.lt_of_lt_of_le hbl (HWB.out.trans hb02).sz) (range_bel HRG.out (HWB.out.trans hb02) hbl) hj (by omega)).mono ?_; rintro e w4 ⟨rfl, hb4⟩
  have hfu := field_kids (node_ T j) (.slice K nk ck) (.slice R (node_ T j).rules.length cr) w4
  have hb04 := hb02.trans hb4
  have HO4 := hid' (own_keep HO2.out hb4)
  go_wp2_with fail
  clear hfu
  go_loopw [5, 7] (fun v i wr => ∃ (q : Nat), q ≤ nk ∧ i = .int .i64 q ∧ Hid (wr.ownsRow W.heap.size 3 1 v (apartTo T j q).length (VI (apartTo T j q))) ∧ Bel W wr) (fun _ i _ => nk - (intOf i).toNat)
  case atStart => exact ⟨0, Nat.zero_le _, rfl, hid' (by have := HO4.out; rw [HS.out] at this ⊢; exact this), hb04⟩
  case round =>
    obtain ⟨q, hq, rfl, HO, hb⟩ := hrel
    have hc0 := HK.out _ hb
    by_cases hql : q < nk
    · have hqk : q < (node_ T j).kids.length := by rw [HNK.out]; exact hql
      obtain ⟨bk, ok, rfl, hbk, hck⟩ := HKI.out q hqk
      have hcK := ((HWB.out.trans hb).cell _ _ hbk).trans (hck q hqk)
      have hqi : (q : Int) < (nk : Int) := by omega
      obtain ⟨j2, hj2e, hj2⟩ := isNode_split (kid_facts HOK.out hj hqk).1
      have hle := HTL.out q
      have hAP : isApart T (at_ (node_ T j).kids q) = (!(node_ T j2).style.b 7 && (node_ T j2).style.b 6) := by rw [hj2e]; unfold isApart; rw [nd_eq]
      have HAY : Hid (isApart T (at_ (node_ T j).kids q) = true → apartTo T j (q + 1) = apartTo T j q ++ [((j2 : Int) + 1)]) := hid' (fun e => by rw [apartTo_yes hqk e, hj2e])
      have HAN : Hid (isApart T (at_ (node_ T j).kids q) = false → apartTo T j (q + 1) = apartTo T j q) := hid' (fun e => apartTo_no hqk e)
      rw [hAP] at HAY HAN
      rw [hj2e] at hcK
      clear hck hqk hj2e hAP
      obtain ⟨b', o', K2, ck2, R2, cr2, hA2, hbl2, hrg2, -⟩ := h.open1 hj2
      obtain ⟨rfl, rfl⟩ : b = b' ∧ o = o' := by cases hA2; exact ⟨rfl, rfl⟩
      have HR2 := hid' (range_bel hrg2 (HWB.out.trans hb) hbl)
      clear hrg2 hA2
      go_wp2_with fail
      have hd0 : Bel wr wr.drew := (Bel.refl wr).drew
      have hdA : Bel wr (wr.alloc (.cells zstyle.toArray 68)).drew := ((Bel.refl wr).alloc _).drew
      unfold zstyle at hdA
      have hal := run_allocStyle
      have HSS : Hid (∀ u, Bel wr u → u.cell? ⟨w.heap.size, 0, none⟩ = some (.slice (some ⟨b, o, none⟩) T.length c) ∧ u.cell? ⟨bk, ok + q, none⟩ = some (.int .i64 ((j2 : Int) + 1))) := hid' (fun u hu => ⟨(hu.cell _ _ (World.block_lt_of_cell? _ _ hc0)).trans hc0, (hu.cell _ _ (World.block_lt_of_cell? _ _ hcK)).trans hcK⟩)
      have hsz60 : (Try.prog.info? 68).map (·.size) = some 60 := by kernel_rfl
      have hsl60 : (styleL (node_ T j2).style).length = 60 := styleL_length _
      have hone : ∀ v ∈ styleL (node_ T j2).style, v.oneCell' = true := rcells_one _ _
      have hfs : ∀ u : World, (Instr.field 77 (.agg (nodeL (node_ T j2) (.slice K2 (node_ T j2).kids.length ck2) (.slice R2 (node_ T j2).rules.length cr2)).toArray) 2).run Try.prog u = .ok (.agg (styleL (node_ T j2).style).toArray) u := fun u => field_style (node_ T j2) _ _ u
      go_region_held3 (fun u => u.cell? ⟨w.heap.size, 0, none⟩ = some (.slice (some ⟨b, o, none⟩) T.length c) ∧ u.cell? ⟨bk, ok + q, none⟩ = some (.int .i64 ((j2 : Int) + 1)))
        ((with_reducible first | exact HSS.out _ hBA2 | exact HSS.out _ hBB2 | exact HSS.out _ hA7 | exact HSS.out _ hb7 | exact HSS.out _ hdA | exact HSS.out _ hd0))
        (first
          | (go_at_call 43; refine (sNode_at b o c T j2 K2 _ ck2 R2 _ cr2 _ (Nat.lt_of_lt_of_le hbl ((HWB.out.trans hb).trans hd0).sz) (range_bel HR2.out hd0 (Nat.lt_of_lt_of_le hbl (HWB.out.trans hb).sz)) hj2 (by omega)).mono ?_; rintro e w7 ⟨rfl, hb7'⟩
             have hb7 := hd0.trans hb7'
             have hBA := boxA (r := (node_ T j2).style) hb7
             have hA7 := hb7.alloc (.cells zstyle.toArray 68)
             have hBA2 := hBA.bel
             unfold zstyle at hBA hA7 hBA2
             have htA := run_storeS (node_ T j2).style (there_allocS w7)
             unfold zstyle at htA)
          | (go_at_call 43; refine (sNode_at b o c T j2 K2 _ ck2 R2 _ cr2 _ (Nat.lt_of_lt_of_le hbl ((HWB.out.trans hb).trans hdA).sz) (range_bel HR2.out hdA (Nat.lt_of_lt_of_le hbl (HWB.out.trans hb).sz)) hj2 (by omega)).mono ?_; rintro e w7 ⟨rfl, hb7'⟩
             have hb7 := hdA.trans hb7'
             have hBB : StyleBox wr (w7.setCells wr.heap.size 0 (styleL (node_ T j2).style)) wr.heap.size (node_ T j2).style := (boxB (r := (node_ T j2).style) hb7').1
             have hBB2 := hBB.bel
             have htB : (storeCells ⟨wr.heap.size, 0, none⟩ (styleL (node_ T j2).style)).run Try.prog w7 = .ok () (w7.setCells wr.heap.size 0 (styleL (node_ T j2).style)) := run_storeS (node_ T j2).style (boxB (r := (node_ T j2).style) hb7').2))
      all_goals
        (first | have HB4 := hid' hBA | have HB4 := hid' hBB)
        have hb4 := hb.trans HB4.out.bel
        have HO4 := hid' (own_keep HO.out HB4.out.bel)
        have c6 := HB4.out.cell (Bel.refl _) (style_b6 _)
        have c7 := HB4.out.cell (Bel.refl _) (style_b7 _)
        have hcK4 := (HSS.out _ HB4.out.bel).2
        clear hfs hal hsz60 hsl60 hone hdA hd0
        cases h7 : (node_ T j2).style.b 7
        · rw [h7] at c7
          cases h6 : (node_ T j2).style.b 6
          · rw [h6] at c6
            have HN1 : Hid (apartTo T j (q + 1) = apartTo T j q) := hid' (HAN.out (by rw [h7, h6]; rfl))
            clear h6 h7
            go_wp2_with fail
            go_roundw
            case rel => exact ⟨q + 1, by omega, by go_num, hid' (by rw [HN1.out]; exact HO4.out), hb4⟩
            case measure => simp [intOf]; omega
          · rw [h6] at c6
            have HN1 : Hid (apartTo T j (q + 1) = apartTo T j q ++ [((j2 : Int) + 1)]) := hid' (HAY.out (by rw [h7, h6]; rfl))
            clear h6 h7
            go_wp2_with (at_builtin; refine app1w rfl (.tmp 44) (.tmp 49) rfl W.heap.size _ _ _ rfl (HO4.out.alloc _) _ _ rfl (World.cell?_alloc_new _ _ _ _) (by omega) (hb4.alloc _).sz ?_; intro v5 w5 ho5 hg5 hv5; have hb5 : Bel W w5 := (hb4.alloc _).own (Nat.le_refl _) (HO4.out.alloc _) hg5; clear hv5)
            go_roundw
            case rel => exact ⟨q + 1, by omega, by go_num, hid' (by rw [HN1.out, List.length_append, ← VI_snoc]; exact ho5), hb5⟩
            case measure => simp [intOf]; omega
        · rw [h7] at c7
          have HN1 : Hid (apartTo T j (q + 1) = apartTo T j q) := hid' (HAN.out (by rw [h7]; rfl))
          clear h7
          go_wp2_with fail
          go_roundw
          case rel => exact ⟨q + 1, by omega, by go_num, hid' (by rw [HN1.out]; exact HO4.out), hb4⟩
          case measure => simp [intOf]; omega
    · obtain rfl : nk = q := by omega
      go_wp2_with fail
      go_ret
      exact ⟨_, rfl, by rw [HNL.out]; exact own_low HO.out HWB.out.sz, HWB.out.trans hb⟩
set_option maxRecDepth 100000 in
set_option maxHeartbeats 2000000 in
theorem sApartKids_c (A : Option Addr) (c : Nat) (T : List NodeD) (n : Int) (w : World) (h : Nodes w A T) (hn : T.length ≤ 1048576) (hkr : ∀ j, j < T.length → (node_ T j).kids.length ≤ 1048576 ∧ (node_ T j).rules.length ≤ 1048576) :
    Calls Try.prog 20 #[treeV A T.length c, .int .i64 n] w fun e w' => ∃ v, e = .returned v ∧ w'.ownsRow w.heap.size 3 1 v (apartKids T n).length (VI (apartKids T n)) ∧ Bel w w' := by
  by_cases hall : treeOk T = true ∧ isNodeB T n = true
  · obtain ⟨j, rfl, hj⟩ := isNode_split hall.2
    exact sApartKids_r A c T j w h hall.1 hj hkr
  · have HR : apartKids T n = [] := by unfold apartKids; rw [if_neg hall]
    rw [HR]
    obtain ⟨W, hW⟩ : ∃ W, W = w.alloc (.cells #[.slice A T.length c] 30) := ⟨_, rfl⟩
    have HWB : Hid (Bel w W) := hid' (by rw [hW]; exact (Bel.refl w).alloc _)
    have HS : Hid (W.heap.size = w.heap.size + 1) := hid' (by rw [hW]; simp)
    have HK : Hid (∀ u, Bel W u → u.cell? ⟨w.heap.size, 0, none⟩ = some (.slice A T.length c)) := hid' (fun u hu => by rw [hu.cell _ _ (by rw [hW]; simp), hW]; simp)
    have HO0 : Hid ((W.alloc (.cells #[] 3)).ownsRow W.heap.size 3 1 (.slice (some ⟨W.heap.size, 0, none⟩) 0 0) 0 (VI [])) := hid' (by
      exact World.ownsRow_lit (e := 3) W #[] 0 (Nat.le_refl _) (by unfold maxLen; omega) rfl)
    have HO0 := hid' (own_low HO0.out (show w.heap.size ≤ W.heap.size from HWB.out.sz))
    rw [HS.out] at HO0
    have HKR := Lib.hid hkr
    clear hkr HR
    have hb0 : Bel W (W.alloc (.cells #[] 3)) := (Bel.refl W).alloc _
    go_enter Try.func20, Try.ntmps20
    go_wp2_with fail
    rw [← hW]
    clear hW
    refine (sTreeOk_c _ _ _ _ (h.keep (HWB.out.trans hb0)) hn HKR.out).mono ?_; rintro e w1 ⟨rfl, hb1⟩
    have hb01 := hb0.trans hb1
    have hc1 := HK.out _ hb01
    have HO1 := hid' (own_keep HO0.out hb1)
    cases ht : treeOk T
    · clear hall
      go_wp2_with fail
      go_ret
      exact ⟨_, rfl, HO1.out, HWB.out.trans hb01⟩
    · have hnn : isNodeB T n = false := by
        cases hq : isNodeB T n
        · rfl
        · exact absurd ⟨ht, hq⟩ hall
      clear hall ht
      go_wp2_with fail
      refine (sIsNode_c _ _ _ _ _).mono ?_; rintro e w2 ⟨rfl, hb2⟩
      rw [hnn]
      have hb02 := hb01.trans hb2
      have HO2 := hid' (own_keep HO1.out hb2)
      go_wp2_with fail
      go_ret
      exact ⟨_, rfl, HO2.out, HWB.out.trans hb02⟩
end Go.Proofs.Ytcdneamoemmohaa
