/- AllUnder, both sides. -/
import Derived.Test.YtcdneamoemmohaaUnder
import Derived.Deep.RegionHeld3
namespace Go.Proofs.Ytcdneamoemmohaa
open Go.RowKit Go.ChangeShapes Go.WideShapes
set_option linter.unusedVariables false
set_option linter.unusedSimpArgs false

set_option maxRecDepth 100000 in
set_option maxHeartbeats 4000000 in
theorem iAllUnder_r (T : List NodeD) (hok : treeOk T = true) : ∀ (f : Nat) (A : Option Addr) (c : Nat) (n : Int) (d : Nat) (w : World) (h : Nodes w A T) (hnn : isNodeB T n = true) (hch : Chain T d n) (hf : f + d = 5),
    Calls Try.prog 47 #[treeV A T.length c, .int .i64 n] w fun e w' => ∃ v, e = .returned v ∧ w'.ownsRow w.heap.size 3 1 v (underL T f n).length (VI (underL T f n)) ∧ Bel w w'
  | 0, A, c, n, d, w, h, hnn, hch, hf => by
    exfalso
    have := chain_le hok hnn hch
    omega
  | f + 1, A, c, n, d, w, h, hnn, hch, hf => by
    have ih := iAllUnder_r T hok f
    have HI := Lib.hid ih
    clear ih
    have hd1 := (chain_le hok hnn hch).1
    have h12 := treeOk_len hok
    have HOK := Lib.hid hok
    obtain ⟨j, rfl, hj⟩ := isNode_split hnn
    obtain ⟨b, o, K, ck, R, cr, rfl, hbl, hrg, hKI⟩ := h.open1 hj
    have HNL : Hid ((underL T (f + 1) ((j : Int) + 1)) = underTo T f j (node_ T j).kids.length) := hid' (underTo_all T f j).symm
    obtain ⟨U, hU⟩ : ∃ U, underL T (f + 1) ((j : Int) + 1) = U := ⟨_, rfl⟩
    rw [hU]
    rw [hU] at HNL
    clear hU
    have HK12 := hid' (kids_few hok hj)
    obtain ⟨nk, hnk⟩ : ∃ nk, (node_ T j).kids.length = nk := ⟨_, rfl⟩
    rw [hnk] at hrg HNL HK12
    have HNK := Lib.hid hnk
    have hk12 := HK12.out
    clear hnk
    obtain ⟨W, hW⟩ : ∃ W, W = w.alloc (.cells #[.slice (some ⟨b, o, none⟩) T.length c] 30) := ⟨_, rfl⟩
    have HWB : Hid (Bel w W) := hid' (by rw [hW]; exact (Bel.refl w).alloc _)
    have HS : Hid (W.heap.size = w.heap.size + 1) := hid' (by rw [hW]; simp)
    have HK : Hid (∀ u, Bel W u → u.cell? ⟨w.heap.size, 0, none⟩ = some (.slice (some ⟨b, o, none⟩) T.length c)) := hid' (fun u hu => by rw [hu.cell _ _ (by rw [hW]; simp), hW]; simp)
    have HO0 : Hid ((W.alloc (.cells #[.int .i64 ((j : Int) + 1)] 3)).ownsRow W.heap.size 3 1 (.slice (some ⟨W.heap.size, 0, none⟩) 1 1) (underTo T f j 0).length (VI (underTo T f j 0))) := hid' (by
      have := World.ownsRow_lit (size := 1) (e := 3) W #[.int .i64 ((j : Int) + 1)] 1 (Nat.le_refl _) (by unfold maxLen; omega) rfl
      simpa [underTo, VI] using this)
    have HRG := Lib.hid hrg
    have HKI := Lib.hid hKI
    have HCH := Lib.hid hch
    clear hrg hKI hch hnn
    go_enter Try.func47, Try.ntmps47
    go_wp2_with fail
    rw [← hW]
    clear hW
    have hb0 : Bel W (W.alloc (.cells #[.int .i64 ((j : Int) + 1)] 3)) := (Bel.refl W).alloc _
    refine (iNode_at b o c T j K nk ck R (node_ T j).rules.length cr _ (Nat.lt_of_lt_of_le hbl (HWB.out.trans hb0).sz) (range_bel HRG.out (HWB.out.trans hb0) hbl) hj (by omega)).mono ?_; rintro e w1 ⟨rfl, hb1⟩
    have hfu := field_kids (node_ T j) (.slice K nk ck) (.slice R (node_ T j).rules.length cr) w1
    have hb01 := hb0.trans hb1
    have HO1 := hid' (own_keep HO0.out hb1)
    go_wp2_with fail
    clear hfu
    go_loopw [5, 15] (fun v i wr => ∃ (q : Nat), q ≤ nk ∧ i = .int .i64 q ∧ Hid (wr.ownsRow W.heap.size 3 1 v (underTo T f j q).length (VI (underTo T f j q))) ∧ Bel W wr) (fun _ i _ => nk - (intOf i).toNat)
    case atStart => exact ⟨0, Nat.zero_le _, rfl, hid' (by have := HO1.out; rw [HS.out] at this ⊢; exact this), hb01⟩
    case round =>
      obtain ⟨q, hq, rfl, HO, hb⟩ := hrel
      have hc0 := HK.out _ hb
      by_cases hql : q < nk
      · have hqk : q < (node_ T j).kids.length := by rw [HNK.out]; exact hql
        obtain ⟨bk, ok, rfl, hbk, hck⟩ := HKI.out q hqk
        have hcK := ((HWB.out.trans hb).cell _ _ hbk).trans (hck q hqk)
        have hqi : (q : Int) < (nk : Int) := by omega
        have HKF := hid' (kid_facts HOK.out hj hqk)
        have HKC := hid' (kid_chain HOK.out hj hqk HCH.out)
        have HL0 := hid' (underTo_len HOK.out hj (f := f) (Nat.le_of_lt hqk) (by omega))
        have HL1 := hid' (underTo_len HOK.out hj (f := f) (q := q + 1) hqk (by omega))
        have HSU := hid' (underTo_succ (T := T) (f := f) hqk)
        clear hck hqk
        go_wp2_with fail
        refine (HI.out _ _ _ _ _ (h.keep (HWB.out.trans hb)) HKF.out.1 HKC.out (by omega)).mono ?_; rintro e w2 ⟨v2, rfl, ho2, hb2⟩
        obtain ⟨A2, c2, rfl, -, -, hA2, hI2⟩ := own_openC ho2
        have hbb := hb.trans hb2
        have HO2 := hid' (own_keep HO.out hb2)
        have hlen : (underTo T f j q).length + (underL T f (at_ (node_ T j).kids q)).length ≤ 4194304 := by have := HL1.out; rw [HSU.out, List.length_append] at this; omega
        clear ho2
        go_wp2_with (at_builtin; refine appS rfl (.tmp 19) (.tmp 22) rfl W.heap.size _ _ _ rfl HO2.out A2 c2 _ rfl hI2 hA2 hlen hbb.sz ?_; intro v' w3 ho3 hg3)
        have hb3 : Bel W w3 := hbb.own (Nat.le_refl _) HO2.out hg3
        go_roundw
        case rel => exact ⟨q + 1, by omega, by go_num, hid' (by rw [HSU.out, List.length_append, ← VI_app]; exact ho3), hb3⟩
        case measure => simp [intOf]; omega
      · obtain rfl : nk = q := by omega
        go_wp2_with fail
        go_ret
        exact ⟨_, rfl, by rw [HNL.out]; exact own_low HO.out (by rw [HS.out]; omega), HWB.out.trans hb⟩
set_option maxRecDepth 100000 in
set_option maxHeartbeats 2000000 in
theorem iAllUnder_c (A : Option Addr) (c : Nat) (T : List NodeD) (n : Int) (w : World) (h : Nodes w A T) (hn : T.length ≤ 1048576) (hkr : ∀ j, j < T.length → (node_ T j).kids.length ≤ 1048576 ∧ (node_ T j).rules.length ≤ 1048576) :
    Calls Try.prog 14 #[treeV A T.length c, .int .i64 n] w fun e w' => ∃ v, e = .returned v ∧ w'.ownsRow w.heap.size 3 1 v (allUnder T n).length (VI (allUnder T n)) ∧ Bel w w' := by
  obtain ⟨W, hW⟩ : ∃ W, W = w.alloc (.cells #[.slice A T.length c] 30) := ⟨_, rfl⟩
  have HWB : Hid (Bel w W) := hid' (by rw [hW]; exact (Bel.refl w).alloc _)
  have HK : Hid (∀ u, Bel W u → u.cell? ⟨w.heap.size, 0, none⟩ = some (.slice A T.length c)) := hid' (fun u hu => by rw [hu.cell _ _ (by rw [hW]; simp), hW]; simp)
  have HKR := Lib.hid hkr
  clear hkr
  go_enter Try.func14, Try.ntmps14
  go_wp2_with fail
  rw [← hW]
  clear hW
  refine (iTreeOk_c _ _ _ _ (h.keep HWB.out) hn HKR.out).mono ?_; rintro e w1 ⟨rfl, hb1⟩
  have hc1 := HK.out _ hb1
  cases ht : treeOk T
  · have HR : Hid (allUnder T n = []) := hid' (by simp [allUnder, ht])
    go_wp2_with fail
    go_ret
    exact ⟨_, rfl, by rw [HR.out]; exact own_nil _ _ _, HWB.out.trans hb1⟩
  · have HTO := Lib.hid ht
    clear ht
    go_wp2_with fail
    refine (iIsNode_c _ _ _ _ _).mono ?_; rintro e w2 ⟨rfl, hb2⟩
    have hb12 := hb1.trans hb2
    have hc2 := HK.out _ hb12
    cases hnn : isNodeB T n
    · have HR : Hid (allUnder T n = []) := hid' (by simp [allUnder, hnn])
      go_wp2_with fail
      go_ret
      exact ⟨_, rfl, by rw [HR.out]; exact own_nil _ _ _, HWB.out.trans hb12⟩
    · obtain ⟨d0, hd4, hdT, hch, hdp⟩ := treeOk_chain HTO.out hnn
      have HR : Hid (allUnder T n = underL T (5 - d0) n) := hid' (allUnder_eq HTO.out hnn hch (by omega))
      have HNN := Lib.hid hnn
      clear hnn
      go_wp2_with fail
      refine (iAllUnder_r T HTO.out (5 - d0) _ _ _ d0 _ (h.keep (HWB.out.trans hb12)) HNN.out hch (by omega)).mono ?_; rintro e w3 ⟨v3, rfl, ho3, hb3⟩
      have HO3 := hid' (own_low ho3 (HWB.out.trans hb12).sz)
      clear ho3
      go_wp2_with fail
      go_ret
      exact ⟨_, rfl, by rw [HR.out]; exact HO3.out, HWB.out.trans (hb12.trans hb3)⟩
set_option maxRecDepth 100000 in
set_option maxHeartbeats 8000000 in
theorem sAllUnder_r (T : List NodeD) (hok : treeOk T = true) (hkr : ∀ j, j < T.length → (node_ T j).kids.length ≤ 1048576 ∧ (node_ T j).rules.length ≤ 1048576) : ∀ (f : Nat) (A : Option Addr) (c : Nat) (n : Int) (d : Nat) (w : World) (h : Nodes w A T) (hnn : isNodeB T n = true) (hch : Chain T d n) (hf : f + d = 5),
    Calls Try.prog 12 #[treeV A T.length c, .int .i64 n] w fun e w' => ∃ v, e = .returned v ∧ w'.ownsRow w.heap.size 3 1 v (underL T f n).length (VI (underL T f n)) ∧ Bel w w'
  | 0, A, c, n, d, w, h, hnn, hch, hf => by
    exfalso
    have := chain_le hok hnn hch
    omega
  | f + 1, A, c, n, d, w, h, hnn, hch, hf => by
    have ih := sAllUnder_r T hok hkr f
    have HI := Lib.hid ih
    clear ih
    have hd1 := (chain_le hok hnn hch).1
    have h12 := treeOk_len hok
    have HOK := Lib.hid hok
    have HKR := Lib.hid hkr
    obtain ⟨j, rfl, hj⟩ := isNode_split hnn
    obtain ⟨b, o, K, ck, R, cr, rfl, hbl, hrg, hKI⟩ := h.open1 hj
    have HNL : Hid ((underL T (f + 1) ((j : Int) + 1)) = underTo T f j (node_ T j).kids.length) := hid' (underTo_all T f j).symm
    obtain ⟨U, hU⟩ : ∃ U, underL T (f + 1) ((j : Int) + 1) = U := ⟨_, rfl⟩
    rw [hU]
    rw [hU] at HNL
    clear hU
    have HK12 := hid' (kids_few hok hj)
    obtain ⟨nk, hnk⟩ : ∃ nk, (node_ T j).kids.length = nk := ⟨_, rfl⟩
    rw [hnk] at hrg HNL HK12
    have HNK := Lib.hid hnk
    have hk12 := HK12.out
    clear hnk
    obtain ⟨W, hW⟩ : ∃ W, W = w.alloc (.cells #[.slice (some ⟨b, o, none⟩) T.length c] 30) := ⟨_, rfl⟩
    have HWB : Hid (Bel w W) := hid' (by rw [hW]; exact (Bel.refl w).alloc _)
    have HS : Hid (W.heap.size = w.heap.size + 1) := hid' (by rw [hW]; simp)
    have HK : Hid (∀ u, Bel W u → u.cell? ⟨w.heap.size, 0, none⟩ = some (.slice (some ⟨b, o, none⟩) T.length c)) := hid' (fun u hu => by rw [hu.cell _ _ (by rw [hW]; simp), hW]; simp)
    have HO0 : Hid ((W.alloc (.cells #[] 3)).ownsRow W.heap.size 3 1 (.slice (some ⟨W.heap.size, 0, none⟩) 0 0) 0 []) := hid' (by
      exact World.ownsRow_lit (e := 3) W #[] 0 (Nat.le_refl _) (by unfold maxLen; omega) rfl)
    rw [HS.out] at HO0
    have HRG := Lib.hid hrg
    have HKI := Lib.hid hKI
    have HCH := Lib.hid hch
    have HNN := Lib.hid hnn
    clear hrg hKI hch hnn
    have hb0 : Bel W (W.alloc (.cells #[] 3)) := (Bel.refl W).alloc _
    go_enter Try.func12, Try.ntmps12
    go_wp2_with fail
    rw [← hW]
    clear hW
    refine (sTreeOk_c _ _ _ _ (h.keep (HWB.out.trans hb0)) (by omega) HKR.out).mono ?_; rintro e w1 ⟨rfl, hb1⟩
    rw [HOK.out]
    have hb01 := hb0.trans hb1
    have hc1 := HK.out _ hb01
    go_wp2_with fail
    refine (sIsNode_c _ _ _ _ _).mono ?_; rintro e w2 ⟨rfl, hb2⟩
    rw [HNN.out]
    have hb02 := hb01.trans hb2
    have hc2 := HK.out _ hb02
    have HO2 := hid' (own_keep (own_keep HO0.out hb1) hb2)
    go_wp2_with (at_builtin; refine app1w rfl (.tmp 19) (.tmp 21) rfl (w.heap.size + 1) _ 0 _ rfl (HO2.out.alloc _) w2.heap.size _ rfl (World.cell?_alloc_new _ _ _ _) (by omega) (by have := (hb02.alloc (.cells #[.int .i64 ((j : Int) + 1)] 3)).sz; rw [HS.out] at this; exact this) ?_; intro v3 w3 ho3 hg3 hv3
                 have hb3 : Bel W w3 := (hb02.alloc _).own (by rw [HS.out]; exact Nat.le_refl _) (HO2.out.alloc _) hg3
                 have hc3 := HK.out _ hb3
                 have HO3 : Hid (w3.ownsRow W.heap.size 3 1 v3 (underTo T f j 0).length (VI (underTo T f j 0))) := hid' (by rw [HS.out]; simpa [underTo, VI] using ho3)
                 clear ho3 hv3)
    refine (sNode_at b o c T j K nk ck R (node_ T j).rules.length cr _ (Nat.lt_of_lt_of_le hbl (HWB.out.trans hb3).sz) (range_bel HRG.out (HWB.out.trans hb3) hbl) hj (by omega)).mono ?_; rintro e w4 ⟨rfl, hb4⟩
    have hfu := field_kids (node_ T j) (.slice K nk ck) (.slice R (node_ T j).rules.length cr) w4
    have hb04 := hb3.trans hb4
    have HO4 := hid' (own_keep HO3.out hb4)
    go_wp2_with fail
    clear hfu
    go_loopw [5, 7] (fun v i wr => ∃ (q : Nat), q ≤ nk ∧ i = .int .i64 q ∧ Hid (wr.ownsRow W.heap.size 3 1 v (underTo T f j q).length (VI (underTo T f j q))) ∧ Bel W wr) (fun _ i _ => nk - (intOf i).toNat)
    case atStart => exact ⟨0, Nat.zero_le _, rfl, HO4, hb04⟩
    case round =>
      obtain ⟨q, hq, rfl, HO, hb⟩ := hrel
      have hc0 := HK.out _ hb
      by_cases hql : q < nk
      · have hqk : q < (node_ T j).kids.length := by rw [HNK.out]; exact hql
        obtain ⟨bk, ok, rfl, hbk, hck⟩ := HKI.out q hqk
        have hcK := ((HWB.out.trans hb).cell _ _ hbk).trans (hck q hqk)
        have hqi : (q : Int) < (nk : Int) := by omega
        have HKF := hid' (kid_facts HOK.out hj hqk)
        have HKC := hid' (kid_chain HOK.out hj hqk HCH.out)
        have HL0 := hid' (underTo_len HOK.out hj (f := f) (Nat.le_of_lt hqk) (by omega))
        have HL1 := hid' (underTo_len HOK.out hj (f := f) (q := q + 1) hqk (by omega))
        have HSU := hid' (underTo_succ (T := T) (f := f) hqk)
        clear hck hqk
        go_wp2_with fail
        have hd0 : Bel wr wr.drew := (Bel.refl wr).drew
        have xd0 := (hd0.cell _ _ (World.block_lt_of_cell? _ _ hc0)).trans hc0
        have yd0 := (hd0.cell _ _ (World.block_lt_of_cell? _ _ hcK)).trans hcK
        go_region_held3 (fun u => u.cell? ⟨w.heap.size, 0, none⟩ = some (.slice (some ⟨b, o, none⟩) T.length c) ∧ u.cell? ⟨bk, ok + q, none⟩ = some (.int .i64 (at_ (node_ T j).kids q)))
          ((first | exact ⟨xd2, yd2⟩ | exact ⟨xd1, yd1⟩ | exact ⟨xd0, yd0⟩))
          (first
            | (go_at_call 12; refine (HI.out _ _ _ _ _ (h.keep (HWB.out.trans (hb.trans hd0))) HKF.out.1 HKC.out (by omega)).mono ?_; rintro e w5 ⟨v5, rfl, ho5, hb5⟩
               obtain ⟨A2, c2, rfl, -, -, hA2, hI2⟩ := own_openC ho5
               have hbb := (hb.trans hd0).trans hb5
               have HO5 := hid' (own_keep HO.out (hd0.trans hb5))
               have hlen : (underTo T f j q).length + (underL T f (at_ (node_ T j).kids q)).length ≤ 4194304 := by have := HL1.out; rw [HSU.out, List.length_append] at this; omega
               clear ho5
               have xd1 := HK.out _ hbb
               have yd1 := (hb5.cell _ _ (World.block_lt_of_cell? _ _ yd0)).trans yd0)
            | (refine step_appS rfl (.tmp 33) (.tmp 39) rfl W.heap.size _ _ _ rfl HO5.out A2 c2 _ rfl hI2 hA2 hlen hbb.sz ?_; intro v' w6 ho6 hg6
               have hb6 : Bel W w6 := hbb.own (Nat.le_refl _) HO5.out hg6
               have xd2 := HK.out _ hb6
               have yd2 := ((HWB.out.trans hb6).cell _ _ hbk).trans (((HWB.out.trans hb).cell _ _ hbk).symm.trans hcK)))
        go_wp2_with fail
        go_roundw
        case rel => exact ⟨q + 1, by omega, by go_num, hid' (by rw [HSU.out, List.length_append, ← VI_app]; exact ho6), hb6⟩
        case measure => simp [intOf]; omega
      · obtain rfl : nk = q := by omega
        go_wp2_with fail
        go_ret
        exact ⟨_, rfl, by rw [HNL.out]; exact own_low HO.out (by rw [HS.out]; omega), HWB.out.trans hb⟩
set_option maxRecDepth 100000 in
set_option maxHeartbeats 2000000 in
theorem sAllUnder_c (A : Option Addr) (c : Nat) (T : List NodeD) (n : Int) (w : World) (h : Nodes w A T) (hn : T.length ≤ 1048576) (hkr : ∀ j, j < T.length → (node_ T j).kids.length ≤ 1048576 ∧ (node_ T j).rules.length ≤ 1048576) :
    Calls Try.prog 12 #[treeV A T.length c, .int .i64 n] w fun e w' => ∃ v, e = .returned v ∧ w'.ownsRow w.heap.size 3 1 v (allUnder T n).length (VI (allUnder T n)) ∧ Bel w w' := by
  by_cases hall : treeOk T = true ∧ isNodeB T n = true
  · obtain ⟨d0, hd4, hdT, hch, hdp⟩ := treeOk_chain hall.1 hall.2
    rw [allUnder_eq hall.1 hall.2 hch (f := 5 - d0) (by omega)]
    exact sAllUnder_r T hall.1 hkr (5 - d0) _ _ _ d0 _ h hall.2 hch (by omega)
  · have HR : allUnder T n = [] := by unfold allUnder; rw [if_neg hall]
    rw [HR]
    obtain ⟨W, hW⟩ : ∃ W, W = w.alloc (.cells #[.slice A T.length c] 30) := ⟨_, rfl⟩
    have HWB : Hid (Bel w W) := hid' (by rw [hW]; exact (Bel.refl w).alloc _)
    have HS : Hid (W.heap.size = w.heap.size + 1) := hid' (by rw [hW]; simp)
    have HK : Hid (∀ u, Bel W u → u.cell? ⟨w.heap.size, 0, none⟩ = some (.slice A T.length c)) := hid' (fun u hu => by rw [hu.cell _ _ (by rw [hW]; simp), hW]; simp)
    have HO0 : Hid ((W.alloc (.cells #[] 3)).ownsRow W.heap.size 3 1 (.slice (some ⟨W.heap.size, 0, none⟩) 0 0) 0 (VI [])) := hid' (by
      exact World.ownsRow_lit (e := 3) W #[] 0 (Nat.le_refl _) (by unfold maxLen; omega) rfl)
    have HO0 := hid' (own_low HO0.out (show w.heap.size ≤ W.heap.size from HWB.out.sz))
    rw [HS.out] at HO0
    have HKR := Lib.hid hkr
    clear hkr HR
    have hb0 : Bel W (W.alloc (.cells #[] 3)) := (Bel.refl W).alloc _
    go_enter Try.func12, Try.ntmps12
    go_wp2_with fail
    rw [← hW]
    clear hW
    refine (sTreeOk_c _ _ _ _ (h.keep (HWB.out.trans hb0)) hn HKR.out).mono ?_; rintro e w1 ⟨rfl, hb1⟩
    have hb01 := hb0.trans hb1
    have hc1 := HK.out _ hb01
    have HO1 := hid' (own_keep HO0.out hb1)
    cases ht : treeOk T
    · clear hall
      go_wp2_with fail
      go_ret
      exact ⟨_, rfl, HO1.out, HWB.out.trans hb01⟩
    · have hnn : isNodeB T n = false := by
        cases hq : isNodeB T n
        · rfl
        · exact absurd ⟨ht, hq⟩ hall
      clear hall ht
      go_wp2_with fail
      refine (sIsNode_c _ _ _ _ _).mono ?_; rintro e w2 ⟨rfl, hb2⟩
      rw [hnn]
      have hb02 := hb01.trans hb2
      have HO2 := hid' (own_keep HO1.out hb2)
      go_wp2_with fail
      go_ret
      exact ⟨_, rfl, HO2.out, HWB.out.trans hb02⟩
end Go.Proofs.Ytcdneamoemmohaa
