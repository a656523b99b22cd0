/- TreeOk: the program's text. -/
import Derived.Test.YtkoljbndbomhdaaGreatTreeL
namespace Go.Proofs.YtkoljbndbomhdaaGreat
open Go.RowKit Go.ChangeShapes Go.WideShapes
set_option linter.unusedVariables false
set_option linter.unusedSimpArgs false

theorem nodeL_at62 (x : NodeD) (K R : Value) : (nodeL x K R)[62]? = some (.bool x.meas) := rfl
theorem nodeL_at63 (x : NodeD) (K R : Value) : (nodeL x K R)[63]? = some R := rfl
/-- the cells of a node laid in block g, and the tree's own cell -/
structure NodeBox (w0 w2 : World) (g p : Nat) (x : NodeD) (K R tv : Value) : Prop where
  rg : w2.rangeAt g 0 (nodeL x K R)
  lt : g < w2.heap.size
  pc : w2.cell? ⟨p, 0, none⟩ = some tv
  plt : p < w2.heap.size
theorem NodeBox.cells {w0 w2 u : World} {g p : Nat} {x : NodeD} {K R tv : Value} (h : NodeBox w0 w2 g p x K R tv) (hb : Bel w2 u) :
    u.cell? ⟨g, 0, none⟩ = some (.int .i64 x.up) ∧ u.cell? ⟨g, 1, none⟩ = some K ∧ u.cell? ⟨g, 62, none⟩ = some (.bool x.meas) ∧ u.cell? ⟨g, 63, none⟩ = some R ∧ u.cell? ⟨p, 0, none⟩ = some tv ∧ u.rangeAt g 2 (styleL x.style) := by
  have r := range_bel h.rg hb h.lt
  have f : ∀ j v, (nodeL x K R)[j]? = some v → u.cell? ⟨g, j, none⟩ = some v := fun j v hv => by have := r j v hv; rwa [Nat.zero_add] at this
  refine ⟨f 0 _ rfl, f 1 _ rfl, f 62 _ (nodeL_at62 _ _ _), f 63 _ (nodeL_at63 _ _ _), (hb.cell _ _ h.plt).trans h.pc, ?_⟩
  have := range_sub r 2 60
  rwa [nodeL_style, Nat.zero_add] at this
theorem kidOk_eq (T : List NodeD) (k : Nat) (kid : Int) : kidOk T k kid = (isNodeB T kid && upOf T kid == (k : Int) + 1) := rfl

set_option maxRecDepth 100000 in
set_option maxHeartbeats 16000000 in
theorem iTreeOk_c (A : Option Addr) (c : Nat) (T : List NodeD) (w : World) (h : Nodes w A T) (hn : T.length ≤ 1048576) (hkr : ∀ j, j < T.length → (node_ T j).kids.length ≤ 1048576 ∧ (node_ T j).rules.length ≤ 1048576) :
    Calls Tryz.prog 32 #[treeV A T.length c] w fun e w' => e = .returned (.bool (treeOk T)) ∧ Bel w w' := by
  obtain ⟨W, hW⟩ : ∃ W, W = w.alloc (.cells #[.slice A T.length c] 32) := ⟨_, rfl⟩
  have HWB : Hid (Bel w W) := hid' (by rw [hW]; exact (Bel.refl w).alloc _)
  have HWS : Hid (w.heap.size < W.heap.size) := hid' (by rw [hW]; simp)
  have HK : Hid (∀ u, Bel W u → u.cell? ⟨w.heap.size, 0, none⟩ = some (.slice A T.length c)) := hid' (fun u hu => by rw [hu.cell _ _ (by rw [hW]; simp), hW]; simp)
  have HKR := Lib.hid hkr
  clear hkr
  by_cases h12 : 12 < T.length
  · have h12i : (12 : Int) < (T.length : Int) := by omega
    have HR : Hid (treeOk T = false) := hid' (treeOk_many h12)
    clear hW
    go_enter Tryz.func32, Tryz.ntmps32
    go_wp2_with fail
    go_ret
    exact ⟨by (show Ending.returned (.bool false) = _; rw [HR.out]), (Bel.refl w).alloc _⟩
  · have h12i : (T.length : Int) ≤ 12 := by omega
    have TK := hid' True.intro
    go_enter Tryz.func32, Tryz.ntmps32
    go_wp2_with ((with_reducible show wpList _ _ _ (Oper.mk _ (Op.fieldAddr _ _ _) _ _ _ _ :: _) _ _); clear TK; rw [← hW]; clear hW; have hcW := HK.out W (Bel.refl W))
    go_loopw [18] (fun i wr => ∃ (k : Nat), k ≤ T.length ∧ i = .int .i64 k ∧ Hid (∀ j, j < k → nodeOk T j = true) ∧ Bel W wr) (fun i _ => T.length - (intOf i).toNat)
    case atStart => exact ⟨0, Nat.zero_le _, rfl, hid' (fun j hj => absurd hj (Nat.not_lt_zero _)), Bel.refl W⟩
    case round =>
      obtain ⟨k, hk, rfl, HX, hb⟩ := hrel
      have hc0 := HK.out _ hb
      by_cases hlt : k < T.length
      · obtain ⟨b, o, rfl, hbl, hR⟩ := h k hlt
        obtain ⟨L, hL, hrg⟩ := hR k hlt
        obtain ⟨K, ck, R, cr, rfl, hKI, hRI, -, -⟩ := hL
        obtain ⟨hkk, hrr⟩ := HKR.out k hlt
        obtain ⟨nk, hnk⟩ : ∃ nk, (node_ T k).kids.length = nk := ⟨_, rfl⟩
        rw [hnk] at hrg hkk
        have HNK := Lib.hid hnk
        clear hnk
        have h64 : (nodeL (node_ T k) (.slice K nk ck) (.slice R (node_ T k).rules.length cr)).length = 64 := nodeL_length _ _ _
        have HG := hid' (range_bel hrg (HWB.out.trans hb) hbl)
        have HKI := hid' hKI
        have HRI := hid' hRI
        have hlti : (k : Int) < (T.length : Int) := by omega
        have HWR := Lib.hid hb
        clear hR hrg hKI hRI
        go_wp2_with (first
          | ((with_reducible show wpList _ _ _ (Oper.mk _ (Op.load _ _) _ _ _ _ :: _) _ _); refine wpList_load_mid rfl 79 _ rfl b (o + k * 64) rfl (nodeL (node_ T k) (.slice K nk ck) (.slice R (node_ T k).rules.length cr)) _ HG.out Tryz.underlying79 rfl (by rw [h64]; kernel_rfl) ?_)
          | ((with_reducible show wpList _ _ _ (Oper.mk _ (Op.alloc _) _ _ _ _ :: _) _ _); refine allocNode rfl rfl ?_; intro w1 HA; have HT := hid' (show w1.there wr.heap.size 0 64 from by rw [HA.out]; exact there_new wr znode.toArray 79))
          | ((with_reducible show wpList _ _ _ (Oper.mk _ (Op.store _ _ _) _ _ _ _ :: _) _ _); refine storeNew rfl _ _ rfl wr.heap.size rfl (node_ T k) (.slice K nk ck) (.slice R (node_ T k).rules.length cr) rfl rfl rfl HT ?_; intro w2 H2
             have HBr : Hid (Bel wr w2) := hid' (Bel.grown (b := w1) (by rw [HA.out]; exact (Bel.refl wr).alloc _) H2.out.2 (fun q e => by injection e with e; omega))
             have HB2 := hid' (HWR.out.trans HBr.out)
             have HC : Hid (NodeBox w w2 wr.heap.size w.heap.size (node_ T k) (.slice K nk ck) (.slice R (node_ T k).rules.length cr) (.slice (some ⟨b, o, none⟩) T.length c)) := hid' ⟨H2.out.1, by have := H2.out.2.size; rw [HA.out] at this; simp at this; omega, HK.out _ HB2.out, Nat.lt_of_lt_of_le HWS.out HB2.out.sz⟩
             obtain ⟨e0, e1, e62, e63, ec, es⟩ := HC.out.cells (Bel.refl w2)
             have HES := Lib.hid es
             clear es)
          | ((with_reducible show wpList _ _ _ (Oper.mk _ (Op.load _ _) _ _ _ _ :: _) _ _); refine wpList_load_mid rfl 47 _ rfl wr.heap.size 2 rfl (styleL (node_ T k).style) _ HES.out Tryz.underlying47 rfl (by rw [styleL_length]; kernel_rfl) ?_))
        refine (iStyleOk_c _ _).mono ?_; rintro e w3 ⟨rfl, hb3⟩
        clear e0 e1 e62 e63 ec
        obtain ⟨e0, e1, e62, e63, ec, -⟩ := HC.out.cells hb3
        cases hs : styleOk (node_ T k).style
        · have HR : Hid (treeOk T = false) := hid' (treeOk_no hlt (by simp [nodeOk, hs]))
          go_wp2_with fail
          go_ret
          exact ⟨by (show Ending.returned (.bool false) = _; rw [HR.out]), HWB.out.trans (HB2.out.trans hb3)⟩
        · have HS := Lib.hid hs
          clear hs
          go_wp2_with fail
          refine (iDepthOf_c _ _ _ _ _ (h.keep (HWB.out.trans (HB2.out.trans hb3))) hn).mono ?_; rintro e w4 ⟨rfl, hb4⟩
          have hb24 := hb3.trans hb4
          clear e0 e1 e62 e63 ec
          obtain ⟨e0, e1, e62, e63, ec, -⟩ := HC.out.cells hb24
          cases hd : depthOk T k
          · have HR : Hid (treeOk T = false) := hid' (treeOk_no hlt (by simp [nodeOk, hd]))
            have hdd : inB (depthOf T ((k : Int) + 1)) 1 4 = false := hd
            clear hd
            go_wp2_with (go_at_call 58; refine (in_c _ _ _ _).mono ?_; rintro e w' ⟨rfl, rfl⟩)
            go_ret
            exact ⟨by (show Ending.returned (.bool false) = _; rw [HR.out]), HWB.out.trans (HB2.out.trans hb24)⟩
          · have HD := Lib.hid hd
            have hdd : inB (depthOf T ((k : Int) + 1)) 1 4 = true := hd
            clear hd
            go_wp2_with (go_at_call 58; refine (in_c _ _ _ _).mono ?_; rintro e w' ⟨rfl, rfl⟩)
            clear hdd
            go_loopw [39] (fun i u => ∃ (q : Nat), q ≤ nk ∧ i = .int .i64 q ∧ Hid (∀ j, j < q → kidOk T k (at_ (node_ T k).kids j) = true) ∧ Bel w2 u) (fun i _ => nk - (intOf i).toNat)
            case atStart => exact ⟨0, Nat.zero_le _, rfl, hid' (fun j hj => absurd hj (Nat.not_lt_zero _)), hb24⟩
            case round =>
              rename_i u5
              obtain ⟨q, hq, rfl, HQ, hb5⟩ := hrel
              clear e0 e1 e62 e63 ec
              obtain ⟨e0, e1, e62, e63, ec, -⟩ := HC.out.cells hb5
              by_cases hql : q < nk
              · obtain ⟨bk, ok, rfl, hbk, hck⟩ := HKI.out q (by rw [HNK.out]; exact hql)
                have hcK := ((HWB.out.trans (HB2.out.trans hb5)).cell _ _ hbk).trans (hck q (by rw [HNK.out]; exact hql))
                have hqi : (q : Int) < (nk : Int) := by omega
                clear hck
                go_wp2_with fail
                refine (iIsNode_c _ _ _ _ _).mono ?_; rintro e w6 ⟨rfl, hb6⟩
                have hb26 := hb5.trans hb6
                clear e0 e1 e62 e63 ec
                obtain ⟨e0, e1, e62, e63, ec, -⟩ := HC.out.cells hb26
                cases hi : isNodeB T (at_ (node_ T k).kids q)
                · have HR : Hid (treeOk T = false) := hid' (treeOk_no hlt (by simp [nodeOk, kids_no (by rw [HNK.out]; exact hql) (show kidOk T k (at_ (node_ T k).kids q) = false by rw [kidOk_eq, hi]; rfl)]))
                  go_wp2_with fail
                  go_ret
                  exact ⟨by (show Ending.returned (.bool false) = _; rw [HR.out]), HWB.out.trans (HB2.out.trans hb26)⟩
                · obtain ⟨j, hje, hj⟩ := isNode_split hi
                  have HKO : Hid (kidOk T k (at_ (node_ T k).kids q) = ((node_ T j).up == (k : Int) + 1)) := hid' (by rw [kidOk_eq, hi, hje, upOf_eq]; rfl)
                  have HJE := Lib.hid hje
                  rw [hje]
                  clear hi hje
                  go_wp2_with fail
                  refine (iNode_c _ _ _ _ _ (h.keep (HWB.out.trans (HB2.out.trans hb26))) hj hn).mono ?_; rintro e w7 ⟨L7, rfl, hL7, hb7⟩
                  obtain ⟨K7, ck7, R7, cr7, rfl, -⟩ := hL7
                  have hb27 := hb26.trans hb7
                  clear e0 e1 e62 e63 ec
                  obtain ⟨e0, e1, e62, e63, ec, -⟩ := HC.out.cells hb27
                  have hfu := field_up (node_ T j) (.slice K7 (node_ T j).kids.length ck7) (.slice R7 (node_ T j).rules.length cr7) w7
                  by_cases hu : (node_ T j).up = (k : Int) + 1
                  · have hne : ((node_ T j).up != (k : Int) + 1) = false := by simp [hu]
                    have HQ2 : Hid (∀ j, j < q + 1 → kidOk T k (at_ (node_ T k).kids j) = true) := hid' (fun i hi => by rcases Nat.lt_succ_iff_lt_or_eq.1 hi with h | h; exact HQ.out i h; subst h; rw [HKO.out, hu]; simp)
                    clear hu
                    go_wp2_with fail
                    go_roundw
                    case rel => exact ⟨q + 1, by omega, by go_num, HQ2, hb27⟩
                    case measure => simp [intOf]; omega
                  · have hne : ((node_ T j).up != (k : Int) + 1) = true := by simp [hu]
                    have HR : Hid (treeOk T = false) := hid' (treeOk_no hlt (by simp [nodeOk, kids_no (by rw [HNK.out]; exact hql) (show kidOk T k (at_ (node_ T k).kids q) = false by rw [HKO.out]; simp [hu])]))
                    clear hu
                    go_wp2_with fail
                    go_ret
                    exact ⟨by (show Ending.returned (.bool false) = _; rw [HR.out]), HWB.out.trans (HB2.out.trans hb27)⟩
              · obtain rfl : nk = q := by omega
                have HKA : Hid ((node_ T k).kids.all (kidOk T k) = true) := hid' (kids_yes fun i hi => HQ.out i (by rw [HNK.out] at hi; exact hi))
                by_cases h0 : (node_ T k).up = 0
                · have HUP : Hid (upOk T k = true) := hid' (by simp [upOk, h0])
                  have hne : ((node_ T k).up != 0) = false := by simp [h0]
                  clear h0
                  try clear e0 e1 e62 e63 ec
                  obtain ⟨e0, e1, e62, e63, ec, -⟩ := HC.out.cells hb5
                  cases hm : (node_ T k).meas
                  · rw [hm] at e62
                    by_cases hr0 : (node_ T k).rules.length = 0
                    · have HME : Hid (measOk (node_ T k) = true) := hid' (by simp [measOk, hm, hr0])
                      have hri : ¬ (0 : Int) < ((node_ T k).rules.length : Int) := by omega
                      clear hr0 hm
                      go_wp2_with fail
                      go_roundw
                      case rel => exact ⟨k + 1, by omega, by go_num, hid' (fun j hj => by rcases Nat.lt_succ_iff_lt_or_eq.1 hj with h | h; exact HX.out j h; subst h; simp [nodeOk, HS.out, HD.out, HKA.out, HUP.out, HME.out]), (HB2.out.trans hb5)⟩
                      case measure => simp [intOf]; omega
                    · have HME : Hid (measOk (node_ T k) = false) := hid' (by simp [measOk, hm, hr0])
                      have hri : (0 : Int) < ((node_ T k).rules.length : Int) := by omega
                      clear hr0 hm
                      have HR : Hid (treeOk T = false) := hid' (treeOk_no hlt (by simp [nodeOk, HME.out]))
                      go_wp2_with fail
                      go_ret
                      exact ⟨by (show Ending.returned (.bool false) = _; rw [HR.out]), HWB.out.trans (HB2.out.trans hb5)⟩
                  · rw [hm] at e62
                    have HM := Lib.hid hm
                    clear hm
                    go_wp2_with fail
                    refine (iTableOk_c _ _ _ _ (HRI.out.keep (HWB.out.trans (HB2.out.trans hb5))) hrr).mono ?_; rintro e w9 ⟨rfl, hb9⟩
                    have hb29 := hb5.trans hb9
                    obtain ⟨e0, e1, e62, e63, ec, -⟩ := HC.out.cells hb29
                    rw [HM.out] at e62
                    cases ht : tableOk (node_ T k).rules
                    · have HME : Hid (measOk (node_ T k) = false) := hid' (by simp [measOk, HM.out, ht])
                      clear ht
                      have HR : Hid (treeOk T = false) := hid' (treeOk_no hlt (by simp [nodeOk, HME.out]))
                      go_wp2_with fail
                      go_ret
                      exact ⟨by (show Ending.returned (.bool false) = _; rw [HR.out]), HWB.out.trans (HB2.out.trans hb29)⟩
                    · by_cases hk0 : nk = 0
                      · have HME : Hid (measOk (node_ T k) = true) := hid' (by simp [measOk, HM.out, ht, HNK.out, hk0])
                        have hki : ¬ (0 : Int) < (nk : Int) := by omega
                        clear hk0 ht
                        go_wp2_with fail
                        go_roundw
                        case rel => exact ⟨k + 1, by omega, by go_num, hid' (fun j hj => by rcases Nat.lt_succ_iff_lt_or_eq.1 hj with h | h; exact HX.out j h; subst h; simp [nodeOk, HS.out, HD.out, HKA.out, HUP.out, HME.out]), (HB2.out.trans hb29)⟩
                        case measure => simp [intOf]; omega
                      · have HME : Hid (measOk (node_ T k) = false) := hid' (by simp [measOk, HM.out, HNK.out, hk0])
                        have hki : (0 : Int) < (nk : Int) := by omega
                        clear hk0 ht
                        have HR : Hid (treeOk T = false) := hid' (treeOk_no hlt (by simp [nodeOk, HME.out]))
                        go_wp2_with fail
                        go_ret
                        exact ⟨by (show Ending.returned (.bool false) = _; rw [HR.out]), HWB.out.trans (HB2.out.trans hb29)⟩
                · have hne : ((node_ T k).up != 0) = true := by simp [h0]
                  obtain ⟨j, hje, hj⟩ := isNode_split ((depth_up hlt HD.out).resolve_left h0)
                  have HUO : Hid (upOk T k = (countI (node_ T j).kids ((k : Int) + 1) == 1)) := hid' (by
                    have hnd : nd T (node_ T k).up = node_ T j := by unfold nd; rw [hje]; congr 1; omega
                    unfold upOk
                    rw [hnd]
                    simp [h0])
                  have hkj := (HKR.out j hj).1
                  rw [hje] at e0 hne
                  clear h0
                  have HJE := Lib.hid hje
                  clear hje
                  go_wp2_with fail
                  refine (iNode_c _ _ _ _ _ (h.keep (HWB.out.trans (HB2.out.trans hb5))) hj hn).mono ?_; rintro e w7 ⟨L7, rfl, hL7, hb7⟩
                  obtain ⟨K7, ck7, R7, cr7, rfl, hKI7, -⟩ := hL7
                  have hb27 := hb5.trans hb7
                  have hfu := field_kids (node_ T j) (.slice K7 (node_ T j).kids.length ck7) (.slice R7 (node_ T j).rules.length cr7) w7
                  clear e0 e1 e62 e63 ec
                  go_wp2_with fail
                  go_loopw [8, 65] (fun t i u => ∃ (q : Nat), q ≤ (node_ T j).kids.length ∧ i = .int .i64 q ∧ t = .int .i64 (countTo (node_ T j).kids ((k : Int) + 1) q : Nat) ∧ Bel w7 u) (fun _ i _ => (node_ T j).kids.length - (intOf i).toNat)
                  case atStart => exact ⟨0, Nat.zero_le _, rfl, by simp [countTo, countI], Bel.refl w7⟩
                  case round =>
                    rename_i u8
                    obtain ⟨q, hq, rfl, rfl, hb8⟩ := hrel
                    have hcl := countTo_le (node_ T j).kids ((k : Int) + 1) q
                    by_cases hql : q < (node_ T j).kids.length
                    · obtain ⟨bk, ok, rfl, hbk, hck⟩ := hKI7 q hql
                      have hcK := (hb8.cell _ _ hbk).trans (hck q hql)
                      have hqi : (q : Int) < ((node_ T j).kids.length : Int) := by omega
                      clear hck
                      by_cases he : at_ (node_ T j).kids q = (k : Int) + 1
                      · have heq : (at_ (node_ T j).kids q == (k : Int) + 1) = true := by simp [he]
                        have HCS : Hid (countTo (node_ T j).kids ((k : Int) + 1) (q + 1) = countTo (node_ T j).kids ((k : Int) + 1) q + 1) := hid' (by rw [countTo_succ _ hql, if_pos he])
                        clear he
                        go_wp2_with fail
                        go_roundw
                        case rel => exact ⟨q + 1, by omega, by go_num, by rw [HCS.out]; go_num, hb8⟩
                        case measure => simp [intOf]; omega
                      · have heq : (at_ (node_ T j).kids q == (k : Int) + 1) = false := by simp [he]
                        have HCS : Hid (countTo (node_ T j).kids ((k : Int) + 1) (q + 1) = countTo (node_ T j).kids ((k : Int) + 1) q) := hid' (by rw [countTo_succ _ hql, if_neg he]; rfl)
                        clear he
                        go_wp2_with fail
                        go_roundw
                        case rel => exact ⟨q + 1, by omega, by go_num, by rw [HCS.out], hb8⟩
                        case measure => simp [intOf]; omega
                    · obtain rfl : q = (node_ T j).kids.length := by omega
                      have hb28 := hb27.trans hb8
                      rw [countTo_all]
                      cases hup : upOk T k
                      · have hc1 : ((countI (node_ T j).kids ((k : Int) + 1) : Int) != 1) = true := by have := HUO.out; rw [hup] at this; simp at this ⊢; omega
                        have HR : Hid (treeOk T = false) := hid' (treeOk_no hlt (by simp [nodeOk, hup]))
                        go_wp2_with fail
                        go_ret
                        exact ⟨by (show Ending.returned (.bool false) = _; rw [HR.out]), HWB.out.trans (HB2.out.trans hb28)⟩
                      · have hc1 : ((countI (node_ T j).kids ((k : Int) + 1) : Int) != 1) = false := by have := HUO.out; rw [hup] at this; simp at this ⊢; omega
                        have HUP := Lib.hid hup
                        clear hup
                        try clear e0 e1 e62 e63 ec
                        obtain ⟨e0, e1, e62, e63, ec, -⟩ := HC.out.cells hb28
                        cases hm : (node_ T k).meas
                        · rw [hm] at e62
                          by_cases hr0 : (node_ T k).rules.length = 0
                          · have HME : Hid (measOk (node_ T k) = true) := hid' (by simp [measOk, hm, hr0])
                            have hri : ¬ (0 : Int) < ((node_ T k).rules.length : Int) := by omega
                            clear hr0 hm
                            go_wp2_with fail
                            go_roundw
                            case rel => exact ⟨k + 1, by omega, by go_num, hid' (fun j hj => by rcases Nat.lt_succ_iff_lt_or_eq.1 hj with h | h; exact HX.out j h; subst h; simp [nodeOk, HS.out, HD.out, HKA.out, HUP.out, HME.out]), (HB2.out.trans hb28)⟩
                            case measure => simp [intOf]; omega
                          · have HME : Hid (measOk (node_ T k) = false) := hid' (by simp [measOk, hm, hr0])
                            have hri : (0 : Int) < ((node_ T k).rules.length : Int) := by omega
                            clear hr0 hm
                            have HR : Hid (treeOk T = false) := hid' (treeOk_no hlt (by simp [nodeOk, HME.out]))
                            go_wp2_with fail
                            go_ret
                            exact ⟨by (show Ending.returned (.bool false) = _; rw [HR.out]), HWB.out.trans (HB2.out.trans hb28)⟩
                        · rw [hm] at e62
                          have HM := Lib.hid hm
                          clear hm
                          go_wp2_with fail
                          refine (iTableOk_c _ _ _ _ (HRI.out.keep (HWB.out.trans (HB2.out.trans hb28))) hrr).mono ?_; rintro e w9 ⟨rfl, hb9⟩
                          have hb29 := hb28.trans hb9
                          obtain ⟨e0, e1, e62, e63, ec, -⟩ := HC.out.cells hb29
                          rw [HM.out] at e62
                          cases ht : tableOk (node_ T k).rules
                          · have HME : Hid (measOk (node_ T k) = false) := hid' (by simp [measOk, HM.out, ht])
                            clear ht
                            have HR : Hid (treeOk T = false) := hid' (treeOk_no hlt (by simp [nodeOk, HME.out]))
                            go_wp2_with fail
                            go_ret
                            exact ⟨by (show Ending.returned (.bool false) = _; rw [HR.out]), HWB.out.trans (HB2.out.trans hb29)⟩
                          · by_cases hk0 : nk = 0
                            · have HME : Hid (measOk (node_ T k) = true) := hid' (by simp [measOk, HM.out, ht, HNK.out, hk0])
                              have hki : ¬ (0 : Int) < (nk : Int) := by omega
                              clear hk0 ht
                              go_wp2_with fail
                              go_roundw
                              case rel => exact ⟨k + 1, by omega, by go_num, hid' (fun j hj => by rcases Nat.lt_succ_iff_lt_or_eq.1 hj with h | h; exact HX.out j h; subst h; simp [nodeOk, HS.out, HD.out, HKA.out, HUP.out, HME.out]), (HB2.out.trans hb29)⟩
                              case measure => simp [intOf]; omega
                            · have HME : Hid (measOk (node_ T k) = false) := hid' (by simp [measOk, HM.out, HNK.out, hk0])
                              have hki : (0 : Int) < (nk : Int) := by omega
                              clear hk0 ht
                              have HR : Hid (treeOk T = false) := hid' (treeOk_no hlt (by simp [nodeOk, HME.out]))
                              go_wp2_with fail
                              go_ret
                              exact ⟨by (show Ending.returned (.bool false) = _; rw [HR.out]), HWB.out.trans (HB2.out.trans hb29)⟩
      · obtain rfl : k = T.length := by omega
        have HR : Hid (treeOk T = true) := hid' (treeOk_yes (by omega) HX.out)
        go_wp2_with fail
        go_ret
        exact ⟨by (show Ending.returned (.bool true) = _; rw [HR.out]), HWB.out.trans hb⟩
end Go.Proofs.YtkoljbndbomhdaaGreat
