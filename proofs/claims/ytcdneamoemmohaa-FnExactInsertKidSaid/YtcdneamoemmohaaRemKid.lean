/- RemoveKid, both sides. -/
import Derived.Test.YtcdneamoemmohaaSetStyleF
namespace Go.Proofs.Ytcdneamoemmohaa
open Go.RowKit Go.ChangeShapes Go.WideShapes
set_option linter.unusedVariables false
set_option linter.unusedSimpArgs false

def hasB (l : List Int) (n : Int) : Bool := decide (0 < countI l n)
theorem hasB_at {l : List Int} {n : Int} {k : Nat} (h : k < l.length) (e : at_ l k = n) : hasB l n = true := by
  unfold hasB countI
  rw [decide_eq_true_eq, List.countP_pos_iff]
  exact ⟨at_ l k, at_mem h, by simpa using e⟩
theorem hasB_none {l : List Int} {n : Int} (h : ∀ j, j < l.length → at_ l j ≠ n) : hasB l n = false := by
  unfold hasB countI
  rw [decide_eq_false_iff_not, List.countP_pos_iff]
  rintro ⟨x, hx, e⟩
  obtain ⟨j, hj, rfl⟩ := List.getElem_of_mem hx
  refine h j hj ?_
  simp at e
  rw [at_, List.getD, List.getElem?_eq_getElem hj]
  exact e
set_option maxRecDepth 100000 in
set_option maxHeartbeats 1000000 in
theorem hasInt_c (A : Option Addr) (c : Nat) (l : List Int) (n : Int) (w : World) (h : Ints w A l) (hn : l.length ≤ 1048576) :
    Calls Try.prog 63 #[.slice A l.length c, .int .i64 n] w fun r w' => r = .returned (.bool (hasB l n)) ∧ Bel w w' := by
  go_enter Try.func63, Try.ntmps63
  go_wp2_with fail
  go_loopw [9] (fun i wr => ∃ (k : Nat), k ≤ l.length ∧ i = .int .i64 k ∧ Hid (∀ j, j < k → at_ l j ≠ n) ∧ Bel w wr) (fun i _ => l.length - (intOf i).toNat)
  case atStart => exact ⟨0, Nat.zero_le _, by go_num, hid' (fun j hj => absurd hj (Nat.not_lt_zero _)), Bel.refl w⟩
  case round =>
    obtain ⟨k, hk, rfl, HX, hb⟩ := hrel
    by_cases hlt : k < l.length
    · obtain ⟨b, o, rfl, hbl, hc⟩ := h k hlt
      have hcA : wr.cell? ⟨b, o + k, none⟩ = some (.int .i64 (at_ l k)) := (hb.cell _ _ hbl).trans (hc k hlt)
      clear hc
      by_cases he : at_ l k = n
      · have HH := Lib.hid (hasB_at hlt he)
        have he' : (at_ l k == n) = true := by simp [he]
        clear he
        go_wp2_with fail
        go_ret
        exact ⟨by (rw [HH.out]; try rfl), hb⟩
      · have he' : (at_ l k == n) = false := by simp [he]
        have HE := Lib.hid he
        clear he
        go_wp2_with fail
        go_roundw
        case rel => exact ⟨k + 1, by omega, by go_num, hid' (fun j hj => by rcases Nat.lt_succ_iff_lt_or_eq.1 hj with h | h; exact HX.out j h; subst h; exact HE.out), hb⟩
        case measure => simp [intOf]; omega
    · have HH : Hid (hasB l n = false) := hid' (hasB_none fun j hj => HX.out j (by omega))
      go_wp2_with fail
      go_ret
      exact ⟨by (rw [HH.out]; try rfl), hb⟩

/-- the children but one, after q of them -/
def remTo (l : List Int) (kid : Int) (q : Nat) : List Int := (l.take q).filter (fun k => k != kid)
theorem remTo_yes {l : List Int} {kid : Int} {q : Nat} (hq : q < l.length) (h : at_ l q ≠ kid) : remTo l kid (q + 1) = remTo l kid q ++ [at_ l q] := by
  unfold remTo
  rw [List.take_add_one, at_eq hq, List.filter_append]
  simp [h]
theorem remTo_no {l : List Int} {kid : Int} {q : Nat} (hq : q < l.length) (h : at_ l q = kid) : remTo l kid (q + 1) = remTo l kid q := by
  unfold remTo
  rw [List.take_add_one, at_eq hq, List.filter_append]
  simp [h]
theorem remTo_len (l : List Int) (kid : Int) (q : Nat) : (remTo l kid q).length ≤ l.length := by
  unfold remTo
  refine Nat.le_trans (List.length_filter_le _ _) ?_
  rw [List.length_take]
  omega
def remT (T : List NodeD) (j k : Nat) : List NodeD :=
  let T1 := T.set j { node_ T j with kids := remTo (node_ T j).kids ((k : Int) + 1) (node_ T j).kids.length }
  T1.set k { node_ T1 k with up := 0 }
def removeKidT (T : List NodeD) (n kid : Int) : List NodeD × Int :=
  if treeOk T = true ∧ isNodeB T n = true ∧ isNodeB T kid = true then (if upOf T kid = n then (remT T (n - 1).toNat (kid - 1).toNat, 0) else (T, 3)) else (T, 1)
theorem hasB_up {T : List NodeD} (h : treeOk T = true) {j : Nat} (hj : j < T.length) {k : Nat} (hk : k < T.length) : hasB (node_ T j).kids ((k : Int) + 1) = decide ((node_ T k).up = (j : Int) + 1) := by
  by_cases e : (node_ T k).up = (j : Int) + 1
  · rw [decide_eq_true e]
    have hup := treeOk_at h hk
    unfold nodeOk at hup
    simp only [Bool.and_eq_true] at hup
    have hup := hup.1.2
    unfold upOk at hup
    rw [e, nd_eq] at hup
    simp at hup
    have h1 : countI (node_ T j).kids ((k : Int) + 1) = 1 := by
      rcases hup with h0 | h0
      · omega
      · exact h0
    unfold hasB
    rw [h1]
    rfl
  · rw [decide_eq_false e]
    refine hasB_none fun q hq he => e ?_
    have := (kid_facts h hj hq).2
    rw [he, upOf_eq] at this
    exact this
theorem remT_length (T : List NodeD) (j k : Nat) : (remT T j k).length = T.length := by simp [remT]
/-- the slice of children stored -/
theorem Ed.storeKids {w : World} {ops : Array Oper} {rest : List Oper} {op : Oper} {a : Act} {Q : Exit → Act → World → Prop} {base g n c j : Nat} {T : List NodeD} {KS RS : List Value} {v : Value} {l : List Int} (E : Ed w base g n c T KS RS) (hj : j < T.length) (hF : Fam w base (treeF (.slice (some ⟨g, 0, none⟩) n c) T KS RS ++ [kidsRow v l])) (hgd : op.guard = none) (x y : Operand) (ho : op.op = .store 26 x y)
    (hx : a.eval x = .pointer (some ⟨g, j * 64 + 1, none⟩)) (hy : a.eval y = v) (hv : v.cells = #[v]) (h1 : v.oneCell' = true)
    (h : ∀ w', Hid (Ed w' base g n c (T.set j { node_ T j with kids := l }) (KS.set j v) RS ∧ w.grownBy w' (some g)) → wpList Try.prog ops Q rest (a.put op.dst undef) w') : wpList Try.prog ops Q (op :: rest) a w := by
  refine wpList_store_any hgd 26 x y ho g (j * 64 + 1) v hx hy (by rw [hv]; exact E.there (o := j * 64 + 1) (m := 1) (by omega)) (by rw [hv]; kernel_rfl) (by rw [hv]; intro q hq; simp at hq; subst hq; exact h1) (h _ (hid' ?_))
  rw [hv]
  exact E.kids hj hF
/-- the parent stored -/
theorem Ed.storeUp {w : World} {ops : Array Oper} {rest : List Oper} {op : Oper} {a : Act} {Q : Exit → Act → World → Prop} {base g n c j : Nat} {T : List NodeD} {KS RS : List Value} {u : Int} (E : Ed w base g n c T KS RS) (hj : j < T.length) (hgd : op.guard = none) (x y : Operand) (ho : op.op = .store 3 x y)
    (hx : a.eval x = .pointer (some ⟨g, j * 64, none⟩)) (hy : a.eval y = .int .i64 u)
    (h : ∀ w', Hid (Ed w' base g n c (T.set j { node_ T j with up := u }) KS RS ∧ w.grownBy w' (some g)) → wpList Try.prog ops Q rest (a.put op.dst undef) w') : wpList Try.prog ops Q (op :: rest) a w := by
  refine wpList_store_any hgd 3 x y ho g (j * 64 + 0) (.int .i64 u) hx hy (E.there (o := j * 64 + 0) (m := 1) (by omega)) (by kernel_rfl) (by intro q hq; simp [Value.cells] at hq; subst hq; rfl) (h _ (hid' ?_))
  exact E.cell (off := 0) hj { node_ T j with up := u } (by decide) (fun K R => nodeL_setUp _ _ _ _) rfl rfl
set_option maxRecDepth 100000 in
set_option maxHeartbeats 8000000 in
theorem iRemoveKid_c (A : Option Addr) (c : Nat) (T : List NodeD) (n kid : Int) (w : World) (h : NodesC w A T) (hn : treeSz T ≤ 1048576) :
    Calls Try.prog 32 #[treeV A T.length c, .int .i64 n, .int .i64 kid] w fun e w' => ∃ A' c', e = .returned (.tuple #[treeV A' (removeKidT T n kid).1.length c', .int .i64 (removeKidT T n kid).2]) ∧ TreeAt w' w.heap.size (.slice A' (removeKidT T n kid).1.length c') (removeKidT T n kid).1 ∧ Bel w w' := by
  have hT := len_of hn
  have HKR := hid' (kr_of hn)
  have HN := Lib.hid hn
  clear hn
  obtain ⟨W0, hW0⟩ : ∃ W0, W0 = (w.alloc (.cells #[.slice A T.length c] 30)).alloc (.cells #[.slice none 0 0] 30) := ⟨_, rfl⟩
  have HWB : Hid (Bel w W0) := hid' (by rw [hW0]; exact ((Bel.refl w).alloc _).alloc _)
  have HS : Hid (W0.heap.size = w.heap.size + 1 + 1) := hid' (by rw [hW0]; simp)
  have HK1 : Hid (∀ u, Bel W0 u → u.cell? ⟨w.heap.size, 0, none⟩ = some (.slice A T.length c)) := hid' (fun u hu => by
    have hb : Bel (w.alloc (.cells #[.slice A T.length c] 30)) W0 := by rw [hW0]; exact (Bel.refl _).alloc _
    exact ((hb.trans hu).cell _ _ (by simp)).trans (by simp))
  have HK3 : Hid (∀ u, Bel W0 u → u.cell? ⟨w.heap.size + 1, 0, none⟩ = some (.slice none 0 0) ∧ u.frozen? ⟨w.heap.size + 1, 0, none⟩ = false) := hid' (fun u hu => by
    have hz : (w.alloc (.cells #[.slice A T.length c] 30)).heap.size = w.heap.size + 1 := by simp
    rw [hW0] at hu
    rw [← hz]
    exact ⟨(hu.cell _ _ (by simp)).trans (new_cell1 _ _ _).1, (hu.frozen _ _ (by simp)).trans (new_cell1 _ _ _).2⟩)
  go_enter Try.func32, Try.ntmps32
  go_wp2_with fail
  rw [← hW0]
  clear hW0
  refine (iCopyTree_c _ _ _ _ (h.keep HWB.out) HN.out).mono ?_; rintro e w1 ⟨A1, c1, rfl, ht1, hb1⟩
  have HT1 := Lib.hid ht1
  clear ht1
  have hcA := HK1.out _ (hb1.alloc (.cells #[.slice A1 T.length c1] 30))
  have hlb1 : w.heap.size + 1 < w1.heap.size := by have := hb1.sz; rw [HS.out] at this; omega
  have HB1 := Lib.hid hb1
  go_wp2_with fail
  obtain ⟨w2, hw2⟩ : ∃ w2, w2 = w1.alloc (.cells #[.slice A1 T.length c1] 30) := ⟨_, rfl⟩
  rw [← hw2] at hcA ⊢
  have HOC : Hid (∀ u, Bel w2 u → u.cell? ⟨w1.heap.size, 0, none⟩ = some (.slice A1 T.length c1)) := hid' (fun u hu => by rw [hu.cell _ _ (by rw [hw2]; simp), hw2]; simp)
  have HB2 : Hid (Bel w1 w2) := hid' (by rw [hw2]; exact (Bel.refl w1).alloc _)
  have HL2 : Hid (w1.heap.size < w2.heap.size) := hid' (by rw [hw2]; simp)
  clear hw2 hcA hb1
  have HB02 := hid' (HB1.out.trans HB2.out)
  refine (iTreeOk_c _ _ _ _ (h.nodes.keep (HWB.out.trans HB02.out)) hT HKR.out).mono ?_; rintro e w3 ⟨rfl, hb3⟩
  have HB03 := hid' (HB02.out.trans hb3)
  have HB23 := Lib.hid hb3
  clear hb3
  have hc1 := HK1.out _ HB03.out
  have hc3 := (HK3.out _ HB03.out).1
  have hf3 := (HK3.out _ HB03.out).2
  have hco := HOC.out _ HB23.out
  have HT3 := hid' (HT1.out.keep (HB2.out.trans HB23.out))
  cases ht : treeOk T
  · have HR : Hid (removeKidT T n kid = (T, 1)) := hid' (by simp [removeKidT, ht])
    go_wp2_with fail
    refine bodyPost_ret (v := .tuple #[.agg #[.slice A1 T.length c1], .int .i64 1]) (by simp [results, Try.results32, go_sem, *]) rfl ⟨_, _, by (rw [HR.out]; try (first | rfl | (rw [← HLS.out]))), ?_, ?_⟩
    · rw [HR.out]
      exact (TreeAt.far HT3.out (grown_set _ _ _) (by rw [HS.out]; omega)).base (by rw [HS.out]; omega)
    · exact (HWB.out.trans HB03.out).setCell (show w.heap.size ≤ w.heap.size + 1 by omega) _
  · have HTO := Lib.hid ht
    clear ht
    go_wp2_with fail
    refine (iIsNode_c _ _ _ _ _).mono ?_
    rintro e w4 ⟨rfl, hb4⟩
    have HB04 := hid' (HB03.out.trans hb4)
    have HB24 := hid' (HB23.out.trans hb4)
    clear hc1 hc3 hf3 hco hb4
    have hc1 := HK1.out _ HB04.out
    have hc3 := (HK3.out _ HB04.out).1
    have hf3 := (HK3.out _ HB04.out).2
    have hco := HOC.out _ HB24.out
    have HT4 := hid' (HT1.out.keep (HB2.out.trans HB24.out))
    cases hnn : isNodeB T n
    · have HR : Hid (removeKidT T n kid = (T, 1)) := hid' (by simp [removeKidT, hnn])
      go_wp2_with fail
      refine bodyPost_ret (v := .tuple #[.agg #[.slice A1 T.length c1], .int .i64 1]) (by simp [results, Try.results32, go_sem, *]) rfl ⟨_, _, by (rw [HR.out]; try (first | rfl | (rw [← HLS.out]))), ?_, ?_⟩
      · rw [HR.out]
        exact (TreeAt.far HT4.out (grown_set _ _ _) (by rw [HS.out]; omega)).base (by rw [HS.out]; omega)
      · exact (HWB.out.trans HB04.out).setCell (show w.heap.size ≤ w.heap.size + 1 by omega) _
    · have HNN := Lib.hid hnn
      clear hnn
      go_wp2_with fail
      refine (iIsNode_c _ _ _ _ _).mono ?_
      rintro e w5 ⟨rfl, hb5⟩
      have HB05 := hid' (HB04.out.trans hb5)
      have HB25 := hid' (HB24.out.trans hb5)
      clear hc1 hc3 hf3 hco hb5
      have hc1 := HK1.out _ HB05.out
      have hc3 := (HK3.out _ HB05.out).1
      have hf3 := (HK3.out _ HB05.out).2
      have hco := HOC.out _ HB25.out
      have HT5 := hid' (HT1.out.keep (HB2.out.trans HB25.out))
      cases hkk : isNodeB T kid
      · have HR : Hid (removeKidT T n kid = (T, 1)) := hid' (by simp [removeKidT, hkk])
        go_wp2_with fail
        refine bodyPost_ret (v := .tuple #[.agg #[.slice A1 T.length c1], .int .i64 1]) (by simp [results, Try.results32, go_sem, *]) rfl ⟨_, _, by (rw [HR.out]; try (first | rfl | (rw [← HLS.out]))), ?_, ?_⟩
        · rw [HR.out]
          exact (TreeAt.far HT5.out (grown_set _ _ _) (by rw [HS.out]; omega)).base (by rw [HS.out]; omega)
        · exact (HWB.out.trans HB05.out).setCell (show w.heap.size ≤ w.heap.size + 1 by omega) _
      · obtain ⟨j, rfl, hj⟩ := isNode_split HNN.out
        obtain ⟨k, rfl, hk⟩ := isNode_split hkk
        have HKK := Lib.hid hkk
        clear hkk
        have h12 := treeOk_len HTO.out
        have hk12 := kids_few HTO.out hj
        obtain ⟨b, o, K, ck, R, cr, rfl, hbl, hrg, hKI⟩ := h.nodes.open1 hj
        have HRG := Lib.hid hrg
        have HKI := Lib.hid hKI
        have HHB := hid' (hasB_up HTO.out hj hk)
        have HUP : Hid (upOf T ((k : Int) + 1) = (node_ T k).up) := hid' (upOf_eq T k)
        clear hrg hKI
        go_wp2_with fail
        refine (iNode_at b o c T j K _ ck R _ cr _ (Nat.lt_of_lt_of_le hbl (HWB.out.trans HB05.out).sz) (range_bel HRG.out (HWB.out.trans HB05.out) hbl) hj hT).mono ?_
        rintro e w6 ⟨rfl, hb6⟩
        have HB06 := hid' (HB05.out.trans hb6)
        have HB26 := hid' (HB25.out.trans hb6)
        clear hc1 hc3 hf3 hco hb6
        have hc1 := HK1.out _ HB06.out
        have hc3 := (HK3.out _ HB06.out).1
        have hf3 := (HK3.out _ HB06.out).2
        have hco := HOC.out _ HB26.out
        have HT6 := hid' (HT1.out.keep (HB2.out.trans HB26.out))
        have hfu := field_kids (node_ T j) (.slice K (node_ T j).kids.length ck) (.slice R (node_ T j).rules.length cr) w6
        go_wp2_with fail
        clear hfu
        refine (hasInt_c _ _ _ _ _ (HKI.out.keep (HWB.out.trans HB06.out)) (by omega)).mono ?_
        rintro e w7 ⟨rfl, hb7⟩
        have HB07 := hid' (HB06.out.trans hb7)
        have HB27 := hid' (HB26.out.trans hb7)
        clear hc1 hc3 hf3 hco hb7
        have hc1 := HK1.out _ HB07.out
        have hc3 := (HK3.out _ HB07.out).1
        have hf3 := (HK3.out _ HB07.out).2
        have hco := HOC.out _ HB27.out
        have HT7 := hid' (HT1.out.keep (HB2.out.trans HB27.out))
        rw [HHB.out]
        by_cases hup : (node_ T k).up = (j : Int) + 1
        · have HR : Hid (removeKidT T ((j : Int) + 1) ((k : Int) + 1) = (remT T j k, 0)) := hid' (by simp [removeKidT, HTO.out, HNN.out, HKK.out, HUP.out, hup])
          rw [decide_eq_true hup]
          clear hup
          go_wp2_with fail
          refine (iNode_at b o c T j K _ ck R _ cr _ (Nat.lt_of_lt_of_le hbl (HWB.out.trans HB07.out).sz) (range_bel HRG.out (HWB.out.trans HB07.out) hbl) hj hT).mono ?_
          rintro e w8 ⟨rfl, hb8⟩
          have HB08 := hid' (HB07.out.trans hb8)
          have HB28 := hid' (HB27.out.trans hb8)
          clear hc1 hc3 hf3 hco hb8
          have hc1 := HK1.out _ HB08.out
          have hc3 := (HK3.out _ HB08.out).1
          have hf3 := (HK3.out _ HB08.out).2
          have hco := HOC.out _ HB28.out
          have HT8 := hid' (HT1.out.keep (HB2.out.trans HB28.out))
          have hfu := field_kids (node_ T j) (.slice K (node_ T j).kids.length ck) (.slice R (node_ T j).rules.length cr) w8
          obtain ⟨nk, hnk⟩ : ∃ nk, (node_ T j).kids.length = nk := ⟨_, rfl⟩
          have HNK := Lib.hid hnk
          rw [hnk] at hk12
          rw [hnk] at hfu ⊢
          clear hnk
          go_wp2_with fail
          clear hfu
          go_loopw [9, 45] (fun v i wr => ∃ (q : Nat), q ≤ nk ∧ i = .int .i64 q ∧ Hid (wr.ownsRow w8.heap.size 3 1 v (remTo (node_ T j).kids ((k : Int) + 1) q).length (VI (remTo (node_ T j).kids ((k : Int) + 1) q))) ∧ Bel w8 wr) (fun _ i _ => nk - (intOf i).toNat)
          case atStart => exact ⟨0, Nat.zero_le _, rfl, hid' (own_nil _ _ _), Bel.refl w8⟩
          case round =>
            obtain ⟨q, hq, rfl, HO, hb⟩ := hrel
            by_cases hql : q < nk
            · have hqk : q < (node_ T j).kids.length := by rw [HNK.out]; exact hql
              obtain ⟨bk, ok, rfl, hbk, hck⟩ := HKI.out q hqk
              have hcK := ((HWB.out.trans (HB08.out.trans hb)).cell _ _ hbk).trans (hck q hqk)
              have hqi : (q : Int) < (nk : Int) := by omega
              have hle : (remTo (node_ T j).kids ((k : Int) + 1) q).length ≤ 12 := Nat.le_trans (remTo_len _ _ _) (by rw [HNK.out]; exact hk12)
              clear hck
              by_cases he : at_ (node_ T j).kids q = (k : Int) + 1
              · have hne : (at_ (node_ T j).kids q != (k : Int) + 1) = false := by simp [he]
                have HN1 := hid' (remTo_no hqk he)
                clear he hqk
                go_wp2_with fail
                go_roundw
                case rel => exact ⟨q + 1, by omega, by go_num, hid' (by rw [HN1.out]; exact HO.out), hb⟩
                case measure => simp [intOf]; omega
              · have hne : (at_ (node_ T j).kids q != (k : Int) + 1) = true := by simp [he]
                have HN1 := hid' (remTo_yes hqk he)
                clear he hqk
                go_wp2_with (at_builtin; refine app1w rfl (.tmp 52) (.tmp 54) rfl w8.heap.size _ _ _ rfl (HO.out.alloc _) wr.heap.size _ rfl (World.cell?_alloc_new _ _ _ _) (by omega) (hb.alloc _).sz ?_; intro v9 w9 ho9 hg9 hv9; have hb9 : Bel w8 w9 := (hb.alloc _).own (Nat.le_refl _) (HO.out.alloc _) hg9; clear hv9)
                go_roundw
                case rel => exact ⟨q + 1, by omega, by go_num, hid' (by rw [HN1.out, List.length_append, ← VI_snoc]; exact ho9), hb9⟩
                case measure => simp [intOf]; omega
            · obtain rfl : nk = q := by omega
              rw [← HNK.out] at HO
              rename_i uv _
              have hlen := remTo_len (node_ T j).kids ((k : Int) + 1) (node_ T j).kids.length
              obtain ⟨g, KS, RS, rfl, hE⟩ := Ed.of_tree HT8.out (by omega)
              have hgl := (Ed.of_tree HT1.out (by omega)).elim fun g' h => h.elim fun KS' h => h.elim fun RS' h => (by have e := h.1; injection e with e; injection e with e; rw [e]; exact h.2.lo : W0.heap.size ≤ g ∧ g < w1.heap.size)
              obtain ⟨Av, cv, rfl, -, -, -, -⟩ := own_openC HO.out
              have HE := hid' (hE.keep hb)
              have HF := hid' (copy_row hE.fam hb (r := kidsRow (.slice Av (remTo (node_ T j).kids ((k : Int) + 1) (node_ T j).kids.length).length cv) (remTo (node_ T j).kids ((k : Int) + 1) (node_ T j).kids.length)) HO.out HB08.out.sz)
              have HBr := hid' (HB08.out.trans hb)
              have hjt : (j : Int) < (T.length : Int) := by omega
              have hkt : (k : Int) < (T.length : Int) := by omega
              clear hE
              clear hc1 hc3 hf3 hco
              have hco := HOC.out _ (HB28.out.trans hb)
              go_wp2_with (first
                | ((with_reducible show wpList _ _ _ (Oper.mk _ (Op.store _ _ _) _ _ _ _ :: _) _ _); refine HE.out.storeKids hj HF.out rfl _ _ rfl rfl rfl rfl rfl ?_; intro w8 H8
                   have HB08 := hid' (HBr.out.grown H8.out.2 (fun q e => by injection e with e; omega))
                   have hco8 : w8.cell? ⟨w1.heap.size, 0, none⟩ = some (.slice (some ⟨g, 0, none⟩) T.length c1) := (World.grownBy.cell_far H8.out.2 ⟨w1.heap.size, 0, none⟩ (World.block_lt_of_cell? _ _ hco) (fun e => by injection e with e; have h1 : w1.heap.size = g := e; omega)).trans hco)
                | ((with_reducible show wpList _ _ _ (Oper.mk _ (Op.store _ _ _) _ _ _ _ :: _) _ _); refine H8.out.1.storeUp (j := k) (by rw [List.length_set]; exact hk) rfl _ _ rfl rfl rfl ?_; intro w9 H9
                   have HB09 := hid' (HB08.out.grown H9.out.2 (fun q e => by injection e with e; omega))
                   have hc9 := (HK3.out _ HB09.out).1
                   have hf9 := (HK3.out _ HB09.out).2
                   have hco9 : w9.cell? ⟨w1.heap.size, 0, none⟩ = some (.slice (some ⟨g, 0, none⟩) T.length c1) := (World.grownBy.cell_far H9.out.2 ⟨w1.heap.size, 0, none⟩ (World.block_lt_of_cell? _ _ hco8) (fun e => by injection e with e; have h1 : w1.heap.size = g := e; omega)).trans hco8))
              have HT9 : Hid (TreeAt w9 W0.heap.size (.slice (some ⟨g, 0, none⟩) (remT T j k).length c1) (remT T j k)) := hid' (by rw [remT_length]; exact H9.out.1.tree)
              have HLS : Hid (T.length = (remT T j k).length) := hid' (remT_length T j k).symm
              refine bodyPost_ret (v := .tuple #[.agg #[.slice (some ⟨g, 0, none⟩) T.length c1], .int .i64 0]) (by simp [results, Try.results32, go_sem, *]) rfl ⟨_, _, by (rw [HR.out]; try (first | rfl | (rw [← HLS.out]))), ?_, ?_⟩
              · rw [HR.out]
                exact (TreeAt.far HT9.out (grown_set _ _ _) (by rw [HS.out]; omega)).base (by rw [HS.out]; omega)
              · exact (HWB.out.trans HB09.out).setCell (show w.heap.size ≤ w.heap.size + 1 by omega) _
        · have HR : Hid (removeKidT T ((j : Int) + 1) ((k : Int) + 1) = (T, 3)) := hid' (by simp [removeKidT, HTO.out, HNN.out, HKK.out, HUP.out, hup])
          rw [decide_eq_false hup]
          clear hup
          go_wp2_with fail
          refine bodyPost_ret (v := .tuple #[.agg #[.slice A1 T.length c1], .int .i64 3]) (by simp [results, Try.results32, go_sem, *]) rfl ⟨_, _, by (rw [HR.out]; try (first | rfl | (rw [← HLS.out]))), ?_, ?_⟩
          · rw [HR.out]
            exact (TreeAt.far HT7.out (grown_set _ _ _) (by rw [HS.out]; omega)).base (by rw [HS.out]; omega)
          · exact (HWB.out.trans HB07.out).setCell (show w.heap.size ≤ w.heap.size + 1 by omega) _
set_option maxRecDepth 100000 in
set_option maxHeartbeats 8000000 in
theorem sRemoveKid_c (A : Option Addr) (c : Nat) (T : List NodeD) (n kid : Int) (w : World) (h : NodesC w A T) (hn : treeSz T ≤ 1048576) :
    Calls Try.prog 31 #[treeV A T.length c, .int .i64 n, .int .i64 kid] w fun e w' => ∃ A' c', e = .returned (.tuple #[treeV A' (removeKidT T n kid).1.length c', .int .i64 (removeKidT T n kid).2]) ∧ TreeAt w' w.heap.size (.slice A' (removeKidT T n kid).1.length c') (removeKidT T n kid).1 ∧ Bel w w' := by
  have hT := len_of hn
  have HKR := hid' (kr_of hn)
  have HN := Lib.hid hn
  clear hn
  obtain ⟨W0, hW0⟩ : ∃ W0, W0 = (w.alloc (.cells #[.slice A T.length c] 30)).alloc (.cells #[.slice none 0 0] 30) := ⟨_, rfl⟩
  have HWB : Hid (Bel w W0) := hid' (by rw [hW0]; exact ((Bel.refl w).alloc _).alloc _)
  have HS : Hid (W0.heap.size = w.heap.size + 1 + 1) := hid' (by rw [hW0]; simp)
  have HK1 : Hid (∀ u, Bel W0 u → u.cell? ⟨w.heap.size, 0, none⟩ = some (.slice A T.length c)) := hid' (fun u hu => by
    have hb : Bel (w.alloc (.cells #[.slice A T.length c] 30)) W0 := by rw [hW0]; exact (Bel.refl _).alloc _
    exact ((hb.trans hu).cell _ _ (by simp)).trans (by simp))
  have HK3 : Hid (∀ u, Bel W0 u → u.cell? ⟨w.heap.size + 1, 0, none⟩ = some (.slice none 0 0) ∧ u.frozen? ⟨w.heap.size + 1, 0, none⟩ = false) := hid' (fun u hu => by
    have hz : (w.alloc (.cells #[.slice A T.length c] 30)).heap.size = w.heap.size + 1 := by simp
    rw [hW0] at hu
    rw [← hz]
    exact ⟨(hu.cell _ _ (by simp)).trans (new_cell1 _ _ _).1, (hu.frozen _ _ (by simp)).trans (new_cell1 _ _ _).2⟩)
  go_enter Try.func31, Try.ntmps31
  go_wp2_with fail
  rw [← hW0]
  clear hW0
  refine (sCopyTree_c _ _ _ _ (h.keep HWB.out) HN.out).mono ?_; rintro e w1 ⟨A1, c1, rfl, ht1, hb1⟩
  have HT1 := Lib.hid ht1
  clear ht1
  have hcA := HK1.out _ (hb1.alloc (.cells #[.slice A1 T.length c1] 30))
  have hlb1 : w.heap.size + 1 < w1.heap.size := by have := hb1.sz; rw [HS.out] at this; omega
  have HB1 := Lib.hid hb1
  go_wp2_with fail
  obtain ⟨w2, hw2⟩ : ∃ w2, w2 = w1.alloc (.cells #[.slice A1 T.length c1] 30) := ⟨_, rfl⟩
  rw [← hw2] at hcA ⊢
  have HOC : Hid (∀ u, Bel w2 u → u.cell? ⟨w1.heap.size, 0, none⟩ = some (.slice A1 T.length c1)) := hid' (fun u hu => by rw [hu.cell _ _ (by rw [hw2]; simp), hw2]; simp)
  have HB2 : Hid (Bel w1 w2) := hid' (by rw [hw2]; exact (Bel.refl w1).alloc _)
  have HL2 : Hid (w1.heap.size < w2.heap.size) := hid' (by rw [hw2]; simp)
  clear hw2 hcA hb1
  have HB02 := hid' (HB1.out.trans HB2.out)
  refine (sTreeOk_c _ _ _ _ (h.nodes.keep (HWB.out.trans HB02.out)) hT HKR.out).mono ?_; rintro e w3 ⟨rfl, hb3⟩
  have HB03 := hid' (HB02.out.trans hb3)
  have HB23 := Lib.hid hb3
  clear hb3
  have hc1 := HK1.out _ HB03.out
  have hc3 := (HK3.out _ HB03.out).1
  have hf3 := (HK3.out _ HB03.out).2
  have hco := HOC.out _ HB23.out
  have HT3 := hid' (HT1.out.keep (HB2.out.trans HB23.out))
  cases ht : treeOk T
  · have HR : Hid (removeKidT T n kid = (T, 1)) := hid' (by simp [removeKidT, ht])
    go_wp2_with fail
    refine bodyPost_ret (v := .tuple #[.agg #[.slice A1 T.length c1], .int .i64 1]) (by simp [results, Try.results31, go_sem, *]) rfl ⟨_, _, by (rw [HR.out]; try (first | rfl | (rw [← HLS.out]))), ?_, ?_⟩
    · rw [HR.out]
      exact (TreeAt.far HT3.out (grown_set _ _ _) (by rw [HS.out]; omega)).base (by rw [HS.out]; omega)
    · exact (HWB.out.trans HB03.out).setCell (show w.heap.size ≤ w.heap.size + 1 by omega) _
  · have HTO := Lib.hid ht
    clear ht
    go_wp2_with fail
    refine (sIsNode_c _ _ _ _ _).mono ?_
    rintro e w4 ⟨rfl, hb4⟩
    have HB04 := hid' (HB03.out.trans hb4)
    have HB24 := hid' (HB23.out.trans hb4)
    clear hc1 hc3 hf3 hco hb4
    have hc1 := HK1.out _ HB04.out
    have hc3 := (HK3.out _ HB04.out).1
    have hf3 := (HK3.out _ HB04.out).2
    have hco := HOC.out _ HB24.out
    have HT4 := hid' (HT1.out.keep (HB2.out.trans HB24.out))
    cases hnn : isNodeB T n
    · have HR : Hid (removeKidT T n kid = (T, 1)) := hid' (by simp [removeKidT, hnn])
      go_wp2_with fail
      refine bodyPost_ret (v := .tuple #[.agg #[.slice A1 T.length c1], .int .i64 1]) (by simp [results, Try.results31, go_sem, *]) rfl ⟨_, _, by (rw [HR.out]; try (first | rfl | (rw [← HLS.out]))), ?_, ?_⟩
      · rw [HR.out]
        exact (TreeAt.far HT4.out (grown_set _ _ _) (by rw [HS.out]; omega)).base (by rw [HS.out]; omega)
      · exact (HWB.out.trans HB04.out).setCell (show w.heap.size ≤ w.heap.size + 1 by omega) _
    · have HNN := Lib.hid hnn
      clear hnn
      go_wp2_with fail
      refine (sIsNode_c _ _ _ _ _).mono ?_
      rintro e w5 ⟨rfl, hb5⟩
      have HB05 := hid' (HB04.out.trans hb5)
      have HB25 := hid' (HB24.out.trans hb5)
      clear hc1 hc3 hf3 hco hb5
      have hc1 := HK1.out _ HB05.out
      have hc3 := (HK3.out _ HB05.out).1
      have hf3 := (HK3.out _ HB05.out).2
      have hco := HOC.out _ HB25.out
      have HT5 := hid' (HT1.out.keep (HB2.out.trans HB25.out))
      cases hkk : isNodeB T kid
      · have HR : Hid (removeKidT T n kid = (T, 1)) := hid' (by simp [removeKidT, hkk])
        go_wp2_with fail
        refine bodyPost_ret (v := .tuple #[.agg #[.slice A1 T.length c1], .int .i64 1]) (by simp [results, Try.results31, go_sem, *]) rfl ⟨_, _, by (rw [HR.out]; try (first | rfl | (rw [← HLS.out]))), ?_, ?_⟩
        · rw [HR.out]
          exact (TreeAt.far HT5.out (grown_set _ _ _) (by rw [HS.out]; omega)).base (by rw [HS.out]; omega)
        · exact (HWB.out.trans HB05.out).setCell (show w.heap.size ≤ w.heap.size + 1 by omega) _
      · obtain ⟨j, rfl, hj⟩ := isNode_split HNN.out
        obtain ⟨k, rfl, hk⟩ := isNode_split hkk
        have HKK := Lib.hid hkk
        clear hkk
        have h12 := treeOk_len HTO.out
        have hk12 := kids_few HTO.out hj
        obtain ⟨b, o, K, ck, R, cr, rfl, hbl, hrg, hKI⟩ := h.nodes.open1 hj
        have HRG := Lib.hid hrg
        have HKI := Lib.hid hKI
        have HHB := hid' (hasB_up HTO.out hj hk)
        have HUP : Hid (upOf T ((k : Int) + 1) = (node_ T k).up) := hid' (upOf_eq T k)
        clear hrg hKI
        obtain ⟨b', o', K2, ck2, R2, cr2, hA2, hbl2, hrg2, -⟩ := h.nodes.open1 hk
        obtain ⟨rfl, rfl⟩ : b = b' ∧ o = o' := by cases hA2; exact ⟨rfl, rfl⟩
        have HRG2 := Lib.hid hrg2
        clear hrg2 hA2
        go_wp2_with fail
        refine (sNode_at b o c T k K2 _ ck2 R2 _ cr2 _ (Nat.lt_of_lt_of_le hbl (HWB.out.trans HB05.out).sz) (range_bel HRG2.out (HWB.out.trans HB05.out) hbl) hk hT).mono ?_
        rintro e w6 ⟨rfl, hb6⟩
        have HB06 := hid' (HB05.out.trans hb6)
        have HB26 := hid' (HB25.out.trans hb6)
        clear hc1 hc3 hf3 hco hb6
        have hc1 := HK1.out _ HB06.out
        have hc3 := (HK3.out _ HB06.out).1
        have hf3 := (HK3.out _ HB06.out).2
        have hco := HOC.out _ HB26.out
        have HT6 := hid' (HT1.out.keep (HB2.out.trans HB26.out))
        have hfu := field_up (node_ T k) (.slice K2 (node_ T k).kids.length ck2) (.slice R2 (node_ T k).rules.length cr2) w6
        by_cases hup : (node_ T k).up = (j : Int) + 1
        · have HR : Hid (removeKidT T ((j : Int) + 1) ((k : Int) + 1) = (remT T j k, 0)) := hid' (by simp [removeKidT, HTO.out, HNN.out, HKK.out, HUP.out, hup])
          have hne0 : ((node_ T k).up != (j : Int) + 1) = false := by simp [hup]
          have HO0 : Hid ((w6.alloc (.cells #[] 3)).ownsRow w6.heap.size 3 1 (.slice (some ⟨w6.heap.size, 0, none⟩) 0 0) (remTo (node_ T j).kids ((k : Int) + 1) 0).length (VI (remTo (node_ T j).kids ((k : Int) + 1) 0))) := hid' (World.ownsRow_lit (e := 3) w6 #[] 0 (Nat.le_refl _) (by unfold maxLen; omega) rfl)
          have hb0 : Bel w6 (w6.alloc (.cells #[] 3)) := (Bel.refl w6).alloc _
          clear hup
          obtain ⟨nk, hnk⟩ : ∃ nk, (node_ T j).kids.length = nk := ⟨_, rfl⟩
          have HNK := Lib.hid hnk
          have HRG3 := HRG
          rw [hnk] at hk12 HRG3
          clear hnk
          go_wp2_with fail
          clear hfu
          go_loopw [9, 10] (fun v i wr => ∃ (q : Nat), q ≤ nk ∧ i = .int .i64 q ∧ Hid (wr.ownsRow w6.heap.size 3 1 v (remTo (node_ T j).kids ((k : Int) + 1) q).length (VI (remTo (node_ T j).kids ((k : Int) + 1) q))) ∧ Bel w6 wr) (fun _ i _ => nk - (intOf i).toNat)
          case atStart => exact ⟨0, Nat.zero_le _, rfl, HO0, hb0⟩
          case round =>
            obtain ⟨q, hq, rfl, HO, hb⟩ := hrel
            have hc0 := HK1.out _ (HB06.out.trans hb)
            go_wp2_with fail
            refine (sNode_at b o c T j K _ ck R _ cr _ (Nat.lt_of_lt_of_le hbl (HWB.out.trans (HB06.out.trans hb)).sz) (range_bel HRG3.out (HWB.out.trans (HB06.out.trans hb)) hbl) hj hT).mono ?_; rintro e wa ⟨rfl, hba'⟩
            have hba := hb.trans hba'
            have hfa := field_kids (node_ T j) (.slice K nk ck) (.slice R (node_ T j).rules.length cr) wa
            have hca := HK1.out _ (HB06.out.trans hba)
            have HOA := hid' (own_keep HO.out hba')
            clear hc0
            by_cases hql : q < nk
            · have hqk : q < (node_ T j).kids.length := by rw [HNK.out]; exact hql
              obtain ⟨bk, ok, rfl, hbk, hck⟩ := HKI.out q hqk
              have hqi : (q : Int) < (nk : Int) := by omega
              have hle : (remTo (node_ T j).kids ((k : Int) + 1) q).length ≤ 12 := Nat.le_trans (remTo_len _ _ _) (by rw [HNK.out]; exact hk12)
              go_wp2_with fail
              clear hfa
              refine (sNode_at b o c T j (some ⟨bk, ok, none⟩) _ ck R _ cr _ (Nat.lt_of_lt_of_le hbl (HWB.out.trans (HB06.out.trans hba)).sz) (range_bel HRG3.out (HWB.out.trans (HB06.out.trans hba)) hbl) hj hT).mono ?_; rintro e wb ⟨rfl, hbb'⟩
              have hbb := hba.trans hbb'
              have hfb := field_kids (node_ T j) (.slice (some ⟨bk, ok, none⟩) nk ck) (.slice R (node_ T j).rules.length cr) wb
              have hcb := HK1.out _ (HB06.out.trans hbb)
              have HOB := hid' (own_keep HOA.out hbb')
              have hcK := ((HWB.out.trans (HB06.out.trans hbb)).cell _ _ hbk).trans (hck q hqk)
              clear hca
              by_cases he : at_ (node_ T j).kids q = (k : Int) + 1
              · have hne : (at_ (node_ T j).kids q != (k : Int) + 1) = false := by simp [he]
                have HN1 := hid' (remTo_no hqk he)
                clear he hqk hck
                go_wp2_with fail
                go_roundw
                case rel => exact ⟨q + 1, by omega, by go_num, hid' (by rw [HN1.out]; exact HOB.out), hbb⟩
                case measure => simp [intOf]; omega
              · have hne : (at_ (node_ T j).kids q != (k : Int) + 1) = true := by simp [he]
                have HN1 := hid' (remTo_yes hqk he)
                have HCK := hid' (hck q hqk)
                clear he hqk hck
                go_wp2_with fail
                clear hfb hcK
                refine (sNode_at b o c T j (some ⟨bk, ok, none⟩) _ ck R _ cr _ (Nat.lt_of_lt_of_le hbl (HWB.out.trans (HB06.out.trans hbb)).sz) (range_bel HRG3.out (HWB.out.trans (HB06.out.trans hbb)) hbl) hj hT).mono ?_; rintro e wc ⟨rfl, hbc'⟩
                have hbc := hbb.trans hbc'
                have hfc := field_kids (node_ T j) (.slice (some ⟨bk, ok, none⟩) nk ck) (.slice R (node_ T j).rules.length cr) wc
                have HOC2 := hid' (own_keep HOB.out hbc')
                have hcK := ((HWB.out.trans (HB06.out.trans hbc)).cell _ _ hbk).trans HCK.out
                clear hcb
                go_wp2_with (at_builtin; refine app1w rfl (.tmp 55) (.tmp 63) rfl w6.heap.size _ _ _ rfl (HOC2.out.alloc _) wc.heap.size _ rfl (World.cell?_alloc_new _ _ _ _) (by omega) (hbc.alloc _).sz ?_; intro v9 w9 ho9 hg9 hv9; have hb9 : Bel w6 w9 := (hbc.alloc _).own (Nat.le_refl _) (HOC2.out.alloc _) hg9; clear hv9)
                go_roundw
                case rel => exact ⟨q + 1, by omega, by go_num, hid' (by rw [HN1.out, List.length_append, ← VI_snoc]; exact ho9), hb9⟩
                case measure => simp [intOf]; omega
            · obtain rfl : nk = q := by omega
              rw [← HNK.out] at HOA
              have HO2 := HOA
              clear HO
              have HO := HO2
              replace hb := hba
              have hlen := remTo_len (node_ T j).kids ((k : Int) + 1) (node_ T j).kids.length
              obtain ⟨g, KS, RS, rfl, hE⟩ := Ed.of_tree HT6.out (by omega)
              have hgl := (Ed.of_tree HT1.out (by omega)).elim fun g' h => h.elim fun KS' h => h.elim fun RS' h => (by have e := h.1; injection e with e; injection e with e; rw [e]; exact h.2.lo : W0.heap.size ≤ g ∧ g < w1.heap.size)
              obtain ⟨Av, cv, rfl, -, -, -, -⟩ := own_openC HO.out
              have HE := hid' (hE.keep hb)
              have HF := hid' (copy_row hE.fam hb (r := kidsRow (.slice Av (remTo (node_ T j).kids ((k : Int) + 1) (node_ T j).kids.length).length cv) (remTo (node_ T j).kids ((k : Int) + 1) (node_ T j).kids.length)) HO.out HB06.out.sz)
              have HBr := hid' (HB06.out.trans hb)
              have hjt : (j : Int) < (T.length : Int) := by omega
              have hkt : (k : Int) < (T.length : Int) := by omega
              clear hE
              clear hc1 hc3 hf3 hco
              have hco := HOC.out _ (HB26.out.trans hb)
              go_wp2_with (first
                | ((with_reducible show wpList _ _ _ (Oper.mk _ (Op.store _ _ _) _ _ _ _ :: _) _ _); refine HE.out.storeKids hj HF.out rfl _ _ rfl rfl rfl rfl rfl ?_; intro w8 H8
                   have HB08 := hid' (HBr.out.grown H8.out.2 (fun q e => by injection e with e; omega))
                   have hco8 : w8.cell? ⟨w1.heap.size, 0, none⟩ = some (.slice (some ⟨g, 0, none⟩) T.length c1) := (World.grownBy.cell_far H8.out.2 ⟨w1.heap.size, 0, none⟩ (World.block_lt_of_cell? _ _ hco) (fun e => by injection e with e; have h1 : w1.heap.size = g := e; omega)).trans hco)
                | ((with_reducible show wpList _ _ _ (Oper.mk _ (Op.store _ _ _) _ _ _ _ :: _) _ _); refine H8.out.1.storeUp (j := k) (by rw [List.length_set]; exact hk) rfl _ _ rfl rfl rfl ?_; intro w9 H9
                   have HB09 := hid' (HB08.out.grown H9.out.2 (fun q e => by injection e with e; omega))
                   have hc9 := (HK3.out _ HB09.out).1
                   have hf9 := (HK3.out _ HB09.out).2
                   have hco9 : w9.cell? ⟨w1.heap.size, 0, none⟩ = some (.slice (some ⟨g, 0, none⟩) T.length c1) := (World.grownBy.cell_far H9.out.2 ⟨w1.heap.size, 0, none⟩ (World.block_lt_of_cell? _ _ hco8) (fun e => by injection e with e; have h1 : w1.heap.size = g := e; omega)).trans hco8))
              have HT9 : Hid (TreeAt w9 W0.heap.size (.slice (some ⟨g, 0, none⟩) (remT T j k).length c1) (remT T j k)) := hid' (by rw [remT_length]; exact H9.out.1.tree)
              have HLS : Hid (T.length = (remT T j k).length) := hid' (remT_length T j k).symm
              refine bodyPost_ret (v := .tuple #[.agg #[.slice (some ⟨g, 0, none⟩) T.length c1], .int .i64 0]) (by simp [results, Try.results31, go_sem, *]) rfl ⟨_, _, by (rw [HR.out]; try (first | rfl | (rw [← HLS.out]))), ?_, ?_⟩
              · rw [HR.out]
                exact (TreeAt.far HT9.out (grown_set _ _ _) (by rw [HS.out]; omega)).base (by rw [HS.out]; omega)
              · exact (HWB.out.trans HB09.out).setCell (show w.heap.size ≤ w.heap.size + 1 by omega) _
        · have HR : Hid (removeKidT T ((j : Int) + 1) ((k : Int) + 1) = (T, 3)) := hid' (by simp [removeKidT, HTO.out, HNN.out, HKK.out, HUP.out, hup])
          have hne0 : ((node_ T k).up != (j : Int) + 1) = true := by simp [hup]
          clear hup
          go_wp2_with fail
          refine bodyPost_ret (v := .tuple #[.agg #[.slice A1 T.length c1], .int .i64 3]) (by simp [results, Try.results31, go_sem, *]) rfl ⟨_, _, by (rw [HR.out]; try (first | rfl | (rw [← HLS.out]))), ?_, ?_⟩
          · rw [HR.out]
            exact (TreeAt.far HT6.out (grown_set _ _ _) (by rw [HS.out]; omega)).base (by rw [HS.out]; omega)
          · exact (HWB.out.trans HB06.out).setCell (show w.heap.size ≤ w.heap.size + 1 by omega) _
end Go.Proofs.Ytcdneamoemmohaa
