/- Lines on the cross axis: copyInts, StretchLines, betweenOf, PlaceLines. -/
import Derived.Test.YtgelpfecfbagdaaLead
import Derived.Test.YtgelpfecfbagdaaMark
import Derived.StillTailTactics
namespace Go.Proofs.Ytgelpfecfbagdaa
open Go.RowKit Go.ChangeShapes Go.WideShapes
set_option linter.unusedVariables false
set_option linter.unusedSimpArgs false

set_option maxHeartbeats 1000000 in
theorem copyInts_c (A : Option Addr) (c : Nat) (zs : List Int) (w : World) (h : Ints w A zs) (hA : A = none → c = 0) (hn : zs.length ≤ 1048576) :
    Calls Try.prog 68 #[.slice A zs.length c] w fun r w' => ∃ v, r = .returned v ∧ w'.ownsRow w.heap.size 3 1 v zs.length (VI zs) ∧ Bel w w' := by
  go_enter Try.func68, Try.ntmps68
  go_wp2_with (at_builtin; refine appS rfl _ _ rfl w.heap.size (.slice none 0 0) 0 [] rfl ⟨rfl, .inl ⟨rfl, rfl⟩⟩ A c zs rfl h hA (by omega) (Nat.le_refl _) ?_; intro v' w' ho' hg')
  go_ret
  have hb : Bel w w' := (Bel.refl w).grown hg' (by simp [Value.ownBlock])
  exact ⟨_, rfl, by simpa using ho', hb⟩

/-! ### StretchLines -/
def stretchFree (zs : List Int) (gap inner : Int) : Int := wrap64 (inner - crossTotal zs gap)
def stretches (zs : List Int) (gap inner content : Int) : Bool := acrossOk zs gap inner && decide (content = 1) && decide (0 < stretchFree zs gap inner)
def stretchAt (zs ev : List Int) (i : Nat) : Int := wrap64 (at_ zs i + at_ ev i)
def stretch (zs : List Int) (gap inner content : Int) : List Int :=
  if stretches zs gap inner content then (List.range zs.length).map (stretchAt zs (evenly (stretchFree zs gap inner) zs.length)) else zs
theorem stretch_length (zs : List Int) (gap inner content : Int) : (stretch zs gap inner content).length = zs.length := by
  unfold stretch; split <;> simp
theorem across_len {zs : List Int} {gap inner : Int} (h : acrossOk zs gap inner = true) : zs.length ≤ 12 := by
  simp only [acrossOk, Bool.and_eq_true, decide_eq_true_eq] at h
  exact h.1.1.2

theorem stretch_yes {zs : List Int} {gap inner : Int} (h1 : acrossOk zs gap inner = true) (h2 : 0 < wrap64 (inner - crossTotal zs gap)) :
    stretch zs gap inner 1 = (List.range zs.length).map (stretchAt zs (evenly (wrap64 (inner - crossTotal zs gap)) zs.length)) := by
  rw [stretch, if_pos (by simp only [stretches, stretchFree, h1, h2]; rfl)]; rfl
theorem stretches_free {zs : List Int} {gap inner content : Int} (h : wrap64 (inner - crossTotal zs gap) ≤ 0) : stretches zs gap inner content = false := by
  have h' : stretchFree zs gap inner ≤ 0 := h
  simp only [stretches, Bool.and_eq_false_iff, decide_eq_false_iff_not]
  right
  omega
theorem stretch_no {zs : List Int} {gap inner content : Int} (h : stretches zs gap inner content = false) : stretch zs gap inner content = zs := by
  rw [stretch, h]; rfl
set_option maxHeartbeats 4000000 in
theorem iStretchLines_c (A : Option Addr) (c : Nat) (zs : List Int) (gap inner content : Int) (w : World) (h : Ints w A zs) (hA : A = none → c = 0) (hn : zs.length ≤ 1048576) :
    Calls Try.prog 39 #[.slice A zs.length c, .int .i64 gap, .int .i64 inner, .int .i64 content] w fun r w' => ∃ v, r = .returned v ∧ w'.ownsRow w.heap.size 3 1 v zs.length (VI (stretch zs gap inner content)) ∧ Bel w w' := by
  have HA := Lib.hid hA
  clear hA
  go_enter Try.func39, Try.ntmps39
  go_wp2_with fail
  refine (copyInts_c _ _ _ _ h HA.out hn).mono ?_; rintro e w1 ⟨v1, rfl, ho1, hb1⟩
  obtain ⟨B, d, rfl, -, -, -, -⟩ := own_openN ho1
  have HO1 := Lib.hid ho1
  clear ho1
  go_wp2_with fail
  refine (iCrossTotal_c _ _ _ _ _ (h.keep hb1) hn).mono ?_; rintro e w2 ⟨rfl, hb2⟩
  have h2 := (h.keep hb1).keep hb2
  go_wp2_with fail
  refine (iAcrossOk_c _ _ _ _ _ _ h2 hn).mono ?_; rintro e w3 ⟨rfl, hb3⟩
  have HO3 := Lib.hid (own_keep (own_keep HO1.out hb2) hb3)
  have hb03 := (hb1.trans hb2).trans hb3
  cases hac : acrossOk zs gap inner with
  | false =>
    go_wp2_with fail
    go_ret
    refine ⟨_, rfl, ?_, hb03⟩
    rw [stretch_no (by simp [stretches, hac])]
    exact HO3.out
  | true =>
    by_cases hct : content = 1
    · subst hct
      by_cases hf : 0 < wrap64 (inner - crossTotal zs gap)
      · have HST := Lib.hid (stretch_yes hac hf)
        have hl12 := across_len hac
        go_wp2_with fail
        refine (iEvenly_c _ _ _).mono ?_; rintro e w4 ⟨v4, rfl, ho4, hb4⟩
        have hlE : (evenly (wrap64 (inner - crossTotal zs gap)) (zs.length : Int)).length = zs.length := by rw [evenly_length (inB_iff.2 (by omega))]; omega
        obtain ⟨be, hbe⟩ : ∃ be, be = w3.heap.size := ⟨_, rfl⟩
        rw [hlE, ← hbe] at ho4
        obtain ⟨E, ce, rfl, -, -, -, -⟩ := own_openN ho4
        have hoB := own_keep HO3.out hb4
        have hoE := ho4
        have hbE := hb03.trans hb4
        have hle0 : w3.heap.size ≤ be := by omega
        have hoB3 := HO3.out
        clear ho4 hac hf
        go_wp2_with fail
        have hNE := own_ne' hoB3 hoE hle0
        have HNE := Lib.hid hNE
        have HB := Lib.hid hoB
        have HEV := Lib.hid hoE
        have HLE := Lib.hid hlE
        clear hNE hoB hoE hlE hle0 hoB3
        go_loopw [39] (fun i wr => ∃ (k : Nat) (xs : List Value), k ≤ zs.length ∧ i = .int .i64 k ∧ wr.ownsRow w.heap.size 3 1 (.slice B zs.length d) zs.length xs ∧
            (∀ j, j < zs.length → xs[j]? = some (.int .i64 (if j < k then stretchAt zs (evenly (wrap64 (inner - crossTotal zs gap)) zs.length) j else at_ zs j))) ∧ wr.ownsRow be 3 1 (.slice E zs.length ce) zs.length (VI (evenly (wrap64 (inner - crossTotal zs gap)) zs.length)) ∧ Bel w wr) (fun i _ => zs.length - (intOf i).toNat)
        case atStart => exact ⟨0, VI zs, Nat.zero_le _, by go_num, HB.out, fun j hj => by rw [VI_at hj, if_neg (by omega)], HEV.out, hbE⟩
        case round =>
          obtain ⟨k, xs, hk, rfl, ho, hx, he, hb⟩ := hrel
          by_cases hlt : k < zs.length
          · obtain ⟨g, og, rfl, hgl, -⟩ := (own_ints HB.out) k hlt
            obtain rfl : og = 0 := own_off HB.out (by omega)
            obtain ⟨b2, o2, rfl, hbl2, hc2⟩ := (own_ints he) k (by rw [HLE.out]; exact hlt)
            have hcE : wr.cell? ⟨b2, o2 + k, none⟩ = some (.int .i64 (at_ (evenly (wrap64 (inner - crossTotal zs gap)) zs.length) k)) := hc2 k (by rw [HLE.out]; exact hlt)
            have hcO : wr.cell? ⟨g, k, none⟩ = some (.int .i64 (at_ zs k)) := by rw [ho.cellAt k (by omega), hx k hlt, if_neg (by omega)]
            have hfz : wr.frozen? ⟨g, k, none⟩ = false := ho.frozenAt k
            have hgw : w.heap.size ≤ g := (HB.out.lt g rfl).1
            have HS := Lib.hid (ho.stored k (.int .i64 (stretchAt zs (evenly (wrap64 (inner - crossTotal zs gap)) zs.length) k)))
            have hlti : (k : Int) < (zs.length : Int) := by omega
            have HX := Lib.hid hx
            have HO := Lib.hid ho
            have HE := Lib.hid he
            clear hc2 hx ho he
            go_wp2_with fail
            skip
            go_roundw
            case rel =>
              refine ⟨k + 1, _, by omega, by go_num, HS.out.1, fun j hj => ?_, HE.out.kept HS.out.2 HNE.out, hb.setCell hgw _⟩
              rw [List.getElem?_set]
              by_cases e : k = j
              · subst e; rw [if_pos rfl, if_pos (by have := HO.out.1; omega), if_pos (by omega)]
              · rw [if_neg e, HX.out j hj]
                by_cases h2 : j < k
                · rw [if_pos h2, if_pos (by omega)]
                · rw [if_neg h2, if_neg (by omega)]
            case measure => simp [intOf]; omega
          · obtain rfl : k = zs.length := by omega
            go_wp2_with fail
            go_ret
            refine ⟨_, rfl, ?_, hb⟩
            have e : xs = VI (stretch zs gap inner 1) := VI_ext (by rw [stretch_length]; have := ho.1; omega) (fun j hj => by
              rw [stretch_length] at hj
              rw [hx j hj, if_pos hj, HST.out]
              simp [at_, List.getD, hj])
            rw [← e]
            exact ho
      · go_wp2_with fail
        go_ret
        refine ⟨_, rfl, ?_, hb03⟩
        rw [stretch_no (stretches_free (by omega))]
        exact HO3.out
    · go_wp2_with fail
      go_ret
      refine ⟨_, rfl, ?_, hb03⟩
      rw [stretch_no (by simp [stretches, hct])]
      exact HO3.out
set_option maxHeartbeats 4000000 in
theorem sStretchLines_c (A : Option Addr) (c : Nat) (zs : List Int) (gap inner content : Int) (w : World) (h : Ints w A zs) (hA : A = none → c = 0) (hn : zs.length ≤ 1048576) :
    Calls Try.prog 38 #[.slice A zs.length c, .int .i64 gap, .int .i64 inner, .int .i64 content] w fun r w' => ∃ v, r = .returned v ∧ w'.ownsRow w.heap.size 3 1 v zs.length (VI (stretch zs gap inner content)) ∧ Bel w w' := by
  have HA := Lib.hid hA
  clear hA
  have ho0 : (w.alloc (.cells #[] 3)).ownsRow w.heap.size 3 1 (.slice (some ⟨w.heap.size, 0, none⟩) 0 0) 0 (VI []) := World.ownsRow_lit w #[] 0 (Nat.le_refl _) (by unfold maxLen; omega) rfl
  have hb0 : Bel w (w.alloc (.cells #[] 3)) := (Bel.refl w).alloc _
  go_enter Try.func38, Try.ntmps38
  go_wp2_with (at_builtin; refine appS rfl _ _ rfl w.heap.size (.slice (some ⟨w.heap.size, 0, none⟩) 0 0) 0 (VI []) rfl ho0 A c zs rfl (h.keep hb0) HA.out (by omega) hb0.sz ?_; intro v1 w1 ho1 hg1)
  have hb1 : Bel w w1 := hb0.own (Nat.le_refl _) ho0 hg1
  have ho1' : w1.ownsRow w.heap.size 3 1 v1 zs.length (VI zs) := by simpa [VI] using ho1
  obtain ⟨B, d, rfl, -, -, -, -⟩ := own_openN ho1'
  have HO1 := Lib.hid ho1'
  clear ho1 ho1' hg1 ho0
  go_wp2_with fail
  refine (sAcrossOk_c _ _ _ _ _ _ (h.keep hb1) hn).mono ?_; rintro e w2 ⟨rfl, hb2⟩
  have HO2 := Lib.hid (own_keep HO1.out hb2)
  have hb02 := hb1.trans hb2
  cases hac : acrossOk zs gap inner with
  | false =>
    go_wp2_with fail
    go_ret
    refine ⟨_, rfl, ?_, hb02⟩
    rw [stretch_no (by simp [stretches, hac])]
    exact HO2.out
  | true =>
    go_wp2_with fail
    refine (sCrossTotal_c _ _ _ _ _ (h.keep hb02) hn).mono ?_; rintro e w3 ⟨rfl, hb3⟩
    have HO3 := Lib.hid (own_keep HO2.out hb3)
    have hb03 := hb02.trans hb3
    by_cases hct : content = 1
    · subst hct
      by_cases hf : 0 < wrap64 (inner - crossTotal zs gap)
      · have HST := Lib.hid (stretch_yes hac hf)
        have hl12 := across_len hac
        go_wp2_with fail
        refine (sEvenly_c _ _ _).mono ?_; rintro e w4 ⟨v4, rfl, ho4, hb4⟩
        have hlE : (evenly (wrap64 (inner - crossTotal zs gap)) (zs.length : Int)).length = zs.length := by rw [evenly_length (inB_iff.2 (by omega))]; omega
        obtain ⟨be, hbe⟩ : ∃ be, be = w3.heap.size := ⟨_, rfl⟩
        rw [hlE, ← hbe] at ho4
        obtain ⟨E, ce, rfl, -, -, -, -⟩ := own_openN ho4
        have hoB := own_keep HO3.out hb4
        have hoE := ho4
        have hbE := hb03.trans hb4
        have hle0 : w3.heap.size ≤ be := by omega
        have hoB3 := HO3.out
        clear ho4 hac hf
        go_wp2_with fail
        have hNE := own_ne' hoB3 hoE hle0
        have HNE := Lib.hid hNE
        have HB := Lib.hid hoB
        have HEV := Lib.hid hoE
        have HLE := Lib.hid hlE
        clear hNE hoB hoE hlE hle0 hoB3
        go_loopw [12] (fun i wr => ∃ (k : Nat) (xs : List Value), k ≤ zs.length ∧ i = .int .i64 k ∧ wr.ownsRow w.heap.size 3 1 (.slice B zs.length d) zs.length xs ∧
            (∀ j, j < zs.length → xs[j]? = some (.int .i64 (if j < k then stretchAt zs (evenly (wrap64 (inner - crossTotal zs gap)) zs.length) j else at_ zs j))) ∧ wr.ownsRow be 3 1 (.slice E zs.length ce) zs.length (VI (evenly (wrap64 (inner - crossTotal zs gap)) zs.length)) ∧ Bel w wr) (fun i _ => zs.length - (intOf i).toNat)
        case atStart => exact ⟨0, VI zs, Nat.zero_le _, by go_num, HB.out, fun j hj => by rw [VI_at hj, if_neg (by omega)], HEV.out, hbE⟩
        case round =>
          obtain ⟨k, xs, hk, rfl, ho, hx, he, hb⟩ := hrel
          by_cases hlt : k < zs.length
          · obtain ⟨g, og, rfl, hgl, -⟩ := (own_ints HB.out) k hlt
            obtain rfl : og = 0 := own_off HB.out (by omega)
            obtain ⟨b2, o2, rfl, hbl2, hc2⟩ := (own_ints he) k (by rw [HLE.out]; exact hlt)
            have hcE : wr.cell? ⟨b2, o2 + k, none⟩ = some (.int .i64 (at_ (evenly (wrap64 (inner - crossTotal zs gap)) zs.length) k)) := hc2 k (by rw [HLE.out]; exact hlt)
            have hcO : wr.cell? ⟨g, k, none⟩ = some (.int .i64 (at_ zs k)) := by rw [ho.cellAt k (by omega), hx k hlt, if_neg (by omega)]
            have hfz : wr.frozen? ⟨g, k, none⟩ = false := ho.frozenAt k
            have hgw : w.heap.size ≤ g := (HB.out.lt g rfl).1
            have HS := Lib.hid (ho.stored k (.int .i64 (stretchAt zs (evenly (wrap64 (inner - crossTotal zs gap)) zs.length) k)))
            have hlti : (k : Int) < (zs.length : Int) := by omega
            have HX := Lib.hid hx
            have HO := Lib.hid ho
            have HE := Lib.hid he
            clear hc2 hx ho he
            go_wp2_with fail
            go_still_tail 12, (by kernel_rfl); go_wp2_with fail
            go_roundw
            case rel =>
              refine ⟨k + 1, _, by omega, by go_num, own_keep HS.out.1 ((Bel.refl _).drew), fun j hj => ?_, own_keep (HE.out.kept HS.out.2 HNE.out) ((Bel.refl _).drew), (hb.setCell hgw _).drew⟩
              rw [List.getElem?_set]
              by_cases e : k = j
              · subst e; rw [if_pos rfl, if_pos (by have := HO.out.1; omega), if_pos (by omega)]
              · rw [if_neg e, HX.out j hj]
                by_cases h2 : j < k
                · rw [if_pos h2, if_pos (by omega)]
                · rw [if_neg h2, if_neg (by omega)]
            case measure => simp [intOf]; omega
          · obtain rfl : k = zs.length := by omega
            go_wp2_with fail
            go_ret
            refine ⟨_, rfl, ?_, hb⟩
            have e : xs = VI (stretch zs gap inner 1) := VI_ext (by rw [stretch_length]; have := ho.1; omega) (fun j hj => by
              rw [stretch_length] at hj
              rw [hx j hj, if_pos hj, HST.out]
              simp [at_, List.getD, hj])
            rw [← e]
            exact ho
      · go_wp2_with fail
        go_ret
        refine ⟨_, rfl, ?_, hb03⟩
        rw [stretch_no (stretches_free (by omega))]
        exact HO3.out
    · have hct' : (content != 1) = true := by simp [hct]
      go_wp2_with fail
      go_ret
      refine ⟨_, rfl, ?_, hb03⟩
      rw [stretch_no (by simp [stretches, hct])]
      exact HO3.out

/-! ### between -/
def between (free : Int) (n : Nat) (justify : Int) (i : Nat) : Int :=
  if free < 0 then 0
  else if justify = 4 then elementOf (evenly free ((n : Int) - 1)) i
  else if justify = 5 then elementOf (evenly free (2 * (n : Int))) (2 * (i : Int) + 1) + elementOf (evenly free (2 * (n : Int))) (2 * (i : Int) + 2)
  else if justify = 6 then elementOf (evenly free ((n : Int) + 1)) ((i : Int) + 1)
  else 0

theorem ones_at {m i : Nat} (h : i < m) : at_ (ones m) i = 1 := by simp [at_, ones, List.getD, h]
theorem prefix_ones {m : Nat} : ∀ i : Nat, i ≤ m → prefixSum (ones m) i = (i : Int) := by
  intro i
  induction i with
  | zero => intro _; rfl
  | succ i ih => intro h; rw [prefixSum, ih (by omega), ones_at (by omega)]; omega
theorem frac_bd {N B : Int} {i m : Nat} (hN : -B ≤ N ∧ N ≤ B) (hB : 0 ≤ B) (hm : 1 ≤ m) (hi : i ≤ m) : -B ≤ floorDiv (N * (i : Int)) (m : Int) ∧ floorDiv (N * (i : Int)) (m : Int) ≤ B := by
  rw [fd_pos (by omega)]
  have h1 := mul_bd (a := N) (b := (i : Int)) (A := B) (B := (m : Int)) hN (by omega) hB
  exact ⟨Int.le_ediv_of_mul_le (by omega) (by rw [Int.neg_mul]; exact h1.1), Int.ediv_le_of_le_mul (by omega) h1.2⟩
theorem at_out {zs : List Int} {i : Nat} (h : zs.length ≤ i) : at_ zs i = 0 := by simp [at_, List.getD, List.getElem?_eq_none h]
theorem evenly_bd (free many : Int) (i : Nat) : -2097152 ≤ at_ (evenly free many) i ∧ at_ (evenly free many) i ≤ 2097152 := by
  cases hm : inB many 0 64 with
  | false => rw [evenly_out hm]; simp [at_]
  | true =>
    have hb := inB_iff.1 hm
    by_cases hi : i < many.toNat
    · have hs := signed_bd free
      have e : at_ (evenly free many) i = shareAt free (ones many.toNat) i := by
        rw [evenly_in hm, shares, if_pos (weights_ones (by omega)), ones_length]
        simp [at_, sharesTo, List.getD, hi]
      rw [e, shareAt, prefix_ones i (by omega), ones_at hi, ones_length, prefix_ones _ (Nat.le_refl _)]
      have f1 := frac_bd (N := signed free) (B := 1048576) (i := i + 1) (m := many.toNat) hs (by omega) (by omega) (by omega)
      have f2 := frac_bd (N := signed free) (B := 1048576) (i := i) (m := many.toNat) hs (by omega) (by omega) (by omega)
      rw [show ((i + 1 : Nat) : Int) = (i : Int) + 1 by omega] at f1
      omega
    · rw [at_out (by rw [evenly_length hm]; omega)]; omega
theorem element_bd (free many i : Int) : -2097152 ≤ elementOf (evenly free many) i ∧ elementOf (evenly free many) i ≤ 2097152 := by
  unfold elementOf
  split
  · omega
  · exact evenly_bd _ _ _
theorem between_bd (free : Int) (n : Nat) (justify : Int) (i : Nat) : -4194304 ≤ between free n justify i ∧ between free n justify i ≤ 4194304 := by
  have h1 := element_bd free ((n : Int) - 1) i
  have h2 := element_bd free (2 * (n : Int)) (2 * (i : Int) + 1)
  have h3 := element_bd free (2 * (n : Int)) (2 * (i : Int) + 2)
  have h4 := element_bd free ((n : Int) + 1) ((i : Int) + 1)
  unfold between
  split
  · omega
  · split
    · omega
    · split
      · omega
      · split <;> omega

set_option maxHeartbeats 1000000 in
theorem elementOf_c (A : Option Addr) (c : Nat) (zs : List Int) (i : Int) (w : World) (h : Ints w A zs) (hn : zs.length ≤ 1048576) :
    Calls Try.prog 87 #[.slice A zs.length c, .int .i64 i] w fun r w' => r = .returned (.int .i64 (elementOf zs i)) ∧ Bel w w' := by
  by_cases h0 : i < 0
  · go_enter Try.func87, Try.ntmps87
    go_wp2_with fail
    go_ret
    exact ⟨by simp [elementOf, h0], Bel.refl w⟩
  · by_cases h1 : (zs.length : Int) ≤ i
    · go_enter Try.func87, Try.ntmps87
      go_wp2_with fail
      go_ret
      exact ⟨by simp [elementOf, h1], Bel.refl w⟩
    · obtain ⟨k, rfl⟩ := Int.eq_ofNat_of_zero_le (show 0 ≤ i by omega)
      obtain ⟨b, o, rfl, hbl, hc⟩ := h k (by omega)
      have hcA : w.cell? ⟨b, o + k, none⟩ = some (.int .i64 (at_ zs k)) := hc k (by omega)
      have hlti : (k : Int) < (zs.length : Int) := by omega
      have HE : Hid (elementOf zs (k : Int) = at_ zs k) := hid' (by rw [elementOf, if_neg (by omega)]; rfl)
      clear hc
      go_enter Try.func87, Try.ntmps87
      go_wp2_with fail
      go_ret
      exact ⟨by rw [HE.out]; rfl, Bel.refl w⟩

set_option maxHeartbeats 2000000 in
theorem betweenOf_c (free : Int) (n : Nat) (justify : Int) (i : Nat) (w : World) (hn : 1 ≤ n ∧ n ≤ 12) (hi : i < n) :
    Calls Try.prog 75 #[.int .i64 free, .int .i64 n, .int .i64 justify, .int .i64 i] w fun r w' => r = .returned (.int .i64 (between free n justify i)) ∧ Bel w w' := by
  by_cases h0 : free < 0
  · go_enter Try.func75, Try.ntmps75
    go_wp2_with fail
    go_ret
    exact ⟨by simp [between, h0], Bel.refl w⟩
  · have HB : Hid (¬ free < 0) := hid' h0
    by_cases h4 : justify = 4
    · subst h4
      have HE : Hid (between free n 4 i = elementOf (evenly free ((n : Int) - 1)) i) := hid' (by simp [between, h0])
      have hm : (evenly free ((n : Int) - 1)).length ≤ 1048576 := by rw [evenly_length (inB_iff.2 (by omega))]; omega
      go_enter Try.func75, Try.ntmps75
      go_wp2_with fail
      refine (iEvenly_c _ _ _).mono ?_; rintro e w1 ⟨v, rfl, ho, hb1⟩
      obtain ⟨A, c, rfl, -, -, -, hI⟩ := own_open ho
      go_wp2_with fail
      refine (elementOf_c _ _ _ _ _ hI hm).mono ?_; rintro e w2 ⟨rfl, hb2⟩
      go_wp2_with fail
      go_ret
      exact ⟨by rw [HE.out]; rfl, hb1.trans hb2⟩
    · by_cases h5 : justify = 5
      · subst h5
        have HE : Hid (between free n 5 i = elementOf (evenly free (2 * (n : Int))) (2 * (i : Int) + 1) + elementOf (evenly free (2 * (n : Int))) (2 * (i : Int) + 2)) := hid' (by simp [between, h0])
        have hm : (evenly free (2 * (n : Int))).length ≤ 1048576 := by rw [evenly_length (inB_iff.2 (by omega))]; omega
        have b1 := element_bd free (2 * (n : Int)) (2 * (i : Int) + 1)
        have b2 := element_bd free (2 * (n : Int)) (2 * (i : Int) + 2)
        go_enter Try.func75, Try.ntmps75
        go_wp2_with fail
        refine (iEvenly_c _ _ _).mono ?_; rintro e w1 ⟨v, rfl, ho, hb1⟩
        obtain ⟨A, c, rfl, -, -, -, hI⟩ := own_open ho
        go_wp2_with fail
        refine (elementOf_c _ _ _ _ _ hI hm).mono ?_; rintro e w2 ⟨rfl, hb2⟩
        go_wp2_with fail
        refine (elementOf_c _ _ _ _ _ (hI.keep hb2) hm).mono ?_; rintro e w3 ⟨rfl, hb3⟩
        go_wp2_with fail
        go_ret
        exact ⟨by rw [HE.out]; rfl, (hb1.trans hb2).trans hb3⟩
      · by_cases h6 : justify = 6
        · subst h6
          have HE : Hid (between free n 6 i = elementOf (evenly free ((n : Int) + 1)) ((i : Int) + 1)) := hid' (by simp [between, h0])
          have hm : (evenly free ((n : Int) + 1)).length ≤ 1048576 := by rw [evenly_length (inB_iff.2 (by omega))]; omega
          go_enter Try.func75, Try.ntmps75
          go_wp2_with fail
          refine (iEvenly_c _ _ _).mono ?_; rintro e w1 ⟨v, rfl, ho, hb1⟩
          obtain ⟨A, c, rfl, -, -, -, hI⟩ := own_open ho
          go_wp2_with fail
          refine (elementOf_c _ _ _ _ _ hI hm).mono ?_; rintro e w2 ⟨rfl, hb2⟩
          go_wp2_with fail
          go_ret
          exact ⟨by rw [HE.out]; rfl, hb1.trans hb2⟩
        · have e4 : (justify == 4) = false := by simp [h4]
          have e5 : (justify == 5) = false := by simp [h5]
          have e6 : (justify == 6) = false := by simp [h6]
          have HE : Hid (between free n justify i = 0) := hid' (by simp [between, h0, h4, h5, h6])
          clear h4 h5 h6
          go_enter Try.func75, Try.ntmps75
          go_wp2_with fail
          go_ret
          exact ⟨by rw [HE.out]; rfl, Bel.refl w⟩

/-! ### the spaces of the reference -/
def spaceAt (free : Int) (n : Nat) (justify : Int) (i : Nat) : Int := if i + 1 < n then between free n justify i else 0
def spacesL (free : Int) (n : Nat) (justify : Int) : List Int := (List.range n).map (spaceAt free n justify)
theorem spacesL_length (free : Int) (n : Nat) (justify : Int) : (spacesL free n justify).length = n := by simp [spacesL]
theorem spacesL_at (free : Int) {n : Nat} (justify : Int) {i : Nat} (h : i < n) : at_ (spacesL free n justify) i = spaceAt free n justify i := by
  simp [at_, spacesL, List.getD, h]
theorem element_in {l : List Int} {i : Nat} (h : i < l.length) : elementOf l (i : Int) = at_ l i := by
  rw [elementOf, if_neg (by omega)]; rfl

set_option maxHeartbeats 4000000 in
theorem l15Spaces_c (free : Int) (n : Nat) (justify : Int) (w : World) (hn : n ≤ 12) :
    Calls Try.prog 72 #[.int .i64 free, .int .i64 n, .int .i64 justify] w fun r w' => ∃ v, r = .returned v ∧ w'.ownsRow w.heap.size 3 1 v n (VI (spacesL free n justify)) ∧ Bel w w' := by
  obtain ⟨i0, hi, hz0, hz1, hz2⟩ := info_parts Try.info_int
  by_cases h0 : free < 0
  · have HE : Hid (VI (spacesL free n justify) = List.replicate n (.int .i64 0)) := hid' (by
      apply List.ext_getElem?
      intro i
      by_cases hi : i < n
      · rw [VI_at (by rw [spacesL_length]; exact hi), spacesL_at _ _ hi]
        simp [hi, spaceAt, between, h0]
      · rw [List.getElem?_eq_none (by rw [VI_length, spacesL_length]; omega), List.getElem?_eq_none (by simp; omega)])
    go_enter Try.func72, Try.ntmps72
    go_wp2_with (at_make; refine wpList_make_full w rfl (.tmp 10) (.tmp 10) 42 rfl w.heap.size 3 i0 (.int .i64 0) 1 Try.underlying42 hi hz0 hz1 .i64 .i64 n n n rfl rfl rfl rfl (by rw [hz2]; omega) (by unfold maxLen; omega) (Nat.le_refl _) ?_; intro w1 hown hg)
    have hb1 : Bel w w1 := (Bel.refl w).grown hg (by simp)
    go_ret
    refine ⟨_, rfl, ?_, hb1⟩
    have hm : (Value.int .i64 0).cells = #[.int .i64 0] := rfl
    rw [hm, Nat.mul_one] at hown
    rw [HE.out, ← toList_madeCells_one]
    exact hown
  · go_enter Try.func72, Try.ntmps72
    go_wp2_with (at_make; refine wpList_make_full w rfl (.tmp 10) (.tmp 10) 42 rfl w.heap.size 3 i0 (.int .i64 0) 1 Try.underlying42 hi hz0 hz1 .i64 .i64 n n n rfl rfl rfl rfl (by rw [hz2]; omega) (by unfold maxLen; omega) (Nat.le_refl _) ?_; intro w1 hown hg)
    have hb1 : Bel w w1 := (Bel.refl w).grown hg (by simp)
    have hm : (Value.int .i64 0).cells = #[.int .i64 0] := rfl
    rw [hm, toList_madeCells_one] at hown
    go_loopw [8] (fun i wr => ∃ (k : Nat) (xs : List Value), k ≤ n ∧ i = .int .i64 k ∧ wr.ownsRow w.heap.size 3 1 (.slice (some ⟨w.heap.size, 0, none⟩) n n) n xs ∧
        (∀ j, j < n → xs[j]? = some (.int .i64 (if j < k then spaceAt free n justify j else 0))) ∧ Bel w wr ∧ (k = 0 ∨ k < n)) (fun i _ => n - (intOf i).toNat)
    case atStart => exact ⟨0, _, Nat.zero_le _, rfl, hown, fun j hj => by simp [hj], hb1, .inl rfl⟩
    case round =>
      obtain ⟨k, xs, hk, rfl, ho, hx, hb, hk2⟩ := hrel
      have HX := Lib.hid hx
      have HO := Lib.hid ho
      by_cases hlt : k + 1 < n
      · have hcO : ∀ wv, Bel wr wv → wv.cell? ⟨w.heap.size, k, none⟩ = some (.int .i64 0) := fun wv hv => by
          rw [(own_keep ho hv).cellAt k (by omega), hx k (by omega), if_neg (by omega)]
        have hfz : ∀ wv, Bel wr wv → wv.frozen? ⟨w.heap.size, k, none⟩ = false := fun wv hv => (own_keep ho hv).frozenAt k
        have HC := Lib.hid hcO
        have HF := Lib.hid hfz
        clear hx ho hcO hfz
        by_cases h4 : justify = 4
        · subst h4
          have hl : k < (evenly free ((n : Int) - 1)).length := by rw [evenly_length (inB_iff.2 (by omega))]; omega
          have HE : Hid (spaceAt free n 4 k = at_ (evenly free ((n : Int) - 1)) k) := hid' (by rw [spaceAt, if_pos hlt, between, if_neg (show ¬ free < 0 by omega), if_pos rfl, element_in hl])
          go_wp2_with fail
          refine (sEvenly_c _ _ _).mono ?_; rintro e w2 ⟨v, rfl, he, hb2⟩
          obtain ⟨E, ce, rfl, -, -, -, hI⟩ := own_open he
          obtain ⟨b, o, rfl, hbl, hc⟩ := hI k hl
          have hcE : w2.cell? ⟨b, o + k, none⟩ = some (.int .i64 (at_ (evenly free ((n : Int) - 1)) k)) := hc k hl
          have hcO := HC.out _ hb2
          have hfO := HF.out _ hb2
          have hli : (k : Int) < ((evenly free ((n : Int) - 1)).length : Int) := by omega
          have HS := Lib.hid ((own_keep HO.out hb2).stored k (.int .i64 (at_ (evenly free ((n : Int) - 1)) k)))
          clear hc he
          go_wp2_with fail
          go_roundw
          case rel =>
            refine ⟨k + 1, _, by omega, by go_num, HS.out.1, fun j hj => ?_, (hb.trans hb2).setCell (Nat.le_refl _) _, .inr hlt⟩
            rw [List.getElem?_set]
            by_cases e : k = j
            · subst e; rw [if_pos rfl, if_pos (by have := HO.out.1; omega), if_pos (by omega), HE.out]
            · rw [if_neg e, HX.out j hj]
              by_cases h2 : j < k
              · rw [if_pos h2, if_pos (by omega)]
              · rw [if_neg h2, if_neg (by omega)]
          case measure => simp [intOf]; omega
        · by_cases h5 : justify = 5
          · subst h5
            have hl : (evenly free (2 * (n : Int))).length = 2 * n := by rw [evenly_length (inB_iff.2 (by omega))]; omega
            have HE : Hid (spaceAt free n 5 k = at_ (evenly free (2 * (n : Int))) (2 * k + 1) + at_ (evenly free (2 * (n : Int))) (2 * k + 2)) := hid' (by
              rw [spaceAt, if_pos hlt, between, if_neg (show ¬ free < 0 by omega), if_neg (by omega), if_pos rfl, ← element_in (i := 2 * k + 1) (by omega), ← element_in (i := 2 * k + 2) (by omega)]
              congr 2)
            have b1 := evenly_bd free (2 * (n : Int)) (2 * k + 1)
            have b2 := evenly_bd free (2 * (n : Int)) (2 * k + 2)
            go_wp2_with fail
            refine (sEvenly_c _ _ _).mono ?_; rintro e w2 ⟨v, rfl, he, hb2⟩
            obtain ⟨E, ce, rfl, -, -, -, hI⟩ := own_open he
            obtain ⟨b, o, rfl, hbl, hc⟩ := hI 0 (by omega)
            have hcE : w2.cell? ⟨b, o + (2 * k + 1), none⟩ = some (.int .i64 (at_ (evenly free (2 * (n : Int))) (2 * k + 1))) := hc _ (by omega)
            have hcE2 : w2.cell? ⟨b, o + (2 * k + 2), none⟩ = some (.int .i64 (at_ (evenly free (2 * (n : Int))) (2 * k + 2))) := hc _ (by omega)
            have hcO := HC.out _ hb2
            have hfO := HF.out _ hb2
            have hli : 2 * (k : Int) + 1 < ((evenly free (2 * (n : Int))).length : Int) := by omega
            have hli2 : 2 * (k : Int) + 2 < ((evenly free (2 * (n : Int))).length : Int) := by omega
            have HS := Lib.hid ((own_keep HO.out hb2).stored k (.int .i64 (at_ (evenly free (2 * (n : Int))) (2 * k + 1) + at_ (evenly free (2 * (n : Int))) (2 * k + 2))))
            clear hc he hl
            go_wp2_with fail
            have q1 : IntKind.i64.wrap (2 * (k : Int)) = 2 * (k : Int) := IntWalk.i64_in _ (by omega)
            have q2 : IntKind.i64.wrap (2 * (k : Int) + 1) = 2 * (k : Int) + 1 := IntWalk.i64_in _ (by omega)
            have q3 : IntKind.i64.wrap (2 * (k : Int) + 2) = 2 * (k : Int) + 2 := IntWalk.i64_in _ (by omega)
            have q4 : (2 * (k : Int) + 1).toNat = 2 * k + 1 := by omega
            have q5 : (2 * (k : Int) + 2).toNat = 2 * k + 2 := by omega
            have q6 : 0 ≤ 2 * (k : Int) + 1 := by omega
            have q7 : 0 ≤ 2 * (k : Int) + 2 := by omega
            have q8 : IntKind.i64.wrap (at_ (evenly free (2 * (n : Int))) (2 * k + 1) + at_ (evenly free (2 * (n : Int))) (2 * k + 2)) = at_ (evenly free (2 * (n : Int))) (2 * k + 1) + at_ (evenly free (2 * (n : Int))) (2 * k + 2) := IntWalk.i64_in _ (by omega)
            have q9 : (k : Int) < (n : Int) := by omega
            go_still_tail 16, (by kernel_rfl)
            clear q1 q2 q3 q4 q5 q8
            go_wp2_with fail
            go_roundw
            case rel =>
              refine ⟨k + 1, _, by omega, by go_num, own_keep HS.out.1 ((Bel.refl _).drew), fun j hj => ?_, ((hb.trans hb2).setCell (Nat.le_refl _) _).drew, .inr hlt⟩
              rw [List.getElem?_set]
              by_cases e : k = j
              · subst e; rw [if_pos rfl, if_pos (by have := HO.out.1; omega), if_pos (by omega), HE.out]
              · rw [if_neg e, HX.out j hj]
                by_cases h2 : j < k
                · rw [if_pos h2, if_pos (by omega)]
                · rw [if_neg h2, if_neg (by omega)]
            case measure => simp [intOf]; omega
          · by_cases h6 : justify = 6
            · subst h6
              have hl : k + 1 < (evenly free ((n : Int) + 1)).length := by rw [evenly_length (inB_iff.2 (by omega))]; omega
              have HE : Hid (spaceAt free n 6 k = at_ (evenly free ((n : Int) + 1)) (k + 1)) := hid' (by
                rw [spaceAt, if_pos hlt, between, if_neg (show ¬ free < 0 by omega), if_neg (by omega), if_neg (by omega), if_pos rfl, ← element_in hl]; rfl)
              go_wp2_with fail
              refine (sEvenly_c _ _ _).mono ?_; rintro e w2 ⟨v, rfl, he, hb2⟩
              obtain ⟨E, ce, rfl, -, -, -, hI⟩ := own_open he
              obtain ⟨b, o, rfl, hbl, hc⟩ := hI (k + 1) hl
              have hcE : w2.cell? ⟨b, o + (k + 1), none⟩ = some (.int .i64 (at_ (evenly free ((n : Int) + 1)) (k + 1))) := hc _ hl
              have hcO := HC.out _ hb2
              have hfO := HF.out _ hb2
              have hli : (k : Int) + 1 < ((evenly free ((n : Int) + 1)).length : Int) := by omega
              have HS := Lib.hid ((own_keep HO.out hb2).stored k (.int .i64 (at_ (evenly free ((n : Int) + 1)) (k + 1))))
              clear hc he
              go_wp2_with fail
              go_roundw
              case rel =>
                refine ⟨k + 1, _, by omega, by go_num, HS.out.1, fun j hj => ?_, (hb.trans hb2).setCell (Nat.le_refl _) _, .inr hlt⟩
                rw [List.getElem?_set]
                by_cases e : k = j
                · subst e; rw [if_pos rfl, if_pos (by have := HO.out.1; omega), if_pos (by omega), HE.out]
                · rw [if_neg e, HX.out j hj]
                  by_cases h2 : j < k
                  · rw [if_pos h2, if_pos (by omega)]
                  · rw [if_neg h2, if_neg (by omega)]
              case measure => simp [intOf]; omega
            · have e4 : (justify == 4) = false := by simp [h4]
              have e5 : (justify == 5) = false := by simp [h5]
              have e6 : (justify == 6) = false := by simp [h6]
              have HE : Hid (spaceAt free n justify k = 0) := hid' (by simp [spaceAt, between, h4, h5, h6])
              clear h4 h5 h6
              go_wp2_with fail
              go_roundw
              case rel =>
                refine ⟨k + 1, xs, by omega, by go_num, HO.out, fun j hj => ?_, hb, .inr hlt⟩
                rw [HX.out j hj]
                by_cases e : j = k
                · subst e; rw [if_neg (by omega), if_pos (by omega), HE.out]
                · by_cases h2 : j < k
                  · rw [if_pos h2, if_pos (by omega)]
                  · rw [if_neg h2, if_neg (by omega)]
              case measure => simp [intOf]; omega
      · go_wp2_with fail
        go_ret
        refine ⟨_, rfl, ?_, hb⟩
        have e : xs = VI (spacesL free n justify) := VI_ext (by rw [spacesL_length]; have := HO.out.1; omega) (fun j hj => by
          rw [spacesL_length] at hj
          rw [HX.out j hj, spacesL_at _ _ hj]
          by_cases h2 : j < k
          · rw [if_pos h2]
          · rw [if_neg h2, spaceAt, if_neg (by omega)])
        rw [← e]
        exact HO.out

/-! ### PlaceLines -/
def justifyOf (content : Int) : Int := if content = 3 then 2 else if content = 4 then 3 else if content = 5 then 4 else if content = 6 then 5 else 1
set_option maxHeartbeats 1000000 in
theorem justifyOf_c (content : Int) (w : World) : Calls Try.prog 73 #[.int .i64 content] w fun r w' => r = .returned (.int .i64 (justifyOf content)) ∧ w = w' := by
  by_cases h3 : content = 3
  · subst h3
    go_enter Try.func73, Try.ntmps73
    go_wp2
    go_ret
    exact ⟨rfl, rfl⟩
  · by_cases h4 : content = 4
    · subst h4
      go_enter Try.func73, Try.ntmps73
      go_wp2
      go_ret
      exact ⟨rfl, rfl⟩
    · by_cases h5 : content = 5
      · subst h5
        go_enter Try.func73, Try.ntmps73
        go_wp2
        go_ret
        exact ⟨rfl, rfl⟩
      · by_cases h6 : content = 6
        · subst h6
          go_enter Try.func73, Try.ntmps73
          go_wp2
          go_ret
          exact ⟨rfl, rfl⟩
        · have e3 : (content == 3) = false := by simp [h3]
          have e4 : (content == 4) = false := by simp [h4]
          have e5 : (content == 5) = false := by simp [h5]
          have e6 : (content == 6) = false := by simp [h6]
          have HJ : Hid (justifyOf content = 1) := hid' (by simp [justifyOf, h3, h4, h5, h6])
          clear h3 h4 h5 h6
          go_enter Try.func73, Try.ntmps73
          go_wp2
          go_ret
          exact ⟨by rw [HJ.out]; rfl, rfl⟩
set_option maxHeartbeats 1000000 in
theorem l16Justify_c (content : Int) (w : World) : Calls Try.prog 71 #[.int .i64 content] w fun r w' => r = .returned (.int .i64 (justifyOf content)) ∧ w = w' := by
  by_cases h3 : content = 3
  · subst h3
    go_enter Try.func71, Try.ntmps71
    go_wp2
    go_ret
    exact ⟨rfl, rfl⟩
  · by_cases h4 : content = 4
    · subst h4
      go_enter Try.func71, Try.ntmps71
      go_wp2
      go_ret
      exact ⟨rfl, rfl⟩
    · by_cases h5 : content = 5
      · subst h5
        go_enter Try.func71, Try.ntmps71
        go_wp2
        go_ret
        exact ⟨rfl, rfl⟩
      · by_cases h6 : content = 6
        · subst h6
          go_enter Try.func71, Try.ntmps71
          go_wp2
          go_ret
          exact ⟨rfl, rfl⟩
        · have e3 : (content == 3) = false := by simp [h3]
          have e4 : (content == 4) = false := by simp [h4]
          have e5 : (content == 5) = false := by simp [h5]
          have e6 : (content == 6) = false := by simp [h6]
          have HJ : Hid (justifyOf content = 1) := hid' (by simp [justifyOf, h3, h4, h5, h6])
          clear h3 h4 h5 h6
          go_enter Try.func71, Try.ntmps71
          go_wp2
          go_ret
          exact ⟨by rw [HJ.out]; rfl, rfl⟩

def placeFree (zs : List Int) (gap inner : Int) : Int := signed (wrap64 (inner - crossTotal zs gap))
def placeAt (lead : Int) (sp : Nat → Int) (zs : List Int) (gap : Int) : Nat → Int
  | 0 => lead
  | k + 1 => placeAt lead sp zs gap k + at_ zs k + gap + sp k
def placesTo (lead : Int) (sp : Nat → Int) (zs : List Int) (gap : Int) (k : Nat) : List Int := (List.range k).map (placeAt lead sp zs gap)
theorem placesTo_succ (lead : Int) (sp : Nat → Int) (zs : List Int) (gap : Int) (k : Nat) : placesTo lead sp zs gap (k + 1) = placesTo lead sp zs gap k ++ [placeAt lead sp zs gap k] := by
  simp [placesTo, List.range_succ]
theorem placesTo_length (lead : Int) (sp : Nat → Int) (zs : List Int) (gap : Int) (k : Nat) : (placesTo lead sp zs gap k).length = k := by simp [placesTo]
theorem leadOf_bd {free : Int} (many justify : Int) (h : -1048576 ≤ free ∧ free ≤ 1048576) : -2097152 ≤ leadOf free many justify ∧ leadOf free many justify ≤ 2097152 := by
  have h1 := floorDiv_bd (a := free) (A := 1048576) 2 h
  have h2 := evenly_bd free (2 * many) 0
  have h3 := evenly_bd free (many + 1) 0
  unfold leadOf
  split
  · split
    · omega
    · split
      · omega
      · split
        · split <;> omega
        · split
          · split <;> omega
          · omega
  · omega
theorem placeAt_bd {lead : Int} {sp : Nat → Int} {zs : List Int} {gap : Int} (hl : -2097152 ≤ lead ∧ lead ≤ 2097152) (hs : ∀ i, -4194304 ≤ sp i ∧ sp i ≤ 4194304) (hg : 0 ≤ gap ∧ gap ≤ 1048576) (hz : ∀ i, i < zs.length → 0 ≤ at_ zs i ∧ at_ zs i ≤ 1048576) :
    ∀ k : Nat, k ≤ zs.length → -2097152 - 8388608 * (k : Int) ≤ placeAt lead sp zs gap k ∧ placeAt lead sp zs gap k ≤ 2097152 + 8388608 * (k : Int) := by
  intro k
  induction k with
  | zero => intro _; simp only [placeAt]; omega
  | succ k ih =>
    intro hk
    have h1 := ih (by omega)
    have h2 := hs k
    have h3 := hz k (by omega)
    simp only [placeAt]
    omega
def placeLines (zs : List Int) (gap inner content : Int) : List Int :=
  if acrossOk zs gap inner then placesTo (leadOf (placeFree zs gap inner) zs.length (justifyOf content)) (between (placeFree zs gap inner) zs.length (justifyOf content)) zs gap zs.length else []
theorem placeLines_len (zs : List Int) (gap inner content : Int) : (placeLines zs gap inner content).length ≤ 12 := by
  unfold placeLines
  split
  · rename_i h; rw [placesTo_length]; exact across_len h
  · simp
theorem across_parts {zs : List Int} {gap inner : Int} (h : acrossOk zs gap inner = true) : zs.length ≤ 12 ∧ (0 ≤ gap ∧ gap ≤ 1048576) ∧ (0 ≤ inner ∧ inner ≤ 1048576) ∧ ∀ i, i < zs.length → 0 ≤ at_ zs i ∧ at_ zs i ≤ 1048576 := by
  simp only [acrossOk, Bool.and_eq_true, decide_eq_true_eq] at h
  exact ⟨h.1.1.2, inB_iff.1 h.1.2, inB_iff.1 h.2, fun i hi => inB_iff.1 (allIn_at h.1.1.1 hi)⟩

set_option maxHeartbeats 4000000 in
theorem iPlaceLines_c (A : Option Addr) (c : Nat) (zs : List Int) (gap inner content : Int) (w : World) (h : Ints w A zs) (hn : zs.length ≤ 1048576) :
    Calls Try.prog 41 #[.slice A zs.length c, .int .i64 gap, .int .i64 inner, .int .i64 content] w fun r w' => ∃ v, r = .returned v ∧ w'.ownsRow w.heap.size 3 1 v (placeLines zs gap inner content).length (VI (placeLines zs gap inner content)) ∧ Bel w w' := by
  cases hac : acrossOk zs gap inner with
  | false =>
    have hp : placeLines zs gap inner content = [] := by rw [placeLines, hac]; rfl
    rw [hp]
    go_enter Try.func41, Try.ntmps41
    go_wp2_with fail
    refine (iAcrossOk_c _ _ _ _ _ _ h hn).mono ?_; rintro e w1 ⟨rfl, hb1⟩
    go_wp2_with fail
    go_ret
    exact ⟨_, rfl, own_nil _ _ _, hb1⟩
  | true =>
    obtain ⟨h12, hgp, hin, hzb⟩ := across_parts hac
    obtain ⟨F, hF⟩ : ∃ F, F = placeFree zs gap inner := ⟨_, rfl⟩
    have hFb : -1048576 ≤ F ∧ F ≤ 1048576 := by rw [hF]; exact signed_bd _
    have hp : placeLines zs gap inner content = placesTo (leadOf F zs.length (justifyOf content)) (between F zs.length (justifyOf content)) zs gap zs.length := by rw [placeLines, if_pos hac, hF]
    rw [hp, placesTo_length]
    have HF := Lib.hid hF
    have HAC := Lib.hid hac
    have hlb := leadOf_bd (zs.length : Int) (justifyOf content) hFb
    have HPB := Lib.hid (placeAt_bd (sp := between F zs.length (justifyOf content)) (zs := zs) hlb (fun i => between_bd _ _ _ _) hgp hzb)
    have HZB := Lib.hid hzb
    clear hF hp hzb
    go_enter Try.func41, Try.ntmps41
    go_wp2_with fail
    refine (iAcrossOk_c _ _ _ _ _ _ h hn).mono ?_; rintro e w1 ⟨rfl, hb1⟩
    go_wp2_with (go_at_call 73; refine (justifyOf_c _ _).mono ?_; rintro e w' ⟨rfl, rfl⟩)
    refine (iCrossTotal_c _ _ _ _ _ (h.keep hb1) hn).mono ?_; rintro e w2 ⟨rfl, hb2⟩
    go_wp2_with fail
    refine (isigned_c _ _).mono ?_; rintro e w' ⟨rfl, rfl⟩
    rw [show signed (wrap64 (inner - crossTotal zs gap)) = F from HF.out.symm]
    clear hac
    go_wp2_with fail
    refine (iLeadOf_c _ _ _ _ (by omega)).mono ?_; rintro e w3 ⟨rfl, hb3⟩
    have hb03 := (hb1.trans hb2).trans hb3
    go_wp2_with fail
    go_loopw [12, 13, 37] (fun at' out i wr => ∃ (k : Nat) (p : Int), k ≤ zs.length ∧ i = .int .i64 k ∧ at' = .int .i64 p ∧ (k < zs.length → p = placeAt (leadOf F zs.length (justifyOf content)) (between F zs.length (justifyOf content)) zs gap k) ∧
        wr.ownsRow w.heap.size 3 1 out k (VI (placesTo (leadOf F zs.length (justifyOf content)) (between F zs.length (justifyOf content)) zs gap k)) ∧ Bel w wr) (fun _ _ i _ => zs.length - (intOf i).toNat)
    case atStart => exact ⟨0, _, Nat.zero_le _, by go_num, rfl, fun _ => rfl, own_nil _ _ _, hb03⟩
    case round =>
      obtain ⟨k, p, hk, rfl, rfl, hp, ho, hb⟩ := hrel
      by_cases hlt : k < zs.length
      · obtain rfl := hp hlt
        obtain ⟨b, o, rfl, hbl, hc⟩ := h k hlt
        have hcA : wr.cell? ⟨b, o + k, none⟩ = some (.int .i64 (at_ zs k)) := (hb.cell _ _ hbl).trans (hc k hlt)
        have z1 := HZB.out k hlt
        have p1 := HPB.out k hk
        have b1 := between_bd F zs.length (justifyOf content) k
        clear hc hp
        go_wp2_with (first
          | (at_builtin; refine app1 rfl (.tmp 42) (.tmp 44) rfl w.heap.size _ k _ rfl (ho.alloc _) wr.heap.size _ rfl (World.cell?_alloc_new _ _ _ _) (by omega) (hb.alloc _).sz ?_; intro v' w4 ho4 hg4
             have hb4 := (hb.alloc (.cells #[.int .i64 (placeAt (leadOf F zs.length (justifyOf content)) (between F zs.length (justifyOf content)) zs gap k)] 3)).own (Nat.le_refl _) (ho.alloc _) hg4)
          | (go_at_call 75; refine (betweenOf_c _ _ _ _ _ (by omega) (by omega)).mono ?_; rintro e w5 ⟨rfl, hb5⟩))
        go_roundw
        case rel =>
          refine ⟨k + 1, _, by omega, by go_num, rfl, fun _ => ?_, ?_, hb4.trans hb5⟩
          · simp only [placeAt]; omega
          · rw [placesTo_succ, ← VI_snoc]; exact own_keep ho4 hb5
        case measure => simp [intOf]; omega
      · obtain rfl : k = zs.length := by omega
        go_wp2_with fail
        go_ret
        exact ⟨_, rfl, ho, hb⟩

set_option maxHeartbeats 4000000 in
theorem sPlaceLines_c (A : Option Addr) (c : Nat) (zs : List Int) (gap inner content : Int) (w : World) (h : Ints w A zs) (hn : zs.length ≤ 1048576) :
    Calls Try.prog 40 #[.slice A zs.length c, .int .i64 gap, .int .i64 inner, .int .i64 content] w fun r w' => ∃ v, r = .returned v ∧ w'.ownsRow w.heap.size 3 1 v (placeLines zs gap inner content).length (VI (placeLines zs gap inner content)) ∧ Bel w w' := by
  have ho0 : (w.alloc (.cells #[] 3)).ownsRow w.heap.size 3 1 (.slice (some ⟨w.heap.size, 0, none⟩) 0 0) 0 (VI []) := World.ownsRow_lit w #[] 0 (Nat.le_refl _) (by unfold maxLen; omega) rfl
  have hb0 : Bel w (w.alloc (.cells #[] 3)) := (Bel.refl w).alloc _
  have HO0 := Lib.hid ho0
  clear ho0
  cases hac : acrossOk zs gap inner with
  | false =>
    have hp : placeLines zs gap inner content = [] := by rw [placeLines, hac]; rfl
    rw [hp]
    go_enter Try.func40, Try.ntmps40
    go_wp2_with fail
    refine (sAcrossOk_c _ _ _ _ _ _ (h.keep hb0) hn).mono ?_; rintro e w1 ⟨rfl, hb1⟩
    go_wp2_with fail
    go_ret
    exact ⟨_, rfl, own_keep HO0.out hb1, hb0.trans hb1⟩
  | true =>
    obtain ⟨h12, hgp, hin, hzb⟩ := across_parts hac
    obtain ⟨F, hF⟩ : ∃ F, F = placeFree zs gap inner := ⟨_, rfl⟩
    have hFb : -1048576 ≤ F ∧ F ≤ 1048576 := by rw [hF]; exact signed_bd _
    have hp : placeLines zs gap inner content = placesTo (leadOf F zs.length (justifyOf content)) (between F zs.length (justifyOf content)) zs gap zs.length := by rw [placeLines, if_pos hac, hF]
    rw [hp, placesTo_length]
    have HF := Lib.hid hF
    have HAC := Lib.hid hac
    have hlb := leadOf_bd (zs.length : Int) (justifyOf content) hFb
    have HPB := Lib.hid (placeAt_bd (sp := between F zs.length (justifyOf content)) (zs := zs) hlb (fun i => between_bd _ _ _ _) hgp hzb)
    have HZB := Lib.hid hzb
    clear hF hp hzb
    go_enter Try.func40, Try.ntmps40
    go_wp2_with fail
    refine (sAcrossOk_c _ _ _ _ _ _ (h.keep hb0) hn).mono ?_; rintro e w1 ⟨rfl, hb1⟩
    have hb01 := hb0.trans hb1
    go_wp2_with fail
    refine (sCrossTotal_c _ _ _ _ _ (h.keep hb01) hn).mono ?_; rintro e w2 ⟨rfl, hb2⟩
    go_wp2_with fail
    refine (l02Len_c _ _).mono ?_; rintro e w' ⟨rfl, rfl⟩
    rw [show signed (wrap64 (inner - crossTotal zs gap)) = F from HF.out.symm]
    clear hac
    go_wp2_with (go_at_call 71; refine (l16Justify_c _ _).mono ?_; rintro e w' ⟨rfl, rfl⟩)
    refine (sLeadOf_c _ _ _ _ (by omega)).mono ?_; rintro e w3 ⟨rfl, hb3⟩
    have hb03 := (hb01.trans hb2).trans hb3
    go_wp2_with (go_at_call 71; refine (l16Justify_c _ _).mono ?_; rintro e w' ⟨rfl, rfl⟩)
    refine (l15Spaces_c _ _ _ _ h12).mono ?_; rintro e w4 ⟨v4, rfl, hs4, hb4⟩
    obtain ⟨S, cs, rfl, -, -, hS4, -⟩ := own_openN hs4
    have HS4 := Lib.hid hS4
    have HO4 := Lib.hid (own_keep (own_keep (own_keep (own_keep HO0.out hb1) hb2) hb3) hb4)
    have hb04 := hb03.trans hb4
    have HAP := Lib.hid (fun g b o (h1 : (Value.slice (some ⟨w.heap.size, 0, none⟩) 0 0).ownBlock = some g) (h2 : S = some ⟨b, o, none⟩) => (by
      subst h2
      have l1 := (hs4.lt b rfl).1
      have l2 : w.heap.size < w3.heap.size := by have := (hb1.trans hb2).trans hb3; have := this.sz; simp at this; omega
      simp [Value.ownBlock] at h1
      omega : g ≠ b))
    clear hs4 hS4
    go_wp2_with fail
    go_loopw [9, 11, 13] (fun out at' i wr => ∃ (k : Nat) (p : Int), k ≤ zs.length ∧ i = .int .i64 k ∧ at' = .int .i64 p ∧ (k < zs.length → p = placeAt (leadOf F zs.length (justifyOf content)) (between F zs.length (justifyOf content)) zs gap k) ∧
        wr.ownsRow w.heap.size 3 1 out k (VI (placesTo (leadOf F zs.length (justifyOf content)) (between F zs.length (justifyOf content)) zs gap k)) ∧ Bel w wr ∧ Ints wr S (spacesL F zs.length (justifyOf content)) ∧ Apart out S) (fun _ _ i _ => zs.length - (intOf i).toNat)
    case atStart => exact ⟨0, _, Nat.zero_le _, by go_num, rfl, fun _ => rfl, HO4.out, hb04, HS4.out, HAP.out⟩
    case round =>
      obtain ⟨k, p, hk, rfl, rfl, hp, ho, hb, hS, hap⟩ := hrel
      by_cases hlt : k < zs.length
      · obtain rfl := hp hlt
        obtain ⟨b, o, rfl, hbl, hc⟩ := h k hlt
        have hcw := hc k hlt
        have hlS : k < (spacesL F zs.length (justifyOf content)).length := by rw [spacesL_length]; exact hlt
        obtain ⟨sk, hsk⟩ : ∃ sk, sk = at_ (spacesL F zs.length (justifyOf content)) k := ⟨_, rfl⟩
        have s1 : -4194304 ≤ sk ∧ sk ≤ 4194304 := by
          rw [hsk, spacesL_at _ _ hlt, spaceAt]
          split
          · exact between_bd _ _ _ _
          · omega
        have HSK : Hid (k + 1 < zs.length → sk = between F zs.length (justifyOf content) k) := hid' (fun hk1 => by rw [hsk, spacesL_at _ _ hlt, spaceAt, if_pos hk1])
        have z1 := HZB.out k hlt
        have p1 := HPB.out k hk
        obtain ⟨P, hP⟩ : ∃ P, P = placeAt (leadOf F zs.length (justifyOf content)) (between F zs.length (justifyOf content)) zs gap k := ⟨_, rfl⟩
        rw [← hP] at p1
        rw [← hP]
        have HP := Lib.hid hP
        have HSE := Lib.hid hsk
        have HSS := Lib.hid hS
        have HPA := Lib.hid hap
        clear hc hp hsk hP hS hap
        go_wp2_with (at_builtin; refine app1w rfl (.tmp 45) (.tmp 47) rfl w.heap.size _ k _ rfl (ho.alloc _) wr.heap.size _ rfl (World.cell?_alloc_new _ _ _ _) (by omega) (hb.alloc _).sz ?_; intro v' w5 ho5 hg5 hat5)
        have hal : Bel wr (wr.alloc (.cells #[.int .i64 P] 3)) := (Bel.refl wr).alloc _
        have hb5 := (hb.trans hal).own (Nat.le_refl _) (own_keep ho hal) hg5
        have hS5 := (HSS.out.keep hal).grown hg5 HPA.out
        have hA5 := HPA.out.step hat5 (HSS.out.keep hal) (by omega)
        obtain ⟨bs, os, rfl, hbls, hcs⟩ := hS5 k hlS
        have hcS : w5.cell? ⟨bs, os + k, none⟩ = some (.int .i64 sk) := by rw [HSE.out]; exact hcs k hlS
        have hcA : w5.cell? ⟨b, o + k, none⟩ = some (.int .i64 (at_ zs k)) := (hb5.cell _ _ hbl).trans hcw
        have HS5 := Lib.hid hS5
        have HA5 := Lib.hid hA5
        have q1 : IntKind.i64.wrap (P + at_ zs k) = P + at_ zs k := IntWalk.i64_in _ (by omega)
        have q2 : IntKind.i64.wrap (P + at_ zs k + gap) = P + at_ zs k + gap := IntWalk.i64_in _ (by omega)
        have q3 : IntKind.i64.wrap (P + at_ zs k + gap + sk) = P + at_ zs k + gap + sk := IntWalk.i64_in _ (by omega)
        have q4 : (k : Int) < (zs.length : Int) := by omega
        have hlS' : (k : Int) < ((spacesL F zs.length (justifyOf content)).length : Int) := by omega
        clear hcs hS5 hA5 hat5 hg5 hcw
        go_wp2_with fail
        go_quiet (fail)
        clear q1 q2 q3
        go_wp2_with fail
        go_roundw
        case rel =>
          refine ⟨k + 1, _, by omega, by go_num, rfl, fun hk1 => ?_, ?_, hb5.drewN _, HS5.out.keep ((Bel.refl _).drewN _), HA5.out⟩
          · simp only [placeAt]; rw [← HP.out, ← HSK.out hk1]
          · rw [placesTo_succ, ← VI_snoc, ← HP.out]; exact own_drewN ho5 _
        case measure => simp [intOf]; omega
      · obtain rfl : k = zs.length := by omega
        go_wp2_with fail
        go_ret
        exact ⟨_, rfl, ho, hb⟩
end Go.Proofs.Ytgelpfecfbagdaa
