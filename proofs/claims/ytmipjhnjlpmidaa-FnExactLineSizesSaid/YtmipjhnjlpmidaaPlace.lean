/- Lines on the cross axis: copyInts, StretchLines, betweenOf, PlaceLines. -/
import Derived.Test.YtmipjhnjlpmidaaLead
import Derived.Test.YtmipjhnjlpmidaaMark
import Derived.StillTailTactics
namespace Go.Proofs.Ytmipjhnjlpmidaa
open Go.RowKit Go.ChangeShapes Go.WideShapes
set_option linter.unusedVariables false
set_option linter.unusedSimpArgs false

set_option maxRecDepth 100000 in
set_option maxHeartbeats 1000000 in
theorem copyInts_c (A : Option Addr) (c : Nat) (zs : List Int) (w : World) (h : Ints w A zs) (hA : A = none → c = 0) (hn : zs.length ≤ 1048576) :
    Calls Try.prog 98 #[.slice A zs.length c] w fun r w' => ∃ v, r = .returned v ∧ w'.ownsRow w.heap.size 3 1 v zs.length (VI zs) ∧ Bel w w' := by
  go_enter Try.func98, Try.ntmps98
  go_wp2_with (at_builtin; refine appS rfl _ _ rfl w.heap.size (.slice none 0 0) 0 [] rfl ⟨rfl, .inl ⟨rfl, rfl⟩⟩ A c zs rfl h hA (by omega) (Nat.le_refl _) ?_; intro v' w' ho' hg')
  go_ret
  have hb : Bel w w' := (Bel.refl w).grown hg' (by simp [Value.ownBlock])
  exact ⟨_, rfl, by simpa using ho', hb⟩

/-! ### StretchLines -/
def stretchFree (zs : List Int) (gap inner : Int) : Int := wrap64 (inner - crossTotal zs gap)
def stretches (zs : List Int) (gap inner content : Int) : Bool := acrossOk zs gap inner && decide (content = 1) && decide (0 < stretchFree zs gap inner)
def stretchAt (zs ev : List Int) (i : Nat) : Int := wrap64 (at_ zs i + at_ ev i)
def stretch (zs : List Int) (gap inner content : Int) : List Int :=
  if stretches zs gap inner content then (List.range zs.length).map (stretchAt zs (evenly (stretchFree zs gap inner) zs.length)) else zs
theorem stretch_length (zs : List Int) (gap inner content : Int) : (stretch zs gap inner content).length = zs.length := by
  unfold stretch; split <;> simp
theorem across_len {zs : List Int} {gap inner : Int} (h : acrossOk zs gap inner = true) : zs.length ≤ 12 := by
  simp only [acrossOk, Bool.and_eq_true, decide_eq_true_eq] at h
  exact h.1.1.2

theorem stretch_yes {zs : List Int} {gap inner : Int} (h1 : acrossOk zs gap inner = true) (h2 : 0 < wrap64 (inner - crossTotal zs gap)) :
    stretch zs gap inner 1 = (List.range zs.length).map (stretchAt zs (evenly (wrap64 (inner - crossTotal zs gap)) zs.length)) := by
  rw [stretch, if_pos (by simp only [stretches, stretchFree, h1, h2]; rfl)]; rfl
theorem stretches_free {zs : List Int} {gap inner content : Int} (h : wrap64 (inner - crossTotal zs gap) ≤ 0) : stretches zs gap inner content = false := by
  have h' : stretchFree zs gap inner ≤ 0 := h
  simp only [stretches, Bool.and_eq_false_iff, decide_eq_false_iff_not]
  right
  omega
theorem stretch_no {zs : List Int} {gap inner content : Int} (h : stretches zs gap inner content = false) : stretch zs gap inner content = zs := by
  rw [stretch, h]; rfl

/-! ### between -/
def between (free : Int) (n : Nat) (justify : Int) (i : Nat) : Int :=
  if free < 0 then 0
  else if justify = 4 then elementOf (evenly free ((n : Int) - 1)) i
  else if justify = 5 then elementOf (evenly free (2 * (n : Int))) (2 * (i : Int) + 1) + elementOf (evenly free (2 * (n : Int))) (2 * (i : Int) + 2)
  else if justify = 6 then elementOf (evenly free ((n : Int) + 1)) ((i : Int) + 1)
  else 0

theorem ones_at {m i : Nat} (h : i < m) : at_ (ones m) i = 1 := by simp [at_, ones, List.getD, h]
theorem prefix_ones {m : Nat} : ∀ i : Nat, i ≤ m → prefixSum (ones m) i = (i : Int) := by
  intro i
  induction i with
  | zero => intro _; rfl
  | succ i ih => intro h; rw [prefixSum, ih (by omega), ones_at (by omega)]; omega
theorem frac_bd {N B : Int} {i m : Nat} (hN : -B ≤ N ∧ N ≤ B) (hB : 0 ≤ B) (hm : 1 ≤ m) (hi : i ≤ m) : -B ≤ floorDiv (N * (i : Int)) (m : Int) ∧ floorDiv (N * (i : Int)) (m : Int) ≤ B := by
  rw [fd_pos (by omega)]
  have h1 := mul_bd (a := N) (b := (i : Int)) (A := B) (B := (m : Int)) hN (by omega) hB
  exact ⟨Int.le_ediv_of_mul_le (by omega) (by rw [Int.neg_mul]; exact h1.1), Int.ediv_le_of_le_mul (by omega) h1.2⟩
theorem at_out {zs : List Int} {i : Nat} (h : zs.length ≤ i) : at_ zs i = 0 := by simp [at_, List.getD, List.getElem?_eq_none h]
theorem evenly_bd (free many : Int) (i : Nat) : -2097152 ≤ at_ (evenly free many) i ∧ at_ (evenly free many) i ≤ 2097152 := by
  cases hm : inB many 0 64 with
  | false => rw [evenly_out hm]; simp [at_]
  | true =>
    have hb := inB_iff.1 hm
    by_cases hi : i < many.toNat
    · have hs := signed_bd free
      have e : at_ (evenly free many) i = shareAt free (ones many.toNat) i := by
        rw [evenly_in hm, shares, if_pos (weights_ones (by omega)), ones_length]
        simp [at_, sharesTo, List.getD, hi]
      rw [e, shareAt, prefix_ones i (by omega), ones_at hi, ones_length, prefix_ones _ (Nat.le_refl _)]
      have f1 := frac_bd (N := signed free) (B := 1048576) (i := i + 1) (m := many.toNat) hs (by omega) (by omega) (by omega)
      have f2 := frac_bd (N := signed free) (B := 1048576) (i := i) (m := many.toNat) hs (by omega) (by omega) (by omega)
      rw [show ((i + 1 : Nat) : Int) = (i : Int) + 1 by omega] at f1
      omega
    · rw [at_out (by rw [evenly_length hm]; omega)]; omega
theorem element_bd (free many i : Int) : -2097152 ≤ elementOf (evenly free many) i ∧ elementOf (evenly free many) i ≤ 2097152 := by
  unfold elementOf
  split
  · omega
  · exact evenly_bd _ _ _
theorem between_bd (free : Int) (n : Nat) (justify : Int) (i : Nat) : -4194304 ≤ between free n justify i ∧ between free n justify i ≤ 4194304 := by
  have h1 := element_bd free ((n : Int) - 1) i
  have h2 := element_bd free (2 * (n : Int)) (2 * (i : Int) + 1)
  have h3 := element_bd free (2 * (n : Int)) (2 * (i : Int) + 2)
  have h4 := element_bd free ((n : Int) + 1) ((i : Int) + 1)
  unfold between
  split
  · omega
  · split
    · omega
    · split
      · omega
      · split <;> omega

set_option maxRecDepth 100000 in
set_option maxHeartbeats 1000000 in
theorem elementOf_c (A : Option Addr) (c : Nat) (zs : List Int) (i : Int) (w : World) (h : Ints w A zs) (hn : zs.length ≤ 1048576) :
    Calls Try.prog 107 #[.slice A zs.length c, .int .i64 i] w fun r w' => r = .returned (.int .i64 (elementOf zs i)) ∧ Bel w w' := by
  by_cases h0 : i < 0
  · go_enter Try.func107, Try.ntmps107
    go_wp2_with fail
    go_ret
    exact ⟨by simp [elementOf, h0], Bel.refl w⟩
  · by_cases h1 : (zs.length : Int) ≤ i
    · go_enter Try.func107, Try.ntmps107
      go_wp2_with fail
      go_ret
      exact ⟨by simp [elementOf, h1], Bel.refl w⟩
    · obtain ⟨k, rfl⟩ := Int.eq_ofNat_of_zero_le (show 0 ≤ i by omega)
      obtain ⟨b, o, rfl, hbl, hc⟩ := h k (by omega)
      have hcA : w.cell? ⟨b, o + k, none⟩ = some (.int .i64 (at_ zs k)) := hc k (by omega)
      have hlti : (k : Int) < (zs.length : Int) := by omega
      have HE : Hid (elementOf zs (k : Int) = at_ zs k) := hid' (by rw [elementOf, if_neg (by omega)]; rfl)
      clear hc
      go_enter Try.func107, Try.ntmps107
      go_wp2_with fail
      go_ret
      exact ⟨by rw [HE.out]; rfl, Bel.refl w⟩

set_option maxRecDepth 100000 in
set_option maxHeartbeats 2000000 in
theorem betweenOf_c (free : Int) (n : Nat) (justify : Int) (i : Nat) (w : World) (hn : 1 ≤ n ∧ n ≤ 12) (hi : i < n) :
    Calls Try.prog 108 #[.int .i64 free, .int .i64 n, .int .i64 justify, .int .i64 i] w fun r w' => r = .returned (.int .i64 (between free n justify i)) ∧ Bel w w' := by
  by_cases h0 : free < 0
  · go_enter Try.func108, Try.ntmps108
    go_wp2_with fail
    go_ret
    exact ⟨by simp [between, h0], Bel.refl w⟩
  · have HB : Hid (¬ free < 0) := hid' h0
    by_cases h4 : justify = 4
    · subst h4
      have HE : Hid (between free n 4 i = elementOf (evenly free ((n : Int) - 1)) i) := hid' (by simp [between, h0])
      have hm : (evenly free ((n : Int) - 1)).length ≤ 1048576 := by rw [evenly_length (inB_iff.2 (by omega))]; omega
      go_enter Try.func108, Try.ntmps108
      go_wp2_with fail
      refine (iEvenly_c _ _ _).mono ?_; rintro e w1 ⟨v, rfl, ho, hb1⟩
      obtain ⟨A, c, rfl, -, -, -, hI⟩ := own_open ho
      go_wp2_with fail
      refine (elementOf_c _ _ _ _ _ hI hm).mono ?_; rintro e w2 ⟨rfl, hb2⟩
      go_wp2_with fail
      go_ret
      exact ⟨by rw [HE.out]; rfl, hb1.trans hb2⟩
    · by_cases h5 : justify = 5
      · subst h5
        have HE : Hid (between free n 5 i = elementOf (evenly free (2 * (n : Int))) (2 * (i : Int) + 1) + elementOf (evenly free (2 * (n : Int))) (2 * (i : Int) + 2)) := hid' (by simp [between, h0])
        have hm : (evenly free (2 * (n : Int))).length ≤ 1048576 := by rw [evenly_length (inB_iff.2 (by omega))]; omega
        have b1 := element_bd free (2 * (n : Int)) (2 * (i : Int) + 1)
        have b2 := element_bd free (2 * (n : Int)) (2 * (i : Int) + 2)
        go_enter Try.func108, Try.ntmps108
        go_wp2_with fail
        refine (iEvenly_c _ _ _).mono ?_; rintro e w1 ⟨v, rfl, ho, hb1⟩
        obtain ⟨A, c, rfl, -, -, -, hI⟩ := own_open ho
        go_wp2_with fail
        refine (elementOf_c _ _ _ _ _ hI hm).mono ?_; rintro e w2 ⟨rfl, hb2⟩
        go_wp2_with fail
        refine (elementOf_c _ _ _ _ _ (hI.keep hb2) hm).mono ?_; rintro e w3 ⟨rfl, hb3⟩
        go_wp2_with fail
        go_ret
        exact ⟨by rw [HE.out]; rfl, (hb1.trans hb2).trans hb3⟩
      · by_cases h6 : justify = 6
        · subst h6
          have HE : Hid (between free n 6 i = elementOf (evenly free ((n : Int) + 1)) ((i : Int) + 1)) := hid' (by simp [between, h0])
          have hm : (evenly free ((n : Int) + 1)).length ≤ 1048576 := by rw [evenly_length (inB_iff.2 (by omega))]; omega
          go_enter Try.func108, Try.ntmps108
          go_wp2_with fail
          refine (iEvenly_c _ _ _).mono ?_; rintro e w1 ⟨v, rfl, ho, hb1⟩
          obtain ⟨A, c, rfl, -, -, -, hI⟩ := own_open ho
          go_wp2_with fail
          refine (elementOf_c _ _ _ _ _ hI hm).mono ?_; rintro e w2 ⟨rfl, hb2⟩
          go_wp2_with fail
          go_ret
          exact ⟨by rw [HE.out]; rfl, hb1.trans hb2⟩
        · have e4 : (justify == 4) = false := by simp [h4]
          have e5 : (justify == 5) = false := by simp [h5]
          have e6 : (justify == 6) = false := by simp [h6]
          have HE : Hid (between free n justify i = 0) := hid' (by simp [between, h0, h4, h5, h6])
          clear h4 h5 h6
          go_enter Try.func108, Try.ntmps108
          go_wp2_with fail
          go_ret
          exact ⟨by rw [HE.out]; rfl, Bel.refl w⟩

/-! ### the spaces of the reference -/
def spaceAt (free : Int) (n : Nat) (justify : Int) (i : Nat) : Int := if i + 1 < n then between free n justify i else 0
def spacesL (free : Int) (n : Nat) (justify : Int) : List Int := (List.range n).map (spaceAt free n justify)
theorem spacesL_length (free : Int) (n : Nat) (justify : Int) : (spacesL free n justify).length = n := by simp [spacesL]
theorem spacesL_at (free : Int) {n : Nat} (justify : Int) {i : Nat} (h : i < n) : at_ (spacesL free n justify) i = spaceAt free n justify i := by
  simp [at_, spacesL, List.getD, h]
theorem element_in {l : List Int} {i : Nat} (h : i < l.length) : elementOf l (i : Int) = at_ l i := by
  rw [elementOf, if_neg (by omega)]; rfl


/-! ### PlaceLines -/
def justifyOf (content : Int) : Int := if content = 3 then 2 else if content = 4 then 3 else if content = 5 then 4 else if content = 6 then 5 else 1

def placeFree (zs : List Int) (gap inner : Int) : Int := signed (wrap64 (inner - crossTotal zs gap))
def placeAt (lead : Int) (sp : Nat → Int) (zs : List Int) (gap : Int) : Nat → Int
  | 0 => lead
  | k + 1 => placeAt lead sp zs gap k + at_ zs k + gap + sp k
def placesTo (lead : Int) (sp : Nat → Int) (zs : List Int) (gap : Int) (k : Nat) : List Int := (List.range k).map (placeAt lead sp zs gap)
theorem placesTo_succ (lead : Int) (sp : Nat → Int) (zs : List Int) (gap : Int) (k : Nat) : placesTo lead sp zs gap (k + 1) = placesTo lead sp zs gap k ++ [placeAt lead sp zs gap k] := by
  simp [placesTo, List.range_succ]
theorem placesTo_length (lead : Int) (sp : Nat → Int) (zs : List Int) (gap : Int) (k : Nat) : (placesTo lead sp zs gap k).length = k := by simp [placesTo]
theorem leadOf_bd {free : Int} (many justify : Int) (h : -1048576 ≤ free ∧ free ≤ 1048576) : -2097152 ≤ leadOf free many justify ∧ leadOf free many justify ≤ 2097152 := by
  have h1 := floorDiv_bd (a := free) (A := 1048576) 2 h
  have h2 := evenly_bd free (2 * many) 0
  have h3 := evenly_bd free (many + 1) 0
  unfold leadOf
  split
  · split
    · omega
    · split
      · omega
      · split
        · split <;> omega
        · split
          · split <;> omega
          · omega
  · omega
theorem placeAt_bd {lead : Int} {sp : Nat → Int} {zs : List Int} {gap : Int} (hl : -2097152 ≤ lead ∧ lead ≤ 2097152) (hs : ∀ i, -4194304 ≤ sp i ∧ sp i ≤ 4194304) (hg : 0 ≤ gap ∧ gap ≤ 1048576) (hz : ∀ i, i < zs.length → 0 ≤ at_ zs i ∧ at_ zs i ≤ 1048576) :
    ∀ k : Nat, k ≤ zs.length → -2097152 - 8388608 * (k : Int) ≤ placeAt lead sp zs gap k ∧ placeAt lead sp zs gap k ≤ 2097152 + 8388608 * (k : Int) := by
  intro k
  induction k with
  | zero => intro _; simp only [placeAt]; omega
  | succ k ih =>
    intro hk
    have h1 := ih (by omega)
    have h2 := hs k
    have h3 := hz k (by omega)
    simp only [placeAt]
    omega
def placeLines (zs : List Int) (gap inner content : Int) : List Int :=
  if acrossOk zs gap inner then placesTo (leadOf (placeFree zs gap inner) zs.length (justifyOf content)) (between (placeFree zs gap inner) zs.length (justifyOf content)) zs gap zs.length else []
theorem placeLines_len (zs : List Int) (gap inner content : Int) : (placeLines zs gap inner content).length ≤ 12 := by
  unfold placeLines
  split
  · rename_i h; rw [placesTo_length]; exact across_len h
  · simp
theorem across_parts {zs : List Int} {gap inner : Int} (h : acrossOk zs gap inner = true) : zs.length ≤ 12 ∧ (0 ≤ gap ∧ gap ≤ 1048576) ∧ (0 ≤ inner ∧ inner ≤ 1048576) ∧ ∀ i, i < zs.length → 0 ≤ at_ zs i ∧ at_ zs i ≤ 1048576 := by
  simp only [acrossOk, Bool.and_eq_true, decide_eq_true_eq] at h
  exact ⟨h.1.1.2, inB_iff.1 h.1.2, inB_iff.1 h.2, fun i hi => inB_iff.1 (allIn_at h.1.1.1 hi)⟩


end Go.Proofs.Ytmipjhnjlpmidaa
