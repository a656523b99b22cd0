/- SpaceText, both texts; the law ExactSpaceText, its row and its card. -/
import Derived.Test.YtfmijkedhlnccaaDoorLaid
import Derived.Test.YtfmijkedhlnccaaDoorCards
import Derived.Test.YtfmijkedhlnccaaDoorTie
import Derived.SevenTiedAt
namespace Go.Proofs.YtfmijkedhlnccaaDoor
open Go.ChangeShapes Go.WideShapes Go.ChangeAt Go.RowKit
set_option linter.unusedVariables false
set_option linter.unusedSimpArgs false

def spText (m n : Int) : ByteArray :=
  if spaceOk m n = true then (if m = 2 then ⟨#[109, 111, 115, 116, 32]⟩ ++ ⟨(Lib.itoa n).toArray⟩ else if m = 3 then ⟨#[101, 120, 97, 99, 116, 32]⟩ ++ ⟨(Lib.itoa n).toArray⟩ else ⟨#[102, 114, 101, 101]⟩) else ⟨#[63]⟩
theorem itoa_len (k : Nat) (h : k ≤ 1048576) : (Lib.itoa (k : Int)).length ≤ 1048577 := by
  have hi : Lib.itoa (k : Int) = Lib.decDigits k := by unfold Lib.itoa; rw [if_neg (by omega)]; rfl
  rw [hi]
  have := dec_len k
  omega
set_option maxRecDepth 100000 in
set_option maxHeartbeats 1000000 in
theorem iSpaceText_c (m n : Int) (w : World) (ht : Tab w) :
    Calls Tryd.prog 18 #[spaceV m n] w fun r w' => r = .returned (.string (spText m n)) ∧ Bel w w' := by
  by_cases hok : spaceOk m n = true
  · by_cases h2 : m = 2 ∨ m = 3
    · obtain ⟨k, rfl, hk⟩ : ∃ k : Nat, n = (k : Int) ∧ k ≤ 1048576 := by
        rcases h2 with rfl | rfl <;> (simp [spaceOk, inB] at hok; exact ⟨n.toNat, by omega, by omega⟩)
      have hlen := itoa_len k hk
      obtain ⟨L, hL⟩ : ∃ L, Lib.itoa (k : Int) = L := ⟨_, rfl⟩
      have HL := Lib.hid hL
      have hs : spText m k = (if m = 2 then ⟨#[109, 111, 115, 116, 32]⟩ ++ ⟨L.toArray⟩ else ⟨#[101, 120, 97, 99, 116, 32]⟩ ++ ⟨L.toArray⟩) := by
        unfold spText
        rw [if_pos hok, hL]
        rcases h2 with rfl | rfl <;> simp
      rw [hs]
      rw [hL] at hlen
      have hm1 : ¬ 9223372036854775807 < 5 + L.length := by omega
      have hm2 : ¬ 9223372036854775807 < 6 + L.length := by omega
      clear hL hs
      rcases h2 with rfl | rfl
      · go_enter Tryd.func18, Tryd.ntmps18
        go_wp2_with fail
        refine (iSpaceOk_c _ _ _).mono ?_; rintro e w1 ⟨rfl, hb1⟩
        rw [hok]
        have hB1 : Bel w w1 := Bel.trans (by repeat (first | exact Bel.refl _ | refine Bel.alloc ?_ _)) hb1
        have K1 := fun o => hb1.cell w.heap.size o (by simp)
        go_wp2_with fail
        refine (iDecimal_c _ (by omega) _ (ht.keep hB1)).mono ?_; rintro e w2 ⟨rfl, hb2⟩
        rw [HL.out]
        have hB2 := hB1.trans hb2
        go_wp2_with fail
        go_ret
        exact ⟨rfl, hB2⟩
      · go_enter Tryd.func18, Tryd.ntmps18
        go_wp2_with fail
        refine (iSpaceOk_c _ _ _).mono ?_; rintro e w1 ⟨rfl, hb1⟩
        rw [hok]
        have hB1 : Bel w w1 := Bel.trans (by repeat (first | exact Bel.refl _ | refine Bel.alloc ?_ _)) hb1
        have K1 := fun o => hb1.cell w.heap.size o (by simp)
        go_wp2_with fail
        refine (iDecimal_c _ (by omega) _ (ht.keep hB1)).mono ?_; rintro e w2 ⟨rfl, hb2⟩
        rw [HL.out]
        have hB2 := hB1.trans hb2
        go_wp2_with fail
        go_ret
        exact ⟨rfl, hB2⟩
    · have h2a : ¬ m = 2 := fun e => h2 (.inl e)
      have h3a : ¬ m = 3 := fun e => h2 (.inr e)
      have hs : spText m n = ⟨#[102, 114, 101, 101]⟩ := by
        unfold spText
        rw [if_pos hok, if_neg h2a, if_neg h3a]
      rw [hs]
      clear hs h2
      go_enter Tryd.func18, Tryd.ntmps18
      go_wp2_with fail
      refine (iSpaceOk_c _ _ _).mono ?_; rintro e w1 ⟨rfl, hb1⟩
      rw [hok]
      have hB1 : Bel w w1 := Bel.trans (by repeat (first | exact Bel.refl _ | refine Bel.alloc ?_ _)) hb1
      have K1 := fun o => hb1.cell w.heap.size o (by simp)
      go_wp2_with fail
      all_goals first
        | (exfalso; simp_all; done)
        | (go_ret; exact ⟨rfl, hB1⟩)
  · have hs : spText m n = ⟨#[63]⟩ := by
      unfold spText
      rw [if_neg hok]
    have hok' : spaceOk m n = false := by simpa using hok
    rw [hs]
    clear hs hok
    go_enter Tryd.func18, Tryd.ntmps18
    go_wp2_with fail
    refine (iSpaceOk_c _ _ _).mono ?_; rintro e w1 ⟨rfl, hb1⟩
    rw [hok']
    have hB1 : Bel w w1 := Bel.trans (by repeat (first | exact Bel.refl _ | refine Bel.alloc ?_ _)) hb1
    go_wp2_with fail
    go_ret
    exact ⟨rfl, hB1⟩
set_option maxRecDepth 100000 in
set_option maxHeartbeats 1000000 in
theorem sSpaceText_c (m n : Int) (w : World) (ht : Tab w) :
    Calls Tryd.prog 19 #[spaceV m n] w fun r w' => r = .returned (.string (spText m n)) ∧ Bel w w' := by
  by_cases hok : spaceOk m n = true
  · by_cases h2 : m = 2 ∨ m = 3
    · obtain ⟨k, rfl, hk⟩ : ∃ k : Nat, n = (k : Int) ∧ k ≤ 1048576 := by
        rcases h2 with rfl | rfl <;> (simp [spaceOk, inB] at hok; exact ⟨n.toNat, by omega, by omega⟩)
      have hlen := itoa_len k hk
      obtain ⟨L, hL⟩ : ∃ L, Lib.itoa (k : Int) = L := ⟨_, rfl⟩
      have HL := Lib.hid hL
      have hs : spText m k = (if m = 2 then ⟨#[109, 111, 115, 116, 32]⟩ ++ ⟨L.toArray⟩ else ⟨#[101, 120, 97, 99, 116, 32]⟩ ++ ⟨L.toArray⟩) := by
        unfold spText
        rw [if_pos hok, hL]
        rcases h2 with rfl | rfl <;> simp
      rw [hs]
      rw [hL] at hlen
      have hm1 : ¬ 9223372036854775807 < 5 + L.length := by omega
      have hm2 : ¬ 9223372036854775807 < 6 + L.length := by omega
      clear hL hs
      rcases h2 with rfl | rfl
      · go_enter Tryd.func19, Tryd.ntmps19
        go_wp2_with fail
        refine (sSpaceOk_c _ _ _).mono ?_; rintro e w1 ⟨rfl, hb1⟩
        rw [hok]
        have hB1 : Bel w w1 := Bel.trans (by repeat (first | exact Bel.refl _ | refine Bel.alloc ?_ _)) hb1
        have K1 := fun o => hb1.cell w.heap.size o (by simp)
        go_wp2_with fail
        refine (sDecimal_c _ (by omega) _).mono ?_; rintro e w2 ⟨rfl, hb2⟩
        rw [HL.out]
        have hB2 := hB1.trans hb2
        go_wp2_with fail
        go_ret
        exact ⟨rfl, hB2⟩
      · go_enter Tryd.func19, Tryd.ntmps19
        go_wp2_with fail
        refine (sSpaceOk_c _ _ _).mono ?_; rintro e w1 ⟨rfl, hb1⟩
        rw [hok]
        have hB1 : Bel w w1 := Bel.trans (by repeat (first | exact Bel.refl _ | refine Bel.alloc ?_ _)) hb1
        have K1 := fun o => hb1.cell w.heap.size o (by simp)
        go_wp2_with fail
        refine (sDecimal_c _ (by omega) _).mono ?_; rintro e w2 ⟨rfl, hb2⟩
        rw [HL.out]
        have hB2 := hB1.trans hb2
        go_wp2_with fail
        go_ret
        exact ⟨rfl, hB2⟩
    · have h2a : ¬ m = 2 := fun e => h2 (.inl e)
      have h3a : ¬ m = 3 := fun e => h2 (.inr e)
      have hs : spText m n = ⟨#[102, 114, 101, 101]⟩ := by
        unfold spText
        rw [if_pos hok, if_neg h2a, if_neg h3a]
      rw [hs]
      clear hs h2
      go_enter Tryd.func19, Tryd.ntmps19
      go_wp2_with fail
      refine (sSpaceOk_c _ _ _).mono ?_; rintro e w1 ⟨rfl, hb1⟩
      rw [hok]
      have hB1 : Bel w w1 := Bel.trans (by repeat (first | exact Bel.refl _ | refine Bel.alloc ?_ _)) hb1
      have K1 := fun o => hb1.cell w.heap.size o (by simp)
      go_wp2_with fail
      all_goals first
        | (exfalso; simp_all; done)
        | (go_ret; exact ⟨rfl, hB1⟩)
  · have hs : spText m n = ⟨#[63]⟩ := by
      unfold spText
      rw [if_neg hok]
    have hok' : spaceOk m n = false := by simpa using hok
    rw [hs]
    clear hs hok
    go_enter Tryd.func19, Tryd.ntmps19
    go_wp2_with fail
    refine (sSpaceOk_c _ _ _).mono ?_; rintro e w1 ⟨rfl, hb1⟩
    rw [hok']
    have hB1 : Bel w w1 := Bel.trans (by repeat (first | exact Bel.refl _ | refine Bel.alloc ?_ _)) hb1
    go_wp2_with fail
    go_ret
    exact ⟨rfl, hB1⟩
set_option maxRecDepth 100000 in
set_option maxHeartbeats 1000000 in
theorem lawSpaceText_c (m n : Int) (w : World) (ht : Tab w) : Calls Tryd.prog 4 #[spaceV m n] w fun r w' => r = .returned (.bool true) ∧ Bel w w' := by
  obtain ⟨X, hX⟩ : ∃ X, spText m n = X := ⟨_, rfl⟩
  have HX := Lib.hid hX
  clear hX
  go_enter Tryd.func4, Tryd.ntmps4
  go_wp2_with fail
  refine (toSpace_c _ _ _).mono ?_; rintro e w1 ⟨rfl, hb1⟩
  have hB1 : Bel w w1 := Bel.trans (by repeat (first | exact Bel.refl _ | refine Bel.alloc ?_ _)) hb1
  have K1 := fun o => hb1.cell w.heap.size o (by simp)
  have L1 : w.heap.size < w1.heap.size := by have := hb1.sz; simp at this; omega
  go_wp2_with fail
  refine (sSpaceText_c _ _ _ (ht.keep hB1)).mono ?_; rintro e w2 ⟨rfl, hb2⟩
  rw [HX.out]
  have hB2 := hB1.trans hb2
  have K2 := fun o => hb2.cell w.heap.size o L1
  have L2 : w.heap.size < w2.heap.size := by have := hb2.sz; omega
  go_wp2_with fail
  refine (toSpace_c _ _ _).mono ?_; rintro e w3 ⟨rfl, hb3⟩
  have hB3 := hB2.trans hb3
  go_wp2_with fail
  refine (iSpaceText_c _ _ _ (ht.keep hB3)).mono ?_; rintro e w4 ⟨rfl, hb4⟩
  rw [HX.out]
  have hB4 := hB3.trans hb4
  go_wp2_with fail
  go_ret
  exact ⟨by simp, hB4⟩

set_option maxRecDepth 100000 in
theorem ExactSpaceText_lifted (os : Os) (started : os.Started) (H : Type) (enc : TypeId × Value → H) :
    ReturnsInHanded {} Tryd.checked os 4 .any (fun w args => (Rows.fnExactSpaceTextSpec.pre enc Tryd.prog Tryd.f4 [] false w args ∧ laidMetH Tryd.prog laid3 w) ∧ sizedMet enc Tryd.prog Tryd.f4 (OpenSpec.ofChange Rows.fnExactSpaceTextSpec) false w args)
      (Rows.fnExactSpaceTextSpec.post enc Tryd.prog Tryd.f4 false true false false) := by
  refine law_laid (C := Tryd.checked) (tb := 4) own started (by kernel_rfl) Tryd.func4 laidOut rfl rfl Tryd.underlying4 (by kernel_rfl)
    (fun ds h => match ds, h with | [_], _ => rfl)
    (ChangeSpec.witness_shaped (enc := enc) (C := Tryd.checked) (os := os) (X := fun w _ => laidMetH Tryd.prog laid3 w) false (World.doorLaid Tryd.prog 24 os) #[spaceV 0 0] 8 rfl (World.shaped_of_RefB (by kernel_rfl) (by kernel_rfl)) (by kernel_rfl) (by kernel_rfl) (by kernel_rfl) (door_met os _)) ?_
  intro W base args ds ps hval0 hA0 hL
  have hval : ∀ (j : Nat) t v, Tryd.f4.params[j]? = some t → args[j]? = some v → Value.okWide Tryd.prog W .any base t v := hval0
  have hA : DataW.TrodAll enc Tryd.prog W 0 (fun _ => true) true Tryd.f4.params.toList args.toList ds ps := hA0
  clear hval0 hA0
  rw [Tryd.params4] at hA hval
  obtain ⟨v0, d0, rfl, rfl, h0⟩ := trodAll_one hA
  obtain ⟨s, b, -, rfl⟩ := open_flat 5 Tryd.underlying37 (ts := [3, 3]) (ks := [true, true]) (by kernel_rfl) (by kernel_rfl) (hval 0 37 v0 rfl rfl) h0
  exact lawSpaceText_c _ _ W (tab_of_laid hL)

theorem ExactSpaceText_row : Rows.FnExactSpaceTextSaid :=
  OpenClaim.holds_of_wide 4 Tryd.f4 rfl rfl rfl rfl rfl rfl rfl ⟨rfl, rfl, rfl, rfl, rfl⟩ rfl rfl rfl rfl rfl (by kernel_rfl) Tryd.func4 (by kernel_rfl)
    (of_decide_eq_true (by kernel_rfl)) (by unfold Func.isWrapper; first | (rw [if_pos (by decide +kernel)]; kernel_rfl) | (rw [if_neg (by decide +kernel)]; exact ⟨rfl, rfl⟩))
    (fun os started H enc _ => ExactSpaceText_lifted os started H enc)
theorem ExactSpaceText_holds : Rows.FnExactSpaceTextCardSaid :=
  Claim7.holds_tied_plain_at .later [] [.data, .data, .data] true (true, "a6973494b0fa96269edcc175e4925abe364404895d1336870a962c5ee6e2319c") false
    ExactSpaceText_row (fun _ h => by cases h) (by kernel_rfl) (fun _ h => by cases h) fnExactSpaceText_row_tie rfl ⟨rfl, rfl⟩ (by kernel_rfl) rfl
    (fun f fn hf hfn => by
      obtain rfl : f = 4 := Option.some.inj ((show Tryd.prog.funcNamed "loop.example/g00972/laws.FnExactSpaceText" = some 4 by kernel_rfl).symm.trans hf) |>.symm
      obtain rfl : fn = Tryd.f4 := (Option.some.inj (Tryd.func4.symm.trans hfn)).symm
      exact ⟨by kernel_rfl, fun j t ht => by
        rw [Tryd.params4] at ht
        have hm : t ∈ [37] := by simpa using Array.mem_of_getElem? ht
        have hall : ([37].all fun u => !Tryd.prog.wantsStandIn u) = true := by kernel_rfl
        exact (show Tryd.prog.wantsStandIn t = false by simpa using List.all_eq_true.1 hall t hm)⟩)
    (by kernel_rfl)
#print axioms ExactSpaceText_holds
end Go.Proofs.YtfmijkedhlnccaaDoor
