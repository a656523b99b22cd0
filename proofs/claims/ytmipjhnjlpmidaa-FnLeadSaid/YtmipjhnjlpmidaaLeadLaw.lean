/- The law FnLead returns true for every argument, and leaves its arguments as they were. No condition. -/
import Derived.Test.YtmipjhnjlpmidaaDrawLead
import Derived.OpenShut
import Derived.Deep.RegionWith
import Derived.Deep.RegionHeld3
namespace Go.Proofs.Ytmipjhnjlpmidaa
open Go.ChangeShapes Go.WideShapes Go.ChangeAt Go.RowKit
set_option linter.unusedVariables false
set_option linter.unusedSimpArgs false

theorem own : ownKnob Try.prog.godebug = none := by kernel_rfl
theorem laidOut : laidOutB Try.prog = true := by kernel_rfl

set_option maxRecDepth 100000 in
set_option maxHeartbeats 2000000 in
theorem lawLead_c (A : Option Addr) (c n : Nat) (w : World) (h : Byts w A n) :
    Calls Try.prog 6 #[.slice A n c] w fun r w' => r = .returned (.bool true) ∧ Bel w w' := by
  by_cases hn : 1048576 < n
  · have hd : decide (1048576 < n) = true := by simpa using hn
    go_enter Try.func6, Try.ntmps6
    go_wp2_with fail
    refine (big_c _ _ _ _).mono ?_; rintro e w' ⟨rfl, rfl⟩
    rw [hd]
    go_wp2_with fail
    go_ret
    exact ⟨rfl, Bel.refl _⟩
  · have hd : decide (1048576 < n) = false := by simpa using hn
    have E1 : leadOf 100 1 3 = 50 := by decide +kernel
    have E2 : leadOf 90 2 6 = 30 := by decide +kernel
    have E3 : leadOf 100 2 5 = 25 := by decide +kernel
    have HE1 := Lib.hid E1
    have HE2 := Lib.hid E2
    have HE3 := Lib.hid E3
    clear E1 E2 E3
    go_enter Try.func6, Try.ntmps6
    go_wp2_with fail
    refine (big_c _ _ _ _).mono ?_; rintro e w' ⟨rfl, rfl⟩
    rw [hd]
    clear hd
    go_wp2_with fail
    refine (drawLeadOf_c _ _ _ _ h (by omega)).mono ?_; rintro e w1 ⟨a, b, j, rfl, ha, hb1⟩
    go_wp2_with fail
    refine (iLeadOf_c _ _ _ _ ha).mono ?_; rintro e w2 ⟨rfl, hb2⟩
    have T2 := hb1.trans hb2
    obtain ⟨lo, hlo⟩ : ∃ v, leadOf a b j = v := ⟨_, rfl⟩
    have HLO := Lib.hid hlo
    rw [hlo]
    clear hlo hb1 hb2
    go_wp2_with fail
    refine (drawAutosIn_c _ _ _ _ (h.keep T2) (by omega)).mono ?_; rintro e w3 ⟨B, d, L, rfl, hR, hl, hb3⟩
    have T3 := T2.trans hb3
    clear T2 hb3
    go_wp2_with fail
    refine (drawFreeOf_c _ _ _ _ (h.keep T3) (by omega)).mono ?_; rintro e w4 ⟨B', d', L', Z, e', zs, gap, inner, rfl, hR', hI', hl', hzl', hb4⟩
    have T4 := T3.trans hb4
    have hR4 := hR.keep hb4
    clear T3 hb4 hR
    go_wp2_with fail
    refine (sLeadOf_c _ _ _ _ ha).mono ?_; rintro e w5 ⟨rfl, hb5⟩
    rw [HLO.out]
    have T5 := T4.trans hb5
    have hR5 := hR4.keep hb5
    have hR5' := hR'.keep hb5
    have hI5' := hI'.keep hb5
    clear T4 hb5 hR4 hR' hI'
    go_wp2_with fail
    refine (iAutosIn_c _ _ _ _ hR5 (by omega)).mono ?_; rintro e w6 ⟨rfl, hb6⟩
    obtain ⟨au, hau⟩ : ∃ v, autosTo L L.length = v := ⟨_, rfl⟩
    have HAU := Lib.hid hau
    rw [hau]
    clear hau
    have T6 := T5.trans hb6
    have hR6 := hR5.keep hb6
    have hR6' := hR5'.keep hb6
    have hI6' := hI5'.keep hb6
    clear T5 hb6 hR5 hR5' hI5'
    go_wp2_with fail
    refine (sAutosIn_c _ _ _ _ hR6 (by omega)).mono ?_; rintro e w7 ⟨rfl, hb7⟩
    rw [HAU.out]
    have T7 := T6.trans hb7
    have hR7' := hR6'.keep hb7
    have hI7' := hI6'.keep hb7
    clear T6 hb7 hR6 hR6' hI6'
    go_wp2_with fail
    refine (iFreeOf_c _ _ _ _ _ _ _ _ _ hR7' hI7' (by omega) (by omega)).mono ?_; rintro e w8 ⟨rfl, hb8⟩
    obtain ⟨fo, hfo⟩ : ∃ v, freeOf L' zs gap inner = v := ⟨_, rfl⟩
    have HFO := Lib.hid hfo
    rw [hfo]
    clear hfo
    have T8 := T7.trans hb8
    have hR8' := hR7'.keep hb8
    have hI8' := hI7'.keep hb8
    clear T7 hb8 hR7' hI7'
    go_wp2_with fail
    refine (sFreeOf_c _ _ _ _ _ _ _ _ _ hR8' hI8' (by omega) (by omega)).mono ?_; rintro e w9 ⟨rfl, hb9⟩
    rw [HFO.out]
    have T9 := T8.trans hb9
    clear T8 hb9 hR8' hI8'
    go_wp2_with fail
    refine (iLeadOf_c _ _ _ _ (by omega)).mono ?_; rintro e w10 ⟨rfl, hb10⟩
    rw [HE1.out]
    go_wp2_with fail
    refine (iLeadOf_c _ _ _ _ (by omega)).mono ?_; rintro e w11 ⟨rfl, hb11⟩
    rw [HE2.out]
    go_wp2_with fail
    refine (iLeadOf_c _ _ _ _ (by omega)).mono ?_; rintro e w12 ⟨rfl, hb12⟩
    rw [HE3.out]
    go_wp2_with fail
    go_ret
    exact ⟨by first | rfl | simp, ((T9.trans hb10).trans hb11).trans hb12⟩

set_option maxRecDepth 100000 in
theorem Lead_lifted (os : Os) (started : os.Started) (H : Type) (enc : TypeId × Value → H) :
    ReturnsInHanded {} Try.checked os 6 .any (Rows.fnLeadSpec.pre6 enc Try.prog Try.f6 Rows.fnLeadRow.domain false) (Rows.fnLeadSpec.post enc Try.prog Try.f6 false true false false) := by
  refine law_lifted (C := Try.checked) (tb := 4) own started (by kernel_rfl) Try.func6 laidOut rfl rfl Try.underlying4 (by kernel_rfl)
    (fun ds h => match ds, h with | [_], _ => rfl)
    (ChangeSpec.witness6 (enc := enc) (C := Try.checked) false ⟨#[], #[.slice none 0 0], []⟩ 8 (by kernel_rfl) (by kernel_rfl) (by kernel_rfl) (by kernel_rfl)) ?_
  intro W base args ds ps hval0 hA0
  have hval : ∀ (j : Nat) t v, Try.f6.params[j]? = some t → args[j]? = some v → Value.okWide Try.prog W .any base t v := hval0
  have hA : DataW.TrodAll enc Try.prog W 0 (fun _ => true) true Try.f6.params.toList args.toList ds ps := hA0
  clear hval0 hA0
  rw [Try.params6] at hA hval
  obtain ⟨v0, d0, rfl, rfl, h0⟩ := trodAll_one hA
  obtain ⟨A, c, n, rfl, -, -, hI⟩ := open_bytes Try.underlying36 Try.underlying5 (by kernel_rfl) (hval 0 36 v0 rfl rfl) h0
  exact lawLead_c _ _ _ W hI

theorem Lead_holds : Rows.FnLeadSaid :=
  OpenClaim.holds_of_wide 6 Try.f6 rfl rfl rfl rfl rfl rfl rfl ⟨rfl, rfl, rfl, rfl, rfl⟩ rfl rfl rfl rfl rfl (by kernel_rfl) Try.func6 (by kernel_rfl)
    (of_decide_eq_true (by kernel_rfl)) (by unfold Func.isWrapper; first | (rw [if_pos (by decide +kernel)]; kernel_rfl) | (rw [if_neg (by decide +kernel)]; exact ⟨rfl, rfl⟩))
    (fun os started H enc _ => Lead_lifted os started H enc)
#print axioms Lead_holds
end Go.Proofs.Ytmipjhnjlpmidaa
