/- AcrossOk, both texts. -/
import Derived.Test.YtgelpfecfbagdaaInts
namespace Go.Proofs.Ytgelpfecfbagdaa
open Go.RowKit
set_option linter.unusedVariables false
set_option linter.unusedSimpArgs false

def allIn (zs : List Int) (a b : Int) : Bool := zs.all fun z => inB z a b
def acrossOk (zs : List Int) (gap inner : Int) : Bool := allIn zs 0 1048576 && decide (zs.length ≤ 12) && inB gap 0 1048576 && inB inner 0 1048576

theorem allIn_true {zs : List Int} {a b : Int} (h : ∀ j, j < zs.length → inB (at_ zs j) a b = true) : allIn zs a b = true := by
  unfold allIn
  rw [List.all_eq_true]
  intro z hz
  obtain ⟨i, hi, rfl⟩ := List.getElem_of_mem hz
  have := h i hi
  rw [show at_ zs i = zs[i] by simp [at_, List.getD, List.getElem?_eq_getElem hi]] at this
  exact this
theorem allIn_false {zs : List Int} {a b : Int} {k : Nat} (hk : k < zs.length) (h : inB (at_ zs k) a b = false) : allIn zs a b = false := by
  unfold allIn
  rw [List.all_eq_false]
  exact ⟨_, at_mem hk, by rw [h]; decide⟩
theorem allIn_at {zs : List Int} {a b : Int} (h : allIn zs a b = true) {k : Nat} (hk : k < zs.length) : inB (at_ zs k) a b = true := by
  unfold allIn at h
  rw [List.all_eq_true] at h
  exact h _ (at_mem hk)

set_option maxHeartbeats 1000000 in
theorem iAcrossOk_c (A : Option Addr) (c : Nat) (zs : List Int) (gap inner : Int) (w : World) (h : Ints w A zs) (hn : zs.length ≤ 1048576) :
    Calls Try.prog 69 #[.slice A zs.length c, .int .i64 gap, .int .i64 inner] w fun r w' => r = .returned (.bool (acrossOk zs gap inner)) ∧ Bel w w' := by
  go_enter Try.func69, Try.ntmps69
  go_wp2_with fail
  go_loopw [11] (fun i wr => ∃ (k : Nat), k ≤ zs.length ∧ i = .int .i64 k ∧ (∀ j, j < k → inB (at_ zs j) 0 1048576 = true) ∧ Bel w wr) (fun i _ => zs.length - (intOf i).toNat)
  case atStart => exact ⟨0, Nat.zero_le _, by go_num, fun j hj => absurd hj (Nat.not_lt_zero _), Bel.refl w⟩
  case round =>
    obtain ⟨k, hk, rfl, hx, hb⟩ := hrel
    have hX := Lib.hid hx
    clear hx
    by_cases hlt : k < zs.length
    · obtain ⟨b, o, rfl, hbl, hc⟩ := h k hlt
      have hcA : wr.cell? ⟨b, o + k, none⟩ = some (.int .i64 (at_ zs k)) := (hb.cell _ _ hbl).trans (hc k hlt)
      clear hc
      cases he : inB (at_ zs k) 0 1048576 with
      | true =>
        go_wp2_with (go_at_call 56; refine (in_c _ _ _ _).mono ?_; rintro e w' ⟨rfl, rfl⟩)
        go_roundw
        case rel => exact ⟨k + 1, by omega, by go_num, fun j hj => (by rcases Nat.lt_succ_iff_lt_or_eq.1 hj with h | h; exact hX.out j h; subst h; exact he), hb⟩
        case measure => simp [intOf]; omega
      | false =>
        go_wp2_with (go_at_call 56; refine (in_c _ _ _ _).mono ?_; rintro e w' ⟨rfl, rfl⟩)
        go_ret
        refine ⟨?_, hb⟩
        simp [acrossOk, allIn_false hlt he]
    · have hA : allIn zs 0 1048576 = true := allIn_true fun j hj => hX.out j (by omega)
      have HA := Lib.hid hA
      clear hA
      by_cases h12 : zs.length ≤ 12
      · have h12' : decide ((zs.length : Int) ≤ 12) = true := by simp; omega
        cases hg : inB gap 0 1048576 with
        | true =>
          go_wp2_with (go_at_call 56; refine (in_c _ _ _ _).mono ?_; rintro e w' ⟨rfl, rfl⟩)
          go_ret
          exact ⟨by simp [acrossOk, HA.out, h12, hg], hb⟩
        | false =>
          go_wp2_with (go_at_call 56; refine (in_c _ _ _ _).mono ?_; rintro e w' ⟨rfl, rfl⟩)
          go_ret
          exact ⟨by simp [acrossOk, HA.out, h12, hg], hb⟩
      · have h12' : decide ((zs.length : Int) ≤ 12) = false := by simp; omega
        go_wp2_with (go_at_call 56; refine (in_c _ _ _ _).mono ?_; rintro e w' ⟨rfl, rfl⟩)
        go_ret
        exact ⟨by simp [acrossOk, h12], hb⟩
set_option maxHeartbeats 1000000 in
theorem sAcrossOk_c (A : Option Addr) (c : Nat) (zs : List Int) (gap inner : Int) (w : World) (h : Ints w A zs) (hn : zs.length ≤ 1048576) :
    Calls Try.prog 67 #[.slice A zs.length c, .int .i64 gap, .int .i64 inner] w fun r w' => r = .returned (.bool (acrossOk zs gap inner)) ∧ Bel w w' := by
  go_enter Try.func67, Try.ntmps67
  go_wp2_with fail
  go_loopw [7] (fun i wr => ∃ (k : Nat), k ≤ zs.length ∧ i = .int .i64 k ∧ (∀ j, j < k → inB (at_ zs j) 0 1048576 = true) ∧ Bel w wr) (fun i _ => zs.length - (intOf i).toNat)
  case atStart => exact ⟨0, Nat.zero_le _, by go_num, fun j hj => absurd hj (Nat.not_lt_zero _), Bel.refl w⟩
  case round =>
    obtain ⟨k, hk, rfl, hx, hb⟩ := hrel
    have hX := Lib.hid hx
    clear hx
    by_cases hlt : k < zs.length
    · obtain ⟨b, o, rfl, hbl, hc⟩ := h k hlt
      have hcA : wr.cell? ⟨b, o + k, none⟩ = some (.int .i64 (at_ zs k)) := (hb.cell _ _ hbl).trans (hc k hlt)
      clear hc
      cases he : inB (at_ zs k) 0 1048576 with
      | true =>
        go_wp2_with (go_at_call 55; refine (l01In_c _ _ _ _).mono ?_; rintro e w' ⟨rfl, rfl⟩)
        go_roundw
        case rel => exact ⟨k + 1, by omega, by go_num, fun j hj => (by rcases Nat.lt_succ_iff_lt_or_eq.1 hj with h | h; exact hX.out j h; subst h; exact he), hb⟩
        case measure => simp [intOf]; omega
      | false =>
        go_wp2_with (go_at_call 55; refine (l01In_c _ _ _ _).mono ?_; rintro e w' ⟨rfl, rfl⟩)
        go_ret
        refine ⟨?_, hb⟩
        simp [acrossOk, allIn_false hlt he]
    · have hA : allIn zs 0 1048576 = true := allIn_true fun j hj => hX.out j (by omega)
      have HA := Lib.hid hA
      clear hA
      by_cases h12 : zs.length ≤ 12
      · have h12' : decide ((zs.length : Int) ≤ 12) = true := by simp; omega
        cases hg : inB gap 0 1048576 with
        | true =>
          go_wp2_with (go_at_call 55; refine (l01In_c _ _ _ _).mono ?_; rintro e w' ⟨rfl, rfl⟩)
          go_ret
          exact ⟨by simp [acrossOk, HA.out, h12, hg], hb⟩
        | false =>
          go_wp2_with (go_at_call 55; refine (l01In_c _ _ _ _).mono ?_; rintro e w' ⟨rfl, rfl⟩)
          go_ret
          exact ⟨by simp [acrossOk, HA.out, h12, hg], hb⟩
      · have h12' : decide ((zs.length : Int) ≤ 12) = false := by simp; omega
        go_wp2_with (go_at_call 55; refine (l01In_c _ _ _ _).mono ?_; rintro e w' ⟨rfl, rfl⟩)
        go_ret
        exact ⟨by simp [acrossOk, h12], hb⟩
end Go.Proofs.Ytgelpfecfbagdaa
