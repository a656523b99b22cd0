/- LongestOf, both texts. -/
import Derived.Test.YtknccikdoabgfaaLinesI
import Derived.Test.YtknccikdoabgfaaLinesS
namespace Go.Proofs.Ytknccikdoabgfaa
open Go.RowKit Go.ChangeShapes Go.WideShapes
set_option linter.unusedVariables false
set_option linter.unusedSimpArgs false

def longTo (L : List Rec) (gap : Int) (LL : List (List Int)) : Nat → Int
  | 0 => 0
  | k + 1 => max (longTo L gap LL k) (outerL L (LL.getD k []) gap)
def longestOf (L : List Rec) (gap room : Int) (wraps : Bool) : Int := longTo L gap (linesOf L gap room wraps) (linesOf L gap room wraps).length
theorem linesOf_len (L : List Rec) (gap room : Int) (wraps : Bool) : (linesOf L gap room wraps).length ≤ L.length := (linesTo_bd _ _ _ _ _).1
theorem linesOf_at (L : List Rec) (gap room : Int) (wraps : Bool) {j : Nat} (h : j < (linesOf L gap room wraps).length) : ((linesOf L gap room wraps).getD j []).length ≤ L.length := (linesTo_bd _ _ _ _ _).2 _ (List.mem_of_getElem? (getD_eq h))
set_option maxHeartbeats 2000000 in
theorem iLongestOf_c (A : Option Addr) (c : Nat) (L : List Rec) (gap room : Int) (wraps : Bool) (w : World) (h : Recs w A k_item L) (hn : L.length ≤ 1048576) :
    Calls Try.prog 40 #[.slice A L.length c, .int .i64 gap, .int .i64 room, .bool wraps] w fun r w' => r = .returned (.int .i64 (longestOf L gap room wraps)) ∧ Bel w w' := by
  go_enter Try.func40, Try.ntmps40
  go_wp2_with fail
  refine (iLinesOf_c _ _ _ _ _ _ _ h hn).mono ?_; rintro e w1 ⟨v, rfl, hAt, hb1⟩
  obtain ⟨LL, hLL⟩ : ∃ LL, linesOf L gap room wraps = LL := ⟨_, rfl⟩
  have hLl := linesOf_len L gap room wraps
  have hLa : ∀ j, j < LL.length → (LL.getD j []).length ≤ L.length := fun j hj => by subst hLL; exact linesOf_at L gap room wraps hj
  have HQ : Hid (longestOf L gap room wraps = longTo L gap LL LL.length) := hid' (by subst hLL; rfl)
  rw [hLL] at hAt hLl
  obtain ⟨Av, cv, rfl, hcv, hcm, hR1⟩ := LinesAt.rows hAt
  clear hLL hAt
  replace h := h.keep hb1
  go_wp2_with fail
  go_loopw [9, 19] (fun s i wr => ∃ (k : Nat), k ≤ LL.length ∧ i = .int .i64 k ∧ s = .int .i64 (longTo L gap LL k) ∧ Bel w1 wr) (fun _ i _ => LL.length - (intOf i).toNat)
  case atStart => exact ⟨0, Nat.zero_le _, by go_num, rfl, Bel.refl _⟩
  case round =>
    obtain ⟨k, hk, rfl, rfl, hb⟩ := hrel
    by_cases hlt : k < LL.length
    · obtain ⟨b, o, rfl, hbl, hR⟩ := hR1 k hlt
      obtain ⟨B, d, hcB, hd1, hd2, hB0, hBI⟩ := hR k hlt
      have hcA := (hb.cell _ _ hbl).trans hcB
      have hlk := hLa k hlt
      have HS : Hid (longTo L gap LL (k + 1) = max (longTo L gap LL k) (outerL L (LL.getD k []) gap)) := hid' rfl
      obtain ⟨l, hel⟩ : ∃ l, LL.getD k [] = l := ⟨_, rfl⟩
      rw [hel] at hcA hlk hBI HS
      clear hcB hR hel hd1
      have hI2 := hBI.keep hb
      have h2 := h.keep hb
      have hlin := lineItems_le L l
      go_wp2_with fail
      refine (iLineItems_c _ _ _ _ _ _ _ h2 hI2 hn (by omega)).mono ?_; rintro e w3 ⟨v3, rfl, ho3, hb3⟩
      obtain ⟨A3, c3, rfl, -, -, h3⟩ := own_openR rfl ho3
      go_wp2_with fail
      refine (ihyps_c _ _ _ _ h3 (by omega)).mono ?_; rintro e w4 ⟨v4, rfl, ho4, hb4⟩
      obtain ⟨A4, c4, rfl, -, -, -, h4⟩ := own_open ho4
      go_wp2_with fail
      refine (iOuterOf_c _ _ _ _ _ _ _ _ (h3.keep hb4) h4 (by omega) (by rw [hyps_length]; omega)).mono ?_; rintro e w5 ⟨rfl, hb5⟩
      have hBx : Bel wr w5 := (hb3.trans hb4).trans hb5
      go_wp2_with fail
      all_goals
        go_roundw
        case rel => exact ⟨k + 1, by omega, by go_num, by (rw [HS.out]; unfold outerL; refine congrArg (Value.int .i64) ?_; omega), hb.trans hBx⟩
        case measure => simp [intOf]; omega
    · obtain rfl : k = LL.length := by omega
      go_wp2_with fail
      go_ret
      exact ⟨by (rw [HQ.out]; try rfl), hb1.trans hb⟩
set_option maxHeartbeats 2000000 in
theorem sLongestOf_c (A : Option Addr) (c : Nat) (L : List Rec) (gap room : Int) (wraps : Bool) (w : World) (h : Recs w A k_item L) (hn : L.length ≤ 1048576) :
    Calls Try.prog 39 #[.slice A L.length c, .int .i64 gap, .int .i64 room, .bool wraps] w fun r w' => r = .returned (.int .i64 (longestOf L gap room wraps)) ∧ Bel w w' := by
  go_enter Try.func39, Try.ntmps39
  go_wp2_with fail
  refine (sLinesOf_c _ _ _ _ _ _ _ h hn).mono ?_; rintro e w1 ⟨v, rfl, hAt, hb1⟩
  obtain ⟨LL, hLL⟩ : ∃ LL, linesOf L gap room wraps = LL := ⟨_, rfl⟩
  have hLl := linesOf_len L gap room wraps
  have hLa : ∀ j, j < LL.length → (LL.getD j []).length ≤ L.length := fun j hj => by subst hLL; exact linesOf_at L gap room wraps hj
  have HQ : Hid (longestOf L gap room wraps = longTo L gap LL LL.length) := hid' (by subst hLL; rfl)
  rw [hLL] at hAt hLl
  obtain ⟨Av, cv, rfl, hcv, hcm, hR1⟩ := LinesAt.rows hAt
  clear hLL hAt
  replace h := h.keep hb1
  go_wp2_with fail
  go_loopw [9, 11] (fun s i wr => ∃ (k : Nat), k ≤ LL.length ∧ i = .int .i64 k ∧ s = .int .i64 (longTo L gap LL k) ∧ Bel w1 wr) (fun _ i _ => LL.length - (intOf i).toNat)
  case atStart => exact ⟨0, Nat.zero_le _, by go_num, rfl, Bel.refl _⟩
  case round =>
    obtain ⟨k, hk, rfl, rfl, hb⟩ := hrel
    by_cases hlt : k < LL.length
    · obtain ⟨b, o, rfl, hbl, hR⟩ := hR1 k hlt
      obtain ⟨B, d, hcB, hd1, hd2, hB0, hBI⟩ := hR k hlt
      have hcA := (hb.cell _ _ hbl).trans hcB
      have hlk := hLa k hlt
      have HS : Hid (longTo L gap LL (k + 1) = max (longTo L gap LL k) (outerL L (LL.getD k []) gap)) := hid' rfl
      obtain ⟨l, hel⟩ : ∃ l, LL.getD k [] = l := ⟨_, rfl⟩
      rw [hel] at hcA hlk hBI HS
      clear hcB hR hel hd1
      have hI2 := hBI.keep hb
      have h2 := h.keep hb
      have hlin := lineItems_le L l
      go_wp2_with fail
      refine (l14Outer_c _ _ _ _ _ _ _ _ h2 hI2 hn (by omega)).mono ?_; rintro e w5 ⟨rfl, hb5⟩
      have hBx : Bel wr w5 := hb5
      unfold outerL
      go_wp2_with fail
      all_goals
        go_roundw
        case rel => exact ⟨k + 1, by omega, by go_num, by (rw [HS.out]; unfold outerL; refine congrArg (Value.int .i64) ?_; omega), hb.trans hBx⟩
        case measure => simp [intOf]; omega
    · obtain rfl : k = LL.length := by omega
      go_wp2_with fail
      go_ret
      exact ⟨by (rw [HQ.out]; try rfl), hb1.trans hb⟩
end Go.Proofs.Ytknccikdoabgfaa
