/- LineOfItem, both texts. -/
import Derived.Test.YtknccikdoabgfaaIntSS
import Derived.Test.YtknccikdoabgfaaHas
namespace Go.Proofs.Ytknccikdoabgfaa
open Go.RowKit Go.ChangeShapes Go.WideShapes
set_option linter.unusedVariables false
set_option linter.unusedSimpArgs false

def lineFrom : List (List Int) → Int → Int → Int
  | [], _, _ => -1
  | l :: r, i, k => if hasB l i = true then k else lineFrom r i (k + 1)
def lineOf (LL : List (List Int)) (i : Int) : Int := lineFrom LL i 0
theorem drop_at {LL : List (List Int)} {k : Nat} (h : k < LL.length) : LL.drop k = LL.getD k [] :: LL.drop (k + 1) := by
  rw [List.drop_eq_getElem_cons h]
  simp [List.getD, List.getElem?_eq_getElem h]
set_option maxHeartbeats 1000000 in
theorem iLineOfItem_c (A : Option Addr) (c : Nat) (LL : List (List Int)) (i : Int) (w : World) (h : Rows2 w A LL) (hn : LL.length ≤ 1048576) (ht : totLen LL ≤ 1048576) :
    Calls Try.prog 17 #[.slice A LL.length c, .int .i64 i] w fun r w' => r = .returned (.int .i64 (lineOf LL i)) ∧ Bel w w' := by
  go_enter Try.func17, Try.ntmps17
  go_wp2_with fail
  go_loopw [9] (fun q wr => ∃ (k : Nat), k ≤ LL.length ∧ q = .int .i64 k ∧ Hid (lineOf LL i = lineFrom (LL.drop k) i (k : Int)) ∧ Bel w wr) (fun q _ => LL.length - (intOf q).toNat)
  case atStart => exact ⟨0, Nat.zero_le _, by go_num, hid' rfl, Bel.refl w⟩
  case round =>
    obtain ⟨k, hk, rfl, HX, hb⟩ := hrel
    by_cases hlt : k < LL.length
    · obtain ⟨b, o, rfl, hbl, hR⟩ := h k hlt
      obtain ⟨B, d, hcB, hd1, hd2, hB0, hBI⟩ := hR k hlt
      have hcA := (hb.cell _ _ hbl).trans hcB
      have hlk := len_le_tot hlt
      have hdr := drop_at hlt
      obtain ⟨l, hel⟩ : ∃ l, LL.getD k [] = l := ⟨_, rfl⟩
      rw [hel] at hcA hlk hdr hBI
      have HD := Lib.hid hdr
      clear hdr hcB hR hel hd1
      have hI2 := hBI.keep hb
      cases hq : hasB l i
      · have HN : Hid (lineOf LL i = lineFrom (LL.drop (k + 1)) i ((k + 1 : Nat) : Int)) := hid' (by rw [HX.out, HD.out, lineFrom, if_neg (by rw [hq]; decide)]; congr 1)
        go_wp2_with fail
        refine (hasInt_c _ _ _ _ _ hI2 (by omega)).mono ?_; rintro e w1 ⟨rfl, hb1⟩
        skip
        go_wp2_with fail
        go_roundw
        case rel => exact ⟨k + 1, by omega, by go_num, HN, hb.trans hb1⟩
        case measure => simp [intOf]; omega
      · have HN : Hid (lineOf LL i = (k : Int)) := hid' (by rw [HX.out, HD.out, lineFrom, if_pos hq])
        go_wp2_with fail
        refine (hasInt_c _ _ _ _ _ hI2 (by omega)).mono ?_; rintro e w1 ⟨rfl, hb1⟩
        skip
        go_wp2_with fail
        go_ret
        exact ⟨by (rw [HN.out]; try rfl), hb.trans hb1⟩
    · have HN : Hid (lineOf LL i = -1) := hid' (by rw [HX.out, List.drop_eq_nil_of_le (by omega)]; rfl)
      go_wp2_with fail
      go_ret
      exact ⟨by (rw [HN.out]; try rfl), hb⟩
set_option maxHeartbeats 1000000 in
theorem sLineOfItem_c (A : Option Addr) (c : Nat) (LL : List (List Int)) (i : Int) (w : World) (h : Rows2 w A LL) (hn : LL.length ≤ 1048576) (ht : totLen LL ≤ 1048576) :
    Calls Try.prog 15 #[.slice A LL.length c, .int .i64 i] w fun r w' => r = .returned (.int .i64 (lineOf LL i)) ∧ Bel w w' := by
  go_enter Try.func15, Try.ntmps15
  go_wp2_with fail
  go_loopw [5] (fun q wr => ∃ (k : Nat), k ≤ LL.length ∧ q = .int .i64 k ∧ Hid (lineOf LL i = lineFrom (LL.drop k) i (k : Int)) ∧ Bel w wr) (fun q _ => LL.length - (intOf q).toNat)
  case atStart => exact ⟨0, Nat.zero_le _, by go_num, hid' rfl, Bel.refl w⟩
  case round =>
    obtain ⟨k, hk, rfl, HX, hb⟩ := hrel
    by_cases hlt : k < LL.length
    · obtain ⟨b, o, rfl, hbl, hR⟩ := h k hlt
      obtain ⟨B, d, hcB, hd1, hd2, hB0, hBI⟩ := hR k hlt
      have hcA := (hb.cell _ _ hbl).trans hcB
      have hlk := len_le_tot hlt
      have hdr := drop_at hlt
      obtain ⟨l, hel⟩ : ∃ l, LL.getD k [] = l := ⟨_, rfl⟩
      rw [hel] at hcA hlk hdr hBI
      have HD := Lib.hid hdr
      clear hdr hcB hR hel hd1
      have hI2 := hBI.keep hb
      cases hq : hasB l i
      · have HN : Hid (lineOf LL i = lineFrom (LL.drop (k + 1)) i ((k + 1 : Nat) : Int)) := hid' (by rw [HX.out, HD.out, lineFrom, if_neg (by rw [hq]; decide)]; congr 1)
        go_wp2_with fail
        refine (l10Has_c _ _ _ _ _ hI2 (by omega)).mono ?_; rintro e w1 ⟨rfl, hb1⟩
        have hpos : countI l i ≤ 0 := (by have := hq; simp [hasB] at this; omega)
        go_wp2_with fail
        go_roundw
        case rel => exact ⟨k + 1, by omega, by go_num, HN, hb.trans hb1⟩
        case measure => simp [intOf]; omega
      · have HN : Hid (lineOf LL i = (k : Int)) := hid' (by rw [HX.out, HD.out, lineFrom, if_pos hq])
        go_wp2_with fail
        refine (l10Has_c _ _ _ _ _ hI2 (by omega)).mono ?_; rintro e w1 ⟨rfl, hb1⟩
        have hpos : 0 < countI l i := (by have := hq; simp [hasB] at this; omega)
        go_wp2_with fail
        go_ret
        exact ⟨by (rw [HN.out]; try rfl), hb.trans hb1⟩
    · have HN : Hid (lineOf LL i = -1) := hid' (by rw [HX.out, List.drop_eq_nil_of_le (by omega)]; rfl)
      go_wp2_with fail
      go_ret
      exact ⟨by (rw [HN.out]; try rfl), hb⟩
end Go.Proofs.Ytknccikdoabgfaa
