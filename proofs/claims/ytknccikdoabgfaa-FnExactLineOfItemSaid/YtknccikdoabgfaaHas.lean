/- hasInt and l10Has: whether, and how often, a number is in a list. -/
import Derived.Test.YtknccikdoabgfaaInts
namespace Go.Proofs.Ytknccikdoabgfaa
open Go.RowKit Go.ChangeShapes Go.WideShapes
set_option linter.unusedVariables false
set_option linter.unusedSimpArgs false

def countI (l : List Int) (n : Int) : Nat := l.countP (· == n)
def hasB (l : List Int) (n : Int) : Bool := decide (0 < countI l n)
theorem countI_succ {l : List Int} {k : Nat} (n : Int) (h : k < l.length) : countI (l.take (k + 1)) n = countI (l.take k) n + (if at_ l k = n then 1 else 0) := by
  unfold countI
  rw [List.take_add_one, at_eq h, List.countP_append]
  by_cases e : at_ l k = n <;> simp [List.countP_cons, e]
theorem countI_le (l : List Int) (n : Int) : countI l n ≤ l.length := List.countP_le_length
theorem hasB_at {l : List Int} {n : Int} {k : Nat} (h : k < l.length) (e : at_ l k = n) : hasB l n = true := by
  unfold hasB countI
  rw [decide_eq_true_eq, List.countP_pos_iff]
  exact ⟨at_ l k, at_mem h, by simpa using e⟩
theorem hasB_none {l : List Int} {n : Int} (h : ∀ j, j < l.length → at_ l j ≠ n) : hasB l n = false := by
  unfold hasB countI
  rw [decide_eq_false_iff_not, List.countP_pos_iff]
  rintro ⟨x, hx, e⟩
  obtain ⟨j, hj, rfl⟩ := List.getElem_of_mem hx
  refine h j hj ?_
  simp at e
  rw [at_, List.getD, List.getElem?_eq_getElem hj]
  exact e
set_option maxHeartbeats 1000000 in
theorem hasInt_c (A : Option Addr) (c : Nat) (l : List Int) (n : Int) (w : World) (h : Ints w A l) (hn : l.length ≤ 1048576) :
    Calls Try.prog 52 #[.slice A l.length c, .int .i64 n] w fun r w' => r = .returned (.bool (hasB l n)) ∧ Bel w w' := by
  go_enter Try.func52, Try.ntmps52
  go_wp2_with fail
  go_loopw [9] (fun i wr => ∃ (k : Nat), k ≤ l.length ∧ i = .int .i64 k ∧ Hid (∀ j, j < k → at_ l j ≠ n) ∧ Bel w wr) (fun i _ => l.length - (intOf i).toNat)
  case atStart => exact ⟨0, Nat.zero_le _, by go_num, hid' (fun j hj => absurd hj (Nat.not_lt_zero _)), Bel.refl w⟩
  case round =>
    obtain ⟨k, hk, rfl, HX, hb⟩ := hrel
    by_cases hlt : k < l.length
    · obtain ⟨b, o, rfl, hbl, hc⟩ := h k hlt
      have hcA : wr.cell? ⟨b, o + k, none⟩ = some (.int .i64 (at_ l k)) := (hb.cell _ _ hbl).trans (hc k hlt)
      clear hc
      by_cases he : at_ l k = n
      · have HH := Lib.hid (hasB_at hlt he)
        have he' : (at_ l k == n) = true := by simp [he]
        clear he
        go_wp2_with fail
        go_ret
        exact ⟨by (rw [HH.out]; try rfl), hb⟩
      · have he' : (at_ l k == n) = false := by simp [he]
        have HE := Lib.hid he
        clear he
        go_wp2_with fail
        go_roundw
        case rel => exact ⟨k + 1, by omega, by go_num, hid' (fun j hj => by rcases Nat.lt_succ_iff_lt_or_eq.1 hj with h | h; exact HX.out j h; subst h; exact HE.out), hb⟩
        case measure => simp [intOf]; omega
    · have HH : Hid (hasB l n = false) := hid' (hasB_none fun j hj => HX.out j (by omega))
      go_wp2_with fail
      go_ret
      exact ⟨by (rw [HH.out]; try rfl), hb⟩
set_option maxHeartbeats 1000000 in
theorem l10Has_c (A : Option Addr) (c : Nat) (l : List Int) (n : Int) (w : World) (h : Ints w A l) (hn : l.length ≤ 1048576) :
    Calls Try.prog 51 #[.slice A l.length c, .int .i64 n] w fun r w' => r = .returned (.int .i64 (countI l n : Int)) ∧ Bel w w' := by
  go_enter Try.func51, Try.ntmps51
  go_wp2_with fail
  go_loopw [5, 6] (fun s i wr => ∃ (k : Nat), k ≤ l.length ∧ i = .int .i64 k ∧ s = .int .i64 (countI (l.take k) n : Int) ∧ Bel w wr) (fun _ i _ => l.length - (intOf i).toNat)
  case atStart => exact ⟨0, Nat.zero_le _, by go_num, rfl, Bel.refl w⟩
  case round =>
    obtain ⟨k, hk, rfl, rfl, hb⟩ := hrel
    by_cases hlt : k < l.length
    · obtain ⟨b, o, rfl, hbl, hc⟩ := h k hlt
      have hcA : wr.cell? ⟨b, o + k, none⟩ = some (.int .i64 (at_ l k)) := (hb.cell _ _ hbl).trans (hc k hlt)
      clear hc
      have hs := countI_succ n hlt
      have hbd := countI_le (l.take k) n
      have hbd2 := List.length_take_le k l
      by_cases he : at_ l k = n
      · have HS : Hid (countI (l.take (k + 1)) n = countI (l.take k) n + 1) := hid' (by rw [hs, if_pos he])
        have he' : (at_ l k == n) = true := by simp [he]
        clear he hs
        go_wp2_with fail
        go_roundw
        case rel => exact ⟨k + 1, by omega, by go_num, by rw [HS.out]; go_num, hb⟩
        case measure => simp [intOf]; omega
      · have HS : Hid (countI (l.take (k + 1)) n = countI (l.take k) n) := hid' (by rw [hs, if_neg he, Nat.add_zero])
        have he' : (at_ l k == n) = false := by simp [he]
        clear he hs
        go_wp2_with fail
        go_roundw
        case rel => exact ⟨k + 1, by omega, by go_num, by rw [HS.out], hb⟩
        case measure => simp [intOf]; omega
    · obtain rfl : k = l.length := by omega
      go_wp2_with fail
      go_ret
      exact ⟨by (rw [List.take_length]; try rfl), hb⟩
end Go.Proofs.Ytknccikdoabgfaa
