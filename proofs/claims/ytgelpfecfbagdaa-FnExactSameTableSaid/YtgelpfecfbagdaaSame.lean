/- SameTable, both texts. -/
import Derived.Test.YtgelpfecfbagdaaRuleFn
import Derived.Deep.RegionWith
namespace Go.Proofs.Ytgelpfecfbagdaa
open Go.RowKit Go.ChangeShapes Go.WideShapes
set_option linter.unusedVariables false
set_option linter.unusedSimpArgs false

def ruleSame (a b : Rec) : Bool := a.s 0 == b.s 0 && a.s 1 == b.s 1 && a.s 2 == b.s 2
def sameT (L M : List Rec) : Bool := decide (L.length = M.length) && (List.range L.length).all fun i => ruleSame (rec_ L i) (rec_ M i)
theorem sameT_len {L M : List Rec} (h : L.length ≠ M.length) : sameT L M = false := by simp [sameT, h]
theorem sameT_no {L M : List Rec} {k : Nat} (hk : k < L.length) (h : ruleSame (rec_ L k) (rec_ M k) = false) : sameT L M = false := by
  unfold sameT
  rw [show (List.range L.length).all (fun i => ruleSame (rec_ L i) (rec_ M i)) = false from List.all_eq_false.2 ⟨k, by simpa using hk, by simp [h]⟩, Bool.and_false]
theorem sameT_yes {L M : List Rec} (hl : L.length = M.length) (h : ∀ j, j < L.length → ruleSame (rec_ L j) (rec_ M j) = true) : sameT L M = true := by
  unfold sameT
  rw [show (List.range L.length).all (fun i => ruleSame (rec_ L i) (rec_ M i)) = true from List.all_eq_true.2 fun i hi => h i (by simpa using hi)]
  simp [hl]
theorem ruleSame_cases {a b : Rec} (h : ruleSame a b = false) : (a.s 0 == b.s 0) = false ∨ ((a.s 0 == b.s 0) = true ∧ (a.s 1 == b.s 1) = false) ∨ ((a.s 0 == b.s 0) = true ∧ (a.s 1 == b.s 1) = true ∧ (a.s 2 == b.s 2) = false) := by
  unfold ruleSame at h
  cases h0 : (a.s 0 == b.s 0)
  · exact .inl rfl
  · cases h1 : (a.s 1 == b.s 1)
    · exact .inr (.inl ⟨rfl, rfl⟩)
    · exact .inr (.inr ⟨rfl, rfl, by rw [h0, h1] at h; simpa using h⟩)

set_option maxHeartbeats 4000000 in
theorem iSameTable_c (A B : Option Addr) (c d : Nat) (L M : List Rec) (w : World) (h : Recs w A k_rule L) (g : Recs w B k_rule M) (hn : L.length ≤ 1048576) (hm : M.length ≤ 1048576) :
    Calls Try.prog 22 #[tableV A L.length c, tableV B M.length d] w fun r w' => r = .returned (.bool (sameT L M)) ∧ Bel w w' := by
  by_cases hl : L.length = M.length
  · have hne : ((L.length : Int) != (M.length : Int)) = false := by simp [hl]
    have HL := Lib.hid hl
    clear hl
    go_enter Try.func22, Try.ntmps22
    go_wp2_with fail
    go_loopw [16] (fun i wr => ∃ (k : Nat), k ≤ L.length ∧ i = .int .i64 k ∧ (∀ j, j < k → ruleSame (rec_ L j) (rec_ M j) = true) ∧ Bel ((w.alloc (.cells #[.slice A L.length c] 32)).alloc (.cells #[.slice B M.length d] 32)) wr) (fun i _ => L.length - (intOf i).toNat)
    case atStart => exact ⟨0, Nat.zero_le _, by go_num, fun j hj => absurd hj (Nat.not_lt_zero _), Bel.refl _⟩
    case round =>
      obtain ⟨k, hk, rfl, hx, hb⟩ := hrel
      have HX := Lib.hid hx
      clear hx
      have hbw := (((Bel.refl w).alloc _).alloc _).trans hb
      have hT : wr.cell? ⟨w.heap.size, 0, none⟩ = some (.slice A L.length c) := (hb.cell _ _ (by simp; omega)).trans (by simp)
      have hU : wr.cell? ⟨w.heap.size + 1, 0, none⟩ = some (.slice B M.length d) := (hb.cell _ _ (by simp)).trans (by simp)
      by_cases hlt : k < L.length
      · have hlt2 : k < M.length := by have := HL.out; omega
        obtain ⟨b, o, rfl, hbl, hc⟩ := h k hlt
        obtain ⟨b2, o2, rfl, hbl2, hc2⟩ := g k hlt2
        obtain ⟨x0, x1, x2⟩ := rule_cells hc hlt
        obtain ⟨y0, y1, y2⟩ := rule_cells hc2 hlt2
        have d0 := (hbw.cell _ _ hbl).trans x0
        have d1 := (hbw.cell _ _ hbl).trans x1
        have d2 := (hbw.cell _ _ hbl).trans x2
        have e0 := (hbw.cell _ _ hbl2).trans y0
        have e1 := (hbw.cell _ _ hbl2).trans y1
        have e2 := (hbw.cell _ _ hbl2).trans y2
        clear hc hc2 x0 x1 x2 y0 y1 y2
        have hi1 : (k : Int) < (L.length : Int) := by omega
        have hi2 : (k : Int) < (M.length : Int) := by omega
        cases he : ruleSame (rec_ L k) (rec_ M k) with
        | true =>
          have HE := Lib.hid he
          obtain ⟨⟨q0, q1⟩, q2⟩ : ((rec_ L k).s 0 = (rec_ M k).s 0 ∧ (rec_ L k).s 1 = (rec_ M k).s 1) ∧ (rec_ L k).s 2 = (rec_ M k).s 2 := by simpa [ruleSame] using he
          clear he
          rw [q0] at d0
          rw [q1] at d1
          rw [q2] at d2
          clear q0 q1 q2
          go_wp2_with fail
          go_quiet (fail)
          go_wp2_with fail
          go_roundw
          case rel => exact ⟨k + 1, by omega, by go_num, fun j hj => (by rcases Nat.lt_succ_iff_lt_or_eq.1 hj with h | h; exact HX.out j h; subst h; exact HE.out), by first | exact hb | exact hb.drewN _⟩
          case measure => simp [intOf]; omega
        | false =>
          have HF := Lib.hid (sameT_no hlt he)
          rcases ruleSame_cases he with q | ⟨q0, q1⟩ | ⟨q0, q1, q2⟩
          all_goals
            clear he
            go_wp2_with fail
            go_quiet (fail)
            go_wp2_with fail
            go_ret
            exact ⟨by (rw [HF.out]; try rfl), by first | exact hbw | exact hbw.drewN _⟩
      · have HF := Lib.hid (sameT_yes HL.out fun j hj => HX.out j (by omega))
        go_wp2_with fail
        go_ret
        exact ⟨by (rw [HF.out]; try rfl), hbw⟩
  · have hne : ((L.length : Int) != (M.length : Int)) = true := by simp; omega
    have HF := Lib.hid (sameT_len hl)
    clear hl
    go_enter Try.func22, Try.ntmps22
    go_wp2_with fail
    go_ret
    refine ⟨by (rw [HF.out]; try rfl), ?_⟩
    repeat (first | exact Bel.refl _ | assumption | refine Bel.alloc ?_ _ | refine Bel.drew ?_ | refine Bel.drewN ?_ _ | refine Bel.trans ?_ (by assumption) | refine Bel.setCell ?_ (by first | (simp; done) | (simp; omega) | (simp at *; omega)) _)
set_option maxHeartbeats 4000000 in
theorem sSameTable_c (A B : Option Addr) (c d : Nat) (L M : List Rec) (w : World) (h : Recs w A k_rule L) (g : Recs w B k_rule M) (hn : L.length ≤ 1048576) (hm : M.length ≤ 1048576) :
    Calls Try.prog 21 #[tableV A L.length c, tableV B M.length d] w fun r w' => r = .returned (.bool (sameT L M)) ∧ Bel w w' := by
  by_cases hl : L.length = M.length
  · have hne : ((L.length : Int) != (M.length : Int)) = false := by simp [hl]
    have HL := Lib.hid hl
    clear hl
    go_enter Try.func21, Try.ntmps21
    go_wp2_with fail
    go_loopw [5] (fun i wr => ∃ (k : Nat), k ≤ L.length ∧ i = .int .i64 k ∧ (∀ j, j < k → ruleSame (rec_ L j) (rec_ M j) = true) ∧ Bel ((w.alloc (.cells #[.slice A L.length c] 32)).alloc (.cells #[.slice B M.length d] 32)) wr) (fun i _ => L.length - (intOf i).toNat)
    case atStart => exact ⟨0, Nat.zero_le _, by go_num, fun j hj => absurd hj (Nat.not_lt_zero _), Bel.refl _⟩
    case round =>
      obtain ⟨k, hk, rfl, hx, hb⟩ := hrel
      have HX := Lib.hid hx
      clear hx
      have hbw := (((Bel.refl w).alloc _).alloc _).trans hb
      have hT : wr.cell? ⟨w.heap.size, 0, none⟩ = some (.slice A L.length c) := (hb.cell _ _ (by simp; omega)).trans (by simp)
      have hU : wr.cell? ⟨w.heap.size + 1, 0, none⟩ = some (.slice B M.length d) := (hb.cell _ _ (by simp)).trans (by simp)
      by_cases hlt : k < L.length
      · have hlt2 : k < M.length := by have := HL.out; omega
        obtain ⟨b, o, rfl, hbl, hc⟩ := h k hlt
        obtain ⟨b2, o2, rfl, hbl2, hc2⟩ := g k hlt2
        obtain ⟨x0, x1, x2⟩ := rule_cells hc hlt
        obtain ⟨y0, y1, y2⟩ := rule_cells hc2 hlt2
        have d0 := (hbw.cell _ _ hbl).trans x0
        have d1 := (hbw.cell _ _ hbl).trans x1
        have d2 := (hbw.cell _ _ hbl).trans x2
        have e0 := (hbw.cell _ _ hbl2).trans y0
        have e1 := (hbw.cell _ _ hbl2).trans y1
        have e2 := (hbw.cell _ _ hbl2).trans y2
        clear hc hc2 x0 x1 x2 y0 y1 y2
        have hi1 : (k : Int) < (L.length : Int) := by omega
        have hi2 : (k : Int) < (M.length : Int) := by omega
        cases he : ruleSame (rec_ L k) (rec_ M k) with
        | true =>
          have HE := Lib.hid he
          obtain ⟨⟨q0, q1⟩, q2⟩ : ((rec_ L k).s 0 = (rec_ M k).s 0 ∧ (rec_ L k).s 1 = (rec_ M k).s 1) ∧ (rec_ L k).s 2 = (rec_ M k).s 2 := by simpa [ruleSame] using he
          clear he
          rw [q0] at d0
          rw [q1] at d1
          rw [q2] at d2
          clear q0 q1 q2
          go_wp2_with fail
          go_quiet (fail)
          go_wp2_with fail
          go_roundw
          case rel => exact ⟨k + 1, by omega, by go_num, fun j hj => (by rcases Nat.lt_succ_iff_lt_or_eq.1 hj with h | h; exact HX.out j h; subst h; exact HE.out), by first | exact hb | exact hb.drewN _⟩
          case measure => simp [intOf]; omega
        | false =>
          have HF := Lib.hid (sameT_no hlt he)
          rcases ruleSame_cases he with q | ⟨q0, q1⟩ | ⟨q0, q1, q2⟩
          all_goals
            clear he
            go_wp2_with fail
            go_quiet (fail)
            go_wp2_with fail
            go_ret
            exact ⟨by (rw [HF.out]; try rfl), by first | exact hbw | exact hbw.drewN _⟩
      · have HF := Lib.hid (sameT_yes HL.out fun j hj => HX.out j (by omega))
        go_wp2_with fail
        go_ret
        exact ⟨by (rw [HF.out]; try rfl), hbw⟩
  · have hne : ((L.length : Int) != (M.length : Int)) = true := by simp; omega
    have HF := Lib.hid (sameT_len hl)
    clear hl
    go_enter Try.func21, Try.ntmps21
    go_wp2_with fail
    go_ret
    refine ⟨by (rw [HF.out]; try rfl), ?_⟩
    repeat (first | exact Bel.refl _ | assumption | refine Bel.alloc ?_ _ | refine Bel.drew ?_ | refine Bel.drewN ?_ _ | refine Bel.trans ?_ (by assumption) | refine Bel.setCell ?_ (by first | (simp; done) | (simp; omega) | (simp at *; omega)) _)
end Go.Proofs.Ytgelpfecfbagdaa
