/- Tables: the law's own helpers, and what the functions of chapter 9 return. -/
import Derived.Test.YtkoljbndbomhdaaGreatRules
namespace Go.Proofs.YtkoljbndbomhdaaGreat
open Go.RowKit Go.ChangeShapes Go.WideShapes
set_option linter.unusedVariables false
set_option linter.unusedSimpArgs false

abbrev tableV (A : Option Addr) (n c : Nat) : Value := .agg #[.slice A n c]

set_option maxRecDepth 100000 in
set_option maxHeartbeats 400000 in
theorem toTable_c (A : Option Addr) (c : Nat) (L : List Rec) (w : World) (h : Recs w A k_rule L) (hn : L.length ≤ 1048576) :
    Calls Tryz.prog 56 #[tableV A L.length c] w fun r w' =>
      ∃ g, r = .returned (tableV (some ⟨g, 0, none⟩) L.length L.length) ∧ w'.ownsRow w.heap.size 112 3 (.slice (some ⟨g, 0, none⟩) L.length L.length) L.length (RV k_rule L) ∧ Bel w w' := by
  go_enter Tryz.func56, Tryz.ntmps56
  go_wp2_with fail
  refine (toRuleS_c _ _ _ _ (h.keep ?_) hn).mono ?_
  · repeat (first | exact Bel.refl _ | assumption | refine Bel.alloc ?_ _ | refine Bel.drew ?_ | refine Bel.drewN ?_ _ | refine Bel.trans ?_ (by assumption) | refine Bel.setCell ?_ (by first | (simp; done) | (simp; omega) | (simp at *; omega)) _)
  rintro e w1 ⟨rfl, ho, hb1⟩
  obtain ⟨hc1, hf1, hz1⟩ := hb1.open_
  have hl1 : w.heap.size < w1.heap.size := by (try simp at hz1); omega
  have hl2 : w.heap.size + 1 < w1.heap.size := by (try simp at hz1); omega
  have hl3 : w.heap.size + 1 + 1 < w1.heap.size := by (try simp at hz1); omega
  have HO := Lib.hid ho
  clear ho
  go_wp2
  refine bodyPost_ret (v := tableV (some ⟨w.heap.size + 1 + 1 + 1, 0, none⟩) L.length L.length) (by simp [results, Tryz.results56, go_sem, hc1]) rfl ⟨_, rfl, ?_, ?_⟩
  · have h1 := HO.out
    simp at h1
    exact own_base (ownsRow_setCell_below (ownsRow_setCell_below h1 (by simp) _) (by simp) _) (by omega)
  · repeat (first | exact Bel.refl _ | assumption | refine Bel.alloc ?_ _ | refine Bel.drew ?_ | refine Bel.drewN ?_ _ | refine Bel.trans ?_ (by assumption) | refine Bel.setCell ?_ (by first | (simp; done) | (simp; omega) | (simp at *; omega)) _)
set_option maxRecDepth 100000 in
set_option maxHeartbeats 400000 in
theorem szTable_c (A : Option Addr) (c n : Nat) (m : Int) (w : World) (hm : 0 ≤ m ∧ m ≤ 1048576) (hn : n ≤ 9223372036854775807) :
    Calls Tryz.prog 44 #[tableV A n c, .int .i64 m] w fun r w' => r = .returned (.int .i64 (if (n : Int) ≤ m then m - n else -1)) ∧ Bel w w' := by
  by_cases h : (n : Int) ≤ m
  · rw [if_pos h]
    have HC := Lib.hid (fun w1 => szRuleS_c A c n m w1 hm hn)
    go_enter Tryz.func44, Tryz.ntmps44
    go_wp2_with fail
    refine (HC.out _).mono ?_; rintro e w1 ⟨rfl, rfl⟩
    rw [if_pos h]
    go_wp2
    go_ret
    refine ⟨rfl, ?_⟩
    repeat (first | exact Bel.refl _ | assumption | refine Bel.alloc ?_ _ | refine Bel.drew ?_ | refine Bel.drewN ?_ _ | refine Bel.trans ?_ (by assumption) | refine Bel.setCell ?_ (by first | (simp; done) | (simp; omega) | (simp at *; omega)) _)
  · rw [if_neg h]
    have HC := Lib.hid (fun w1 => szRuleS_c A c n m w1 hm hn)
    go_enter Tryz.func44, Tryz.ntmps44
    go_wp2_with fail
    refine (HC.out _).mono ?_; rintro e w1 ⟨rfl, rfl⟩
    rw [if_neg (by omega)]
    go_wp2
    go_ret
    refine ⟨rfl, ?_⟩
    repeat (first | exact Bel.refl _ | assumption | refine Bel.alloc ?_ _ | refine Bel.drew ?_ | refine Bel.drewN ?_ _ | refine Bel.trans ?_ (by assumption) | refine Bel.setCell ?_ (by first | (simp; done) | (simp; omega) | (simp at *; omega)) _)
set_option maxRecDepth 100000 in
set_option maxHeartbeats 400000 in
theorem eqTable_c (A B : Option Addr) (c d : Nat) (L : List Rec) (w : World) (ha : Recs w A k_rule L) (hb : Recs w B k_rule L) (hn : L.length ≤ 1048576) :
    Calls Tryz.prog 68 #[tableV A L.length c, tableV B L.length d] w fun r w' => r = .returned (.bool true) ∧ Bel w w' := by
  go_enter Tryz.func68, Tryz.ntmps68
  go_wp2_with fail
  refine (eqRuleS_c _ _ _ _ _ _ (ha.keep ?_) (hb.keep ?_) hn).mono ?_
  · repeat (first | exact Bel.refl _ | assumption | refine Bel.alloc ?_ _ | refine Bel.drew ?_ | refine Bel.drewN ?_ _ | refine Bel.trans ?_ (by assumption) | refine Bel.setCell ?_ (by first | (simp; done) | (simp; omega) | (simp at *; omega)) _)
  · repeat (first | exact Bel.refl _ | assumption | refine Bel.alloc ?_ _ | refine Bel.drew ?_ | refine Bel.drewN ?_ _ | refine Bel.trans ?_ (by assumption) | refine Bel.setCell ?_ (by first | (simp; done) | (simp; omega) | (simp at *; omega)) _)
  rintro e w1 ⟨rfl, hb1⟩
  go_wp2
  go_ret
  refine ⟨rfl, ?_⟩
  repeat (first | exact Bel.refl _ | assumption | refine Bel.alloc ?_ _ | refine Bel.drew ?_ | refine Bel.drewN ?_ _ | refine Bel.trans ?_ (by assumption) | refine Bel.setCell ?_ (by first | (simp; done) | (simp; omega) | (simp at *; omega)) _)

def ruleOk (r : Rec) : Bool := inB (r.s 0) (-1) 1048576 && inB (r.s 1) 0 1048576 && inB (r.s 2) 0 1048576
def tableOk (L : List Rec) : Bool := inB (L.length : Int) 1 6 && allR ruleOk L
theorem ruleOk_cases {r : Rec} (h : ruleOk r = false) : inB (r.s 0) (-1) 1048576 = false ∨ (inB (r.s 0) (-1) 1048576 = true ∧ inB (r.s 1) 0 1048576 = false) ∨
    (inB (r.s 0) (-1) 1048576 = true ∧ inB (r.s 1) 0 1048576 = true ∧ inB (r.s 2) 0 1048576 = false) := by
  unfold ruleOk at h
  cases h0 : inB (r.s 0) (-1) 1048576
  · exact .inl rfl
  · cases h1 : inB (r.s 1) 0 1048576
    · exact .inr (.inl ⟨rfl, rfl⟩)
    · exact .inr (.inr ⟨rfl, rfl, by rw [h0, h1] at h; simpa using h⟩)
theorem ruleOk_yes {r : Rec} (h : ruleOk r = true) : inB (r.s 0) (-1) 1048576 = true ∧ inB (r.s 1) 0 1048576 = true ∧ inB (r.s 2) 0 1048576 = true := by
  simpa [ruleOk, and_assoc] using h

set_option maxRecDepth 100000 in
set_option maxHeartbeats 2000000 in
theorem iTableOk_c (A : Option Addr) (c : Nat) (L : List Rec) (w : World) (h : Recs w A k_rule L) (hn : L.length ≤ 1048576) :
    Calls Tryz.prog 60 #[tableV A L.length c] w fun r w' => r = .returned (.bool (tableOk L)) ∧ Bel w w' := by
  cases hm : inB (L.length : Int) 1 6 with
  | false =>
    go_enter Tryz.func60, Tryz.ntmps60
    go_wp2_with (go_at_call 58; refine (in_c _ _ _ _).mono ?_; rintro e w' ⟨rfl, rfl⟩)
    go_ret
    refine ⟨by simp [tableOk, hm], ?_⟩
    repeat (first | exact Bel.refl _ | assumption | refine Bel.alloc ?_ _ | refine Bel.drew ?_ | refine Bel.drewN ?_ _ | refine Bel.trans ?_ (by assumption) | refine Bel.setCell ?_ (by first | (simp; done) | (simp; omega) | (simp at *; omega)) _)
  | true =>
    go_enter Tryz.func60, Tryz.ntmps60
    go_wp2_with (go_at_call 58; refine (in_c _ _ _ _).mono ?_; rintro e w' ⟨rfl, rfl⟩)
    have HM := Lib.hid hm
    clear hm
    go_loopw [13] (fun i wr => ∃ (k : Nat), k ≤ L.length ∧ i = .int .i64 k ∧ (∀ j, j < k → ruleOk (rec_ L j) = true) ∧ Bel (w.alloc (.cells #[.slice A L.length c] 77)) wr) (fun i _ => L.length - (intOf i).toNat)
    case atStart => exact ⟨0, Nat.zero_le _, by go_num, fun j hj => absurd hj (Nat.not_lt_zero _), Bel.refl _⟩
    case round =>
      obtain ⟨k, hk, rfl, hx, hb⟩ := hrel
      have hX := Lib.hid hx
      clear hx
      have hbw := ((Bel.refl w).alloc _).trans hb
      have hT : wr.cell? ⟨w.heap.size, 0, none⟩ = some (.slice A L.length c) := (hb.cell _ _ (by simp)).trans (by simp)
      have hl : w.heap.size < wr.heap.size := by have := hb.sz; simp at this; omega
      by_cases hlt : k < L.length
      · obtain ⟨b, o, rfl, hbl, hc⟩ := h k hlt
        obtain ⟨hx0, hx1, hx2⟩ := rule_cells hc hlt
        have hd0 := (hbw.cell _ _ hbl).trans hx0
        have hd1 := (hbw.cell _ _ hbl).trans hx1
        have hd2 := (hbw.cell _ _ hbl).trans hx2
        clear hc hx0 hx1 hx2
        cases he : ruleOk (rec_ L k) with
        | true =>
          obtain ⟨q0, q1, q2⟩ := ruleOk_yes he
          go_wp2_with (go_at_call 58; refine (in_c _ _ _ _).mono ?_; rintro e w' ⟨rfl, rfl⟩)
          go_roundw
          case rel => exact ⟨k + 1, by omega, by go_num, fun j hj => (by rcases Nat.lt_succ_iff_lt_or_eq.1 hj with h | h; exact hX.out j h; subst h; exact he), hb.alloc _⟩
          case measure => simp [intOf]; omega
        | false =>
          have hF := Lib.hid (allR_false hlt he)
          rcases ruleOk_cases he with q | ⟨q0, q1⟩ | ⟨q0, q1, q2⟩
          all_goals
            go_wp2_with (go_at_call 58; refine (in_c _ _ _ _).mono ?_; rintro e w' ⟨rfl, rfl⟩)
            go_ret
            exact ⟨by simp [tableOk, hF.out], hbw.alloc _⟩
      · have hA := Lib.hid (allR_true fun j hj => hX.out j (by omega) : allR ruleOk L = true)
        go_wp2
        go_ret
        exact ⟨by simp [tableOk, hA.out, HM.out], hbw⟩
set_option maxRecDepth 100000 in
set_option maxHeartbeats 2000000 in
theorem sTableOk_c (A : Option Addr) (c : Nat) (L : List Rec) (w : World) (h : Recs w A k_rule L) (hn : L.length ≤ 1048576) :
    Calls Tryz.prog 49 #[tableV A L.length c] w fun r w' => r = .returned (.bool (tableOk L)) ∧ Bel w w' := by
  go_enter Tryz.func49, Tryz.ntmps49
  go_wp2_with fail
  go_loopw [3] (fun i wr => ∃ (k : Nat), k ≤ L.length ∧ i = .int .i64 k ∧ (∀ j, j < k → ruleOk (rec_ L j) = true) ∧ Bel (w.alloc (.cells #[.slice A L.length c] 77)) wr) (fun i _ => L.length - (intOf i).toNat)
  case atStart => exact ⟨0, Nat.zero_le _, by go_num, fun j hj => absurd hj (Nat.not_lt_zero _), Bel.refl _⟩
  case round =>
    obtain ⟨k, hk, rfl, hx, hb⟩ := hrel
    have hX := Lib.hid hx
    clear hx
    have hbw := ((Bel.refl w).alloc _).trans hb
    have hT : wr.cell? ⟨w.heap.size, 0, none⟩ = some (.slice A L.length c) := (hb.cell _ _ (by simp)).trans (by simp)
    have hl : w.heap.size < wr.heap.size := by have := hb.sz; simp at this; omega
    by_cases hlt : k < L.length
    · obtain ⟨b, o, rfl, hbl, hc⟩ := h k hlt
      obtain ⟨hx0, hx1, hx2⟩ := rule_cells hc hlt
      have hd0 := (hbw.cell _ _ hbl).trans hx0
      have hd1 := (hbw.cell _ _ hbl).trans hx1
      have hd2 := (hbw.cell _ _ hbl).trans hx2
      clear hc hx0 hx1 hx2
      cases he : ruleOk (rec_ L k) with
      | true =>
        obtain ⟨q0, q1, q2⟩ := ruleOk_yes he
        go_wp2_with (go_at_call 46; refine (l01In_c _ _ _ _).mono ?_; rintro e w' ⟨rfl, rfl⟩)
        go_roundw
        case rel => exact ⟨k + 1, by omega, by go_num, fun j hj => (by rcases Nat.lt_succ_iff_lt_or_eq.1 hj with h | h; exact hX.out j h; subst h; exact he), hb.alloc _⟩
        case measure => simp [intOf]; omega
      | false =>
        have hF := Lib.hid (allR_false hlt he)
        rcases ruleOk_cases he with q | ⟨q0, q1⟩ | ⟨q0, q1, q2⟩
        all_goals
          go_wp2_with (go_at_call 46; refine (l01In_c _ _ _ _).mono ?_; rintro e w' ⟨rfl, rfl⟩)
          go_ret
          exact ⟨by simp [tableOk, hF.out], hbw.alloc _⟩
    · have hA := Lib.hid (allR_true fun j hj => hX.out j (by omega) : allR ruleOk L = true)
      go_wp2_with (go_at_call 46; refine (l01In_c _ _ _ _).mono ?_; rintro e w' ⟨rfl, rfl⟩)
      go_ret
      exact ⟨by simp [tableOk, hA.out], hbw⟩
end Go.Proofs.YtkoljbndbomhdaaGreat
