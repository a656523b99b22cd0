/- RuleFor, WantedOf, RoomsOf, both texts. -/
import Derived.Test.YtgelpfecfbagdaaTables
namespace Go.Proofs.Ytgelpfecfbagdaa
open Go.RowKit Go.ChangeShapes Go.WideShapes
set_option linter.unusedVariables false
set_option linter.unusedSimpArgs false

def hitR (room : Int) (r : Rec) : Bool := decide (room = -1) || decide (r.s 0 ≤ room)
def ruleFor (L : List Rec) (room : Int) : Rec × Bool := match L.find? (hitR room) with
  | some r => (r, true)
  | none => (Rec.zero, false)
theorem find_at {p : Rec → Bool} : ∀ {L : List Rec} {k : Nat}, k < L.length → (∀ j, j < k → p (rec_ L j) = false) → p (rec_ L k) = true → L.find? p = some (rec_ L k)
  | r :: L, 0, _, _, h => by
    have h' : p r = true := h
    rw [List.find?_cons_of_pos h']; rfl
  | r :: L, k + 1, hk, hn, h => by
    have h0 : p r = false := hn 0 (by omega)
    rw [List.find?_cons_of_neg (by rw [h0]; decide), find_at (k := k) (by simpa using hk) (fun j hj => hn (j + 1) (by omega)) h]; rfl
theorem find_none {p : Rec → Bool} : ∀ {L : List Rec}, (∀ j, j < L.length → p (rec_ L j) = false) → L.find? p = none
  | [], _ => rfl
  | r :: L, hn => by
    have h0 : p r = false := hn 0 (by simp)
    rw [List.find?_cons_of_neg (by rw [h0]; decide), find_none (fun j hj => hn (j + 1) (by simpa using hj))]
theorem ruleFor_hit {L : List Rec} {room : Int} {k : Nat} (hk : k < L.length) (hn : ∀ j, j < k → hitR room (rec_ L j) = false) (h : hitR room (rec_ L k) = true) : ruleFor L room = (rec_ L k, true) := by
  rw [ruleFor, find_at hk hn h]
theorem ruleFor_none {L : List Rec} {room : Int} (hn : ∀ j, j < L.length → hitR room (rec_ L j) = false) : ruleFor L room = (Rec.zero, false) := by
  rw [ruleFor, find_none hn]
abbrev recRuleV (r : Rec) : Value := ruleV (r.s 0) (r.s 1) (r.s 2)

set_option maxHeartbeats 4000000 in
theorem iRuleFor_c (A : Option Addr) (c : Nat) (L : List Rec) (room : Int) (w : World) (h : Recs w A k_rule L) (hn : L.length ≤ 1048576) :
    Calls Try.prog 18 #[tableV A L.length c, .int .i64 room] w fun r w' => r = .returned (.tuple #[recRuleV (ruleFor L room).1, .bool (ruleFor L room).2]) ∧ Bel w w' := by
  go_enter Try.func18, Try.ntmps18
  go_wp2_with fail
  go_loopw [11] (fun i wr => ∃ (k : Nat), k ≤ L.length ∧ i = .int .i64 k ∧ (∀ j, j < k → hitR room (rec_ L j) = false) ∧ Bel ((w.alloc (.cells #[.slice A L.length c] 32)).alloc (.cells #[.int .i64 0, .int .i64 0, .int .i64 0] 27)) wr) (fun i _ => L.length - (intOf i).toNat)
  case atStart => exact ⟨0, Nat.zero_le _, by go_num, fun j hj => absurd hj (Nat.not_lt_zero _), Bel.refl _⟩
  case round =>
    obtain ⟨k, hk, rfl, hx, hb⟩ := hrel
    have HX := Lib.hid hx
    clear hx
    have hbw := (((Bel.refl w).alloc _).alloc _).trans hb
    have hT : wr.cell? ⟨w.heap.size, 0, none⟩ = some (.slice A L.length c) := (hb.cell _ _ (by simp; omega)).trans (by simp)
    have hR0 : wr.cell? ⟨w.heap.size + 1, 0, none⟩ = some (.int .i64 0) := (hb.cell _ _ (by simp)).trans (by simp)
    have hR1 : wr.cell? ⟨w.heap.size + 1, 1, none⟩ = some (.int .i64 0) := (hb.cell _ _ (by simp)).trans (by simp)
    have hR2 : wr.cell? ⟨w.heap.size + 1, 2, none⟩ = some (.int .i64 0) := (hb.cell _ _ (by simp)).trans (by simp)
    have hRf : ∀ j, wr.frozen? ⟨w.heap.size + 1, j, none⟩ = false := fun j => (hb.frozen _ _ (by simp)).trans (by simp)
    have hl : w.heap.size < wr.heap.size := by have := hb.sz; simp at this; omega
    have hl2 : w.heap.size + 1 < wr.heap.size := by have := hb.sz; simp at this; omega
    by_cases hlt : k < L.length
    · obtain ⟨b, o, rfl, hbl, hc⟩ := h k hlt
      obtain ⟨hx0, hx1, hx2⟩ := rule_cells hc hlt
      have hd0 := (hbw.cell _ _ hbl).trans hx0
      have hd1 := (hbw.cell _ _ hbl).trans hx1
      have hd2 := (hbw.cell _ _ hbl).trans hx2
      clear hc hx0 hx1 hx2
      by_cases hr : room = -1
      · subst hr
        have HF := Lib.hid (ruleFor_hit hlt HX.out (by simp [hitR]))
        go_wp2_with fail
        refine bodyPost_ret (v := .tuple #[recRuleV (rec_ L k), .bool true]) (by simp [results, Try.results18, go_sem, hR0, hR1, hR2, hl, hl2]) rfl ⟨by rw [HF.out], ?_⟩
        repeat (first | exact hbw | refine Bel.alloc ?_ _ | refine Bel.drew ?_ | refine Bel.setCell ?_ (by simp) _)
      · have hr' : (room == -1) = false := by simp [hr]
        have HR := Lib.hid hr
        clear hr
        by_cases hs : (rec_ L k).s 0 ≤ room
        · have HF := Lib.hid (ruleFor_hit hlt HX.out (by simp [hitR, hs]))
          go_wp2_with fail
          refine bodyPost_ret (v := .tuple #[recRuleV (rec_ L k), .bool true]) (by simp [results, Try.results18, go_sem, hR0, hR1, hR2, hl, hl2]) rfl ⟨by rw [HF.out], ?_⟩
          repeat (first | exact hbw | refine Bel.alloc ?_ _ | refine Bel.drew ?_ | refine Bel.setCell ?_ (by simp) _)
        · have HN : Hid (hitR room (rec_ L k) = false) := hid' (by simp [hitR, HR.out]; omega)
          go_wp2_with fail
          go_roundw
          case rel => exact ⟨k + 1, by omega, by go_num, fun j hj => (by rcases Nat.lt_succ_iff_lt_or_eq.1 hj with h | h; exact HX.out j h; subst h; exact HN.out), by first | exact hb | exact hb.alloc _⟩
          case measure => simp [intOf]; omega
    · have HF := Lib.hid (ruleFor_none (room := room) (L := L) fun j hj => HX.out j (by omega))
      go_wp2_with fail
      refine bodyPost_ret (v := .tuple #[ruleV 0 0 0, .bool false]) (by simp [results, Try.results18, go_sem, hR0, hR1, hR2, hl, hl2]) rfl ⟨by rw [HF.out]; rfl, ?_⟩
      repeat (first | exact hbw | refine Bel.alloc ?_ _ | refine Bel.drew ?_ | refine Bel.setCell ?_ (by simp) _)
set_option maxHeartbeats 4000000 in
theorem sRuleFor_c (A : Option Addr) (c : Nat) (L : List Rec) (room : Int) (w : World) (h : Recs w A k_rule L) (hn : L.length ≤ 1048576) :
    Calls Try.prog 16 #[tableV A L.length c, .int .i64 room] w fun r w' => r = .returned (.tuple #[recRuleV (ruleFor L room).1, .bool (ruleFor L room).2]) ∧ Bel w w' := by
  go_enter Try.func16, Try.ntmps16
  go_wp2_with fail
  go_loopw [6] (fun i wr => ∃ (k : Nat), k ≤ L.length ∧ i = .int .i64 k ∧ (∀ j, j < k → hitR room (rec_ L j) = false) ∧ Bel ((w.alloc (.cells #[.slice A L.length c] 32)).alloc (.cells #[.int .i64 0, .int .i64 0, .int .i64 0] 27)) wr) (fun i _ => L.length - (intOf i).toNat)
  case atStart => exact ⟨0, Nat.zero_le _, by go_num, fun j hj => absurd hj (Nat.not_lt_zero _), Bel.refl _⟩
  case round =>
    obtain ⟨k, hk, rfl, hx, hb⟩ := hrel
    have HX := Lib.hid hx
    clear hx
    have hbw := (((Bel.refl w).alloc _).alloc _).trans hb
    have hT : wr.cell? ⟨w.heap.size, 0, none⟩ = some (.slice A L.length c) := (hb.cell _ _ (by simp; omega)).trans (by simp)
    have hR0 : wr.cell? ⟨w.heap.size + 1, 0, none⟩ = some (.int .i64 0) := (hb.cell _ _ (by simp)).trans (by simp)
    have hR1 : wr.cell? ⟨w.heap.size + 1, 1, none⟩ = some (.int .i64 0) := (hb.cell _ _ (by simp)).trans (by simp)
    have hR2 : wr.cell? ⟨w.heap.size + 1, 2, none⟩ = some (.int .i64 0) := (hb.cell _ _ (by simp)).trans (by simp)
    have hRf : ∀ j, wr.frozen? ⟨w.heap.size + 1, j, none⟩ = false := fun j => (hb.frozen _ _ (by simp)).trans (by simp)
    have hl : w.heap.size < wr.heap.size := by have := hb.sz; simp at this; omega
    have hl2 : w.heap.size + 1 < wr.heap.size := by have := hb.sz; simp at this; omega
    by_cases hlt : k < L.length
    · obtain ⟨b, o, rfl, hbl, hc⟩ := h k hlt
      obtain ⟨hx0, hx1, hx2⟩ := rule_cells hc hlt
      have hd0 := (hbw.cell _ _ hbl).trans hx0
      have hd1 := (hbw.cell _ _ hbl).trans hx1
      have hd2 := (hbw.cell _ _ hbl).trans hx2
      clear hc hx0 hx1 hx2
      by_cases hr : room = -1
      · subst hr
        have HF := Lib.hid (ruleFor_hit hlt HX.out (by simp [hitR]))
        go_wp2_with fail
        refine bodyPost_ret (v := .tuple #[recRuleV (rec_ L k), .bool true]) (by simp [results, Try.results16, go_sem, hR0, hR1, hR2, hl, hl2]) rfl ⟨by rw [HF.out], ?_⟩
        repeat (first | exact hbw | refine Bel.alloc ?_ _ | refine Bel.drew ?_ | refine Bel.setCell ?_ (by simp) _)
      · have hr' : (room == -1) = false := by simp [hr]
        have HR := Lib.hid hr
        clear hr
        by_cases hs : (rec_ L k).s 0 ≤ room
        · have HF := Lib.hid (ruleFor_hit hlt HX.out (by simp [hitR, hs]))
          go_wp2_with fail
          refine bodyPost_ret (v := .tuple #[recRuleV (rec_ L k), .bool true]) (by simp [results, Try.results16, go_sem, hR0, hR1, hR2, hl, hl2]) rfl ⟨by rw [HF.out], ?_⟩
          repeat (first | exact hbw | refine Bel.alloc ?_ _ | refine Bel.drew ?_ | refine Bel.setCell ?_ (by simp) _)
        · have HN : Hid (hitR room (rec_ L k) = false) := hid' (by simp [hitR, HR.out]; omega)
          go_wp2_with fail
          go_roundw
          case rel => exact ⟨k + 1, by omega, by go_num, fun j hj => (by rcases Nat.lt_succ_iff_lt_or_eq.1 hj with h | h; exact HX.out j h; subst h; exact HN.out), by first | exact hb | exact hb.alloc _⟩
          case measure => simp [intOf]; omega
    · have HF := Lib.hid (ruleFor_none (room := room) (L := L) fun j hj => HX.out j (by omega))
      go_wp2_with fail
      refine bodyPost_ret (v := .tuple #[ruleV 0 0 0, .bool false]) (by simp [results, Try.results16, go_sem, hR0, hR1, hR2, hl, hl2]) rfl ⟨by rw [HF.out]; rfl, ?_⟩
      repeat (first | exact hbw | refine Bel.alloc ?_ _ | refine Bel.drew ?_ | refine Bel.setCell ?_ (by simp) _)
end Go.Proofs.Ytgelpfecfbagdaa
