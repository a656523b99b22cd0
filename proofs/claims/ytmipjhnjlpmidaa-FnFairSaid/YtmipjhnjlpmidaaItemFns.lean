/- Functions over a list of items that return a number or a flag: AutosIn, ItemsOk, OuterOf, Grows, FreeOf, and the hypothetical sizes. -/
import Derived.Test.YtmipjhnjlpmidaaItemS
import Derived.Test.YtmipjhnjlpmidaaAcross
namespace Go.Proofs.Ytmipjhnjlpmidaa
open Go.RowKit Go.ChangeShapes Go.WideShapes
set_option linter.unusedVariables false
set_option linter.unusedSimpArgs false


theorem wrap_add (a b : Int) : wrap64 (wrap64 a + b) = wrap64 (a + b) := by unfold wrap64; omega
theorem wrap_add' (a b : Int) : wrap64 (a + wrap64 b) = wrap64 (a + b) := by unfold wrap64; omega
theorem wrap_wrap (a : Int) : wrap64 (wrap64 a) = wrap64 a := by unfold wrap64; omega
theorem wrap_zero : wrap64 0 = 0 := by unfold wrap64; omega

/-! ### AutosIn -/
def autosTo (L : List Rec) : Nat → Int
  | 0 => 0
  | k + 1 => autosTo L k + (if (rec_ L k).b 7 then 1 else 0) + (if (rec_ L k).b 8 then 1 else 0)
theorem autosTo_bd (L : List Rec) : ∀ k : Nat, 0 ≤ autosTo L k ∧ autosTo L k ≤ 2 * (k : Int) := by
  intro k
  induction k with
  | zero => simp [autosTo]
  | succ k ih => simp only [autosTo]; split <;> split <;> omega

set_option maxRecDepth 100000 in
set_option maxHeartbeats 2000000 in
theorem iAutosIn_c (A : Option Addr) (c : Nat) (L : List Rec) (w : World) (h : Recs w A k_item L) (hn : L.length ≤ 1048576) :
    Calls Try.prog 29 #[.slice A L.length c] w fun r w' => r = .returned (.int .i64 (autosTo L L.length)) ∧ Bel w w' := by
  go_enter Try.func29, Try.ntmps29
  go_wp2_with fail
  go_loopw [3, 8] (fun s i wr => ∃ (k : Nat), k ≤ L.length ∧ i = .int .i64 k ∧ s = .int .i64 (autosTo L k) ∧ Bel w wr) (fun _ i _ => L.length - (intOf i).toNat)
  case atStart => exact ⟨0, Nat.zero_le _, by go_num, rfl, Bel.refl w⟩
  case round =>
    obtain ⟨k, hk, rfl, rfl, hb⟩ := hrel
    have ht := autosTo_bd L k
    by_cases hlt : k < L.length
    · obtain ⟨b, o, rfl, hbl, hc⟩ := h k hlt
      obtain ⟨x0, x1, x2, x3, x4, x5, x6, x7, x8⟩ := item_cells hc hlt
      have d0 := (hb.cell _ _ hbl).trans x0
      have d1 := (hb.cell _ _ hbl).trans x1
      have d2 := (hb.cell _ _ hbl).trans x2
      have d3 := (hb.cell _ _ hbl).trans x3
      have d4 := (hb.cell _ _ hbl).trans x4
      have d5 := (hb.cell _ _ hbl).trans x5
      have d6 := (hb.cell _ _ hbl).trans x6
      have d7 := (hb.cell _ _ hbl).trans x7
      have d8 := (hb.cell _ _ hbl).trans x8
      clear hc x0 x1 x2 x3 x4 x5 x6 x7 x8
      have hs : autosTo L (k + 1) = autosTo L k + (if (rec_ L k).b 7 then 1 else 0) + (if (rec_ L k).b 8 then 1 else 0) := rfl
      have HS := Lib.hid hs
      clear hs
      cases h7 : (rec_ L k).b 7 <;> cases h8 : (rec_ L k).b 8 <;> rw [h7] at d7 <;> rw [h8] at d8 <;> rw [h7, h8] at HS
      all_goals
        have H7 := Lib.hid h7
        have H8 := Lib.hid h8
        clear h7 h8
        go_wp2_with fail
        go_roundw
        case rel => exact ⟨k + 1, by omega, by go_num, by rw [HS.out]; simp; try omega, by first | exact hb | exact hb.alloc _⟩
        case measure => simp [intOf]; omega
    · obtain rfl : k = L.length := by omega
      go_wp2_with fail
      go_ret
      exact ⟨rfl, hb⟩
set_option maxRecDepth 100000 in
set_option maxHeartbeats 2000000 in
theorem sAutosIn_c (A : Option Addr) (c : Nat) (L : List Rec) (w : World) (h : Recs w A k_item L) (hn : L.length ≤ 1048576) :
    Calls Try.prog 30 #[.slice A L.length c] w fun r w' => r = .returned (.int .i64 (autosTo L L.length)) ∧ Bel w w' := by
  go_enter Try.func30, Try.ntmps30
  go_wp2_with fail
  go_loopw [3, 4] (fun s i wr => ∃ (k : Nat), k ≤ L.length ∧ i = .int .i64 k ∧ s = .int .i64 (autosTo L k) ∧ Bel w wr) (fun _ i _ => L.length - (intOf i).toNat)
  case atStart => exact ⟨0, Nat.zero_le _, by go_num, rfl, Bel.refl w⟩
  case round =>
    obtain ⟨k, hk, rfl, rfl, hb⟩ := hrel
    have ht := autosTo_bd L k
    by_cases hlt : k < L.length
    · obtain ⟨b, o, rfl, hbl, hc⟩ := h k hlt
      obtain ⟨x0, x1, x2, x3, x4, x5, x6, x7, x8⟩ := item_cells hc hlt
      have d0 := (hb.cell _ _ hbl).trans x0
      have d1 := (hb.cell _ _ hbl).trans x1
      have d2 := (hb.cell _ _ hbl).trans x2
      have d3 := (hb.cell _ _ hbl).trans x3
      have d4 := (hb.cell _ _ hbl).trans x4
      have d5 := (hb.cell _ _ hbl).trans x5
      have d6 := (hb.cell _ _ hbl).trans x6
      have d7 := (hb.cell _ _ hbl).trans x7
      have d8 := (hb.cell _ _ hbl).trans x8
      clear hc x0 x1 x2 x3 x4 x5 x6 x7 x8
      have hs : autosTo L (k + 1) = autosTo L k + (if (rec_ L k).b 7 then 1 else 0) + (if (rec_ L k).b 8 then 1 else 0) := rfl
      have HS := Lib.hid hs
      clear hs
      cases h7 : (rec_ L k).b 7 <;> cases h8 : (rec_ L k).b 8 <;> rw [h7] at d7 <;> rw [h8] at d8 <;> rw [h7, h8] at HS
      all_goals
        have H7 := Lib.hid h7
        have H8 := Lib.hid h8
        clear h7 h8
        go_wp2_with fail
        go_roundw
        case rel => exact ⟨k + 1, by omega, by go_num, by rw [HS.out]; simp; try omega, by first | exact hb | exact hb.alloc _⟩
        case measure => simp [intOf]; omega
    · obtain rfl : k = L.length := by omega
      go_wp2_with fail
      go_ret
      exact ⟨rfl, hb⟩

/-! ### ItemsOk -/
def itemOkR (r : Rec) : Bool := itemOk (r.s 0) (r.s 1) (r.s 2) (r.s 3) (r.s 4) (r.s 5) (r.s 6)
def itemsOk (L : List Rec) : Bool := allR itemOkR L && decide (L.length ≤ 12)
set_option maxRecDepth 100000 in
set_option maxHeartbeats 2000000 in
theorem iItemsOk_c (A : Option Addr) (c : Nat) (L : List Rec) (w : World) (h : Recs w A k_item L) (hn : L.length ≤ 1048576) :
    Calls Try.prog 93 #[.slice A L.length c] w fun r w' => r = .returned (.bool (itemsOk L)) ∧ Bel w w' := by
  go_enter Try.func93, Try.ntmps93
  go_wp2_with fail
  go_loopw [7] (fun i wr => ∃ (k : Nat), k ≤ L.length ∧ i = .int .i64 k ∧ (∀ j, j < k → itemOkR (rec_ L j) = true) ∧ Bel w wr) (fun i _ => L.length - (intOf i).toNat)
  case atStart => exact ⟨0, Nat.zero_le _, by go_num, fun j hj => absurd hj (Nat.not_lt_zero _), Bel.refl w⟩
  case round =>
    obtain ⟨k, hk, rfl, hx, hb⟩ := hrel
    have hX := Lib.hid hx
    clear hx
    by_cases hlt : k < L.length
    · obtain ⟨b, o, rfl, hbl, hc⟩ := h k hlt
      obtain ⟨x0, x1, x2, x3, x4, x5, x6, x7, x8⟩ := item_cells hc hlt
      have d0 := (hb.cell _ _ hbl).trans x0
      have d1 := (hb.cell _ _ hbl).trans x1
      have d2 := (hb.cell _ _ hbl).trans x2
      have d3 := (hb.cell _ _ hbl).trans x3
      have d4 := (hb.cell _ _ hbl).trans x4
      have d5 := (hb.cell _ _ hbl).trans x5
      have d6 := (hb.cell _ _ hbl).trans x6
      have d7 := (hb.cell _ _ hbl).trans x7
      have d8 := (hb.cell _ _ hbl).trans x8
      clear hc x0 x1 x2 x3 x4 x5 x6 x7 x8
      cases he : itemOk ((rec_ L k).s 0) ((rec_ L k).s 1) ((rec_ L k).s 2) ((rec_ L k).s 3) ((rec_ L k).s 4) ((rec_ L k).s 5) ((rec_ L k).s 6) with
      | true =>
        go_wp2_with fail
        refine (iItemOk_c _ _ _ _ _ _ _ _ _ _).mono ?_; rintro e w1 ⟨rfl, hb1⟩
        have hbw : Bel w w1 := by first | exact hb.trans hb1 | exact (hb.alloc _).trans hb1
        go_wp2_with fail
        go_roundw
        case rel => exact ⟨k + 1, by omega, by go_num, fun j hj => (by rcases Nat.lt_succ_iff_lt_or_eq.1 hj with h | h; exact hX.out j h; subst h; exact he), hbw⟩
        case measure => simp [intOf]; omega
      | false =>
        have hF := Lib.hid (allR_false (p := itemOkR) hlt he)
        go_wp2_with fail
        refine (iItemOk_c _ _ _ _ _ _ _ _ _ _).mono ?_; rintro e w1 ⟨rfl, hb1⟩
        have hbw : Bel w w1 := by first | exact hb.trans hb1 | exact (hb.alloc _).trans hb1
        go_wp2_with fail
        go_ret
        exact ⟨by simp [itemsOk, hF.out], hbw⟩
    · have hA := Lib.hid (allR_true fun j hj => hX.out j (by omega) : allR itemOkR L = true)
      by_cases h12 : L.length ≤ 12
      · have h12' : decide ((L.length : Int) ≤ 12) = true := by simp; omega
        go_wp2_with fail
        go_ret
        exact ⟨by simp [itemsOk, hA.out, h12], hb⟩
      · have h12' : decide ((L.length : Int) ≤ 12) = false := by simp; omega
        go_wp2_with fail
        go_ret
        exact ⟨by simp [itemsOk, h12], hb⟩
set_option maxRecDepth 100000 in
set_option maxHeartbeats 2000000 in
theorem sItemsOk_c (A : Option Addr) (c : Nat) (L : List Rec) (w : World) (h : Recs w A k_item L) (hn : L.length ≤ 1048576) :
    Calls Try.prog 87 #[.slice A L.length c] w fun r w' => r = .returned (.bool (itemsOk L)) ∧ Bel w w' := by
  go_enter Try.func87, Try.ntmps87
  go_wp2_with fail
  go_loopw [3] (fun i wr => ∃ (k : Nat), k ≤ L.length ∧ i = .int .i64 k ∧ (∀ j, j < k → itemOkR (rec_ L j) = true) ∧ Bel w wr) (fun i _ => L.length - (intOf i).toNat)
  case atStart => exact ⟨0, Nat.zero_le _, by go_num, fun j hj => absurd hj (Nat.not_lt_zero _), Bel.refl w⟩
  case round =>
    obtain ⟨k, hk, rfl, hx, hb⟩ := hrel
    have hX := Lib.hid hx
    clear hx
    by_cases hlt : k < L.length
    · obtain ⟨b, o, rfl, hbl, hc⟩ := h k hlt
      obtain ⟨x0, x1, x2, x3, x4, x5, x6, x7, x8⟩ := item_cells hc hlt
      have d0 := (hb.cell _ _ hbl).trans x0
      have d1 := (hb.cell _ _ hbl).trans x1
      have d2 := (hb.cell _ _ hbl).trans x2
      have d3 := (hb.cell _ _ hbl).trans x3
      have d4 := (hb.cell _ _ hbl).trans x4
      have d5 := (hb.cell _ _ hbl).trans x5
      have d6 := (hb.cell _ _ hbl).trans x6
      have d7 := (hb.cell _ _ hbl).trans x7
      have d8 := (hb.cell _ _ hbl).trans x8
      clear hc x0 x1 x2 x3 x4 x5 x6 x7 x8
      cases he : itemOk ((rec_ L k).s 0) ((rec_ L k).s 1) ((rec_ L k).s 2) ((rec_ L k).s 3) ((rec_ L k).s 4) ((rec_ L k).s 5) ((rec_ L k).s 6) with
      | true =>
        go_wp2_with fail
        refine (sItemOk_c _ _ _ _ _ _ _ _ _ _).mono ?_; rintro e w1 ⟨rfl, hb1⟩
        have hbw : Bel w w1 := by first | exact hb.trans hb1 | exact (hb.alloc _).trans hb1
        go_wp2_with fail
        go_roundw
        case rel => exact ⟨k + 1, by omega, by go_num, fun j hj => (by rcases Nat.lt_succ_iff_lt_or_eq.1 hj with h | h; exact hX.out j h; subst h; exact he), hbw⟩
        case measure => simp [intOf]; omega
      | false =>
        have hF := Lib.hid (allR_false (p := itemOkR) hlt he)
        go_wp2_with fail
        refine (sItemOk_c _ _ _ _ _ _ _ _ _ _).mono ?_; rintro e w1 ⟨rfl, hb1⟩
        have hbw : Bel w w1 := by first | exact hb.trans hb1 | exact (hb.alloc _).trans hb1
        go_wp2_with fail
        go_ret
        exact ⟨by simp [itemsOk, hF.out], hbw⟩
    · have hA := Lib.hid (allR_true fun j hj => hX.out j (by omega) : allR itemOkR L = true)
      by_cases h12 : L.length ≤ 12
      · have h12' : decide ((L.length : Int) ≤ 12) = true := by simp; omega
        go_wp2_with fail
        go_ret
        exact ⟨by simp [itemsOk, hA.out, h12], hb⟩
      · have h12' : decide ((L.length : Int) ≤ 12) = false := by simp; omega
        go_wp2_with fail
        go_ret
        exact ⟨by simp [itemsOk, h12], hb⟩

/-! ### the hypothetical sizes -/
def hypR (r : Rec) : Int := within (r.s 0) (r.s 1) (r.s 2)
def hyps (L : List Rec) : List Int := L.map hypR
theorem hyps_length (L : List Rec) : (hyps L).length = L.length := by simp [hyps]
def hypsTo (L : List Rec) (k : Nat) : List Int := (List.range k).map fun i => hypR (rec_ L i)
theorem hypsTo_succ (L : List Rec) (k : Nat) : hypsTo L (k + 1) = hypsTo L k ++ [hypR (rec_ L k)] := by simp [hypsTo, List.range_succ]
theorem hypsTo_all (L : List Rec) : hypsTo L L.length = hyps L := by
  apply List.ext_getElem?
  intro i
  by_cases hi : i < L.length
  · simp [hypsTo, hyps, hi, rec_get hi]
  · simp [hypsTo, hyps, hi]
set_option maxRecDepth 100000 in
set_option maxHeartbeats 2000000 in
theorem ihyps_c (A : Option Addr) (c : Nat) (L : List Rec) (w : World) (h : Recs w A k_item L) (hn : L.length ≤ 1048576) :
    Calls Try.prog 92 #[.slice A L.length c] w fun r w' => ∃ v, r = .returned v ∧ w'.ownsRow w.heap.size 3 1 v L.length (VI (hyps L)) ∧ Bel w w' := by
  have ho0 : (w).ownsRow w.heap.size 3 1 (.slice none 0 0) 0 (VI []) := ⟨rfl, .inl ⟨rfl, rfl⟩⟩
  have hb0 : Bel w (w) := by
    repeat (first | exact Bel.refl _ | assumption | refine Bel.alloc ?_ _ | refine Bel.drew ?_ | refine Bel.drewN ?_ _ | refine Bel.trans ?_ (by assumption) | refine Bel.setCell ?_ (by first | (simp; done) | (simp; omega) | (simp at *; omega)) _)
  go_enter Try.func92, Try.ntmps92
  go_wp2_with fail
  go_loopw [3, 8] (fun v i wr => ∃ (k : Nat), k ≤ L.length ∧ i = .int .i64 k ∧ wr.ownsRow w.heap.size 3 1 v k (VI (hypsTo L k)) ∧ Bel w wr) (fun _ i _ => L.length - (intOf i).toNat)
  case atStart => exact ⟨0, Nat.zero_le _, by go_num, ho0, hb0⟩
  case round =>
    obtain ⟨k, hk, rfl, ho, hb⟩ := hrel
    by_cases hlt : k < L.length
    · obtain ⟨b, o, rfl, hbl, hc⟩ := h k hlt
      obtain ⟨x0, x1, x2, x3, x4, x5, x6, x7, x8⟩ := item_cells hc hlt
      have d0 := (hb.cell _ _ hbl).trans x0
      have d1 := (hb.cell _ _ hbl).trans x1
      have d2 := (hb.cell _ _ hbl).trans x2
      have d3 := (hb.cell _ _ hbl).trans x3
      have d4 := (hb.cell _ _ hbl).trans x4
      have d5 := (hb.cell _ _ hbl).trans x5
      have d6 := (hb.cell _ _ hbl).trans x6
      have d7 := (hb.cell _ _ hbl).trans x7
      have d8 := (hb.cell _ _ hbl).trans x8
      clear hc x0 x1 x2 x3 x4 x5 x6 x7 x8
      go_wp2_with fail
      refine (iHypOf_c _ _ _ _ _ _ _ _ _ _).mono ?_; rintro e w1 ⟨rfl, hb1⟩
      have hbw : Bel w w1 := by first | exact hb.trans hb1 | exact (hb.alloc _).trans hb1
      have ho1 := by first | exact own_keep ho hb1 | exact own_keep (ho.alloc _) hb1
      clear ho
      go_wp2_with (at_builtin; refine app1 rfl (.tmp 12) (.tmp 15) rfl w.heap.size _ k _ rfl (ho1.alloc _) w1.heap.size _ rfl (World.cell?_alloc_new _ _ _ _) (by omega) (hbw.alloc _).sz ?_; intro v' w' ho' hg')
      go_roundw
      case rel =>
        refine ⟨k + 1, by omega, by go_num, ?_, (hbw.alloc _).own (Nat.le_refl _) (ho1.alloc _) hg'⟩
        rw [hypsTo_succ, ← VI_snoc]
        exact ho'
      case measure => simp [intOf]; omega
    · obtain rfl : k = L.length := by omega
      go_wp2_with fail
      go_ret
      exact ⟨_, rfl, by rw [← hypsTo_all]; exact ho, hb⟩
set_option maxRecDepth 100000 in
set_option maxHeartbeats 2000000 in
theorem shyps_c (A : Option Addr) (c : Nat) (L : List Rec) (w : World) (h : Recs w A k_item L) (hn : L.length ≤ 1048576) :
    Calls Try.prog 88 #[.slice A L.length c] w fun r w' => ∃ v, r = .returned v ∧ w'.ownsRow w.heap.size 3 1 v L.length (VI (hyps L)) ∧ Bel w w' := by
  have ho0 : (w.alloc (.cells #[] 3)).ownsRow w.heap.size 3 1 (.slice (some ⟨w.heap.size, 0, none⟩) 0 0) 0 (VI []) := World.ownsRow_lit w #[] 0 (Nat.le_refl _) (by unfold maxLen; omega) rfl
  have hb0 : Bel w (w.alloc (.cells #[] 3)) := by
    repeat (first | exact Bel.refl _ | assumption | refine Bel.alloc ?_ _ | refine Bel.drew ?_ | refine Bel.drewN ?_ _ | refine Bel.trans ?_ (by assumption) | refine Bel.setCell ?_ (by first | (simp; done) | (simp; omega) | (simp at *; omega)) _)
  go_enter Try.func88, Try.ntmps88
  go_wp2_with fail
  go_loopw [3, 4] (fun v i wr => ∃ (k : Nat), k ≤ L.length ∧ i = .int .i64 k ∧ wr.ownsRow w.heap.size 3 1 v k (VI (hypsTo L k)) ∧ Bel w wr) (fun _ i _ => L.length - (intOf i).toNat)
  case atStart => exact ⟨0, Nat.zero_le _, by go_num, ho0, hb0⟩
  case round =>
    obtain ⟨k, hk, rfl, ho, hb⟩ := hrel
    by_cases hlt : k < L.length
    · obtain ⟨b, o, rfl, hbl, hc⟩ := h k hlt
      obtain ⟨x0, x1, x2, x3, x4, x5, x6, x7, x8⟩ := item_cells hc hlt
      have d0 := (hb.cell _ _ hbl).trans x0
      have d1 := (hb.cell _ _ hbl).trans x1
      have d2 := (hb.cell _ _ hbl).trans x2
      have d3 := (hb.cell _ _ hbl).trans x3
      have d4 := (hb.cell _ _ hbl).trans x4
      have d5 := (hb.cell _ _ hbl).trans x5
      have d6 := (hb.cell _ _ hbl).trans x6
      have d7 := (hb.cell _ _ hbl).trans x7
      have d8 := (hb.cell _ _ hbl).trans x8
      clear hc x0 x1 x2 x3 x4 x5 x6 x7 x8
      go_wp2_with fail
      refine (sHypOf_c _ _ _ _ _ _ _ _ _ _).mono ?_; rintro e w1 ⟨rfl, hb1⟩
      have hbw : Bel w w1 := by first | exact hb.trans hb1 | exact (hb.alloc _).trans hb1
      have ho1 := by first | exact own_keep ho hb1 | exact own_keep (ho.alloc _) hb1
      clear ho
      go_wp2_with (at_builtin; refine app1 rfl (.tmp 12) (.tmp 18) rfl w.heap.size _ k _ rfl (ho1.alloc _) w1.heap.size _ rfl (World.cell?_alloc_new _ _ _ _) (by omega) (hbw.alloc _).sz ?_; intro v' w' ho' hg')
      go_roundw
      case rel =>
        refine ⟨k + 1, by omega, by go_num, ?_, (hbw.alloc _).own (Nat.le_refl _) (ho1.alloc _) hg'⟩
        rw [hypsTo_succ, ← VI_snoc]
        exact ho'
      case measure => simp [intOf]; omega
    · obtain rfl : k = L.length := by omega
      go_wp2_with fail
      go_ret
      exact ⟨_, rfl, by rw [← hypsTo_all]; exact ho, hb⟩

/-! ### OuterOf -/
def sumTo (zs : List Int) : Nat → Int
  | 0 => 0
  | k + 1 => sumTo zs k + at_ zs k
def margTo (L : List Rec) : Nat → Int
  | 0 => 0
  | k + 1 => margTo L k + ((rec_ L k).s 5 + (rec_ L k).s 6)
def gapTo (gap : Int) : Nat → Int
  | 0 => 0
  | k + 1 => gapTo gap k + (if k = 0 then 0 else gap)
theorem gapTo_eq (gap : Int) : ∀ k : Nat, 0 < k → gapTo gap k = gap * ((k : Int) - 1) := by
  intro k
  induction k with
  | zero => intro h; omega
  | succ k ih =>
    intro _
    simp only [gapTo]
    by_cases h0 : k = 0
    · subst h0; simp [gapTo]
    · rw [if_neg h0, ih (by omega), show ((k + 1 : Nat) : Int) - 1 = ((k : Int) - 1) + 1 by omega, Int.mul_add, Int.mul_one]
def outerOf (L : List Rec) (zs : List Int) (gap : Int) : Int := wrap64 (sumTo zs zs.length + margTo L L.length + gapTo gap L.length)

set_option maxRecDepth 100000 in
set_option maxHeartbeats 2000000 in
theorem iOuterOf_c (A : Option Addr) (c : Nat) (L : List Rec) (B : Option Addr) (d : Nat) (zs : List Int) (gap : Int) (w : World) (h : Recs w A k_item L) (hz : Ints w B zs) (hn : L.length ≤ 1048576) (hm : zs.length ≤ 1048576) :
    Calls Try.prog 51 #[.slice A L.length c, .slice B zs.length d, .int .i64 gap] w fun r w' => r = .returned (.int .i64 (outerOf L zs gap)) ∧ Bel w w' := by
  go_enter Try.func51, Try.ntmps51
  go_wp2_with fail
  go_loopw [7, 14] (fun s i wr => ∃ (k : Nat), k ≤ zs.length ∧ i = .int .i64 k ∧ s = .int .i64 (wrap64 (sumTo zs k)) ∧ Bel w wr) (fun _ i _ => zs.length - (intOf i).toNat)
  case atStart => exact ⟨0, Nat.zero_le _, by go_num, by rw [sumTo, wrap_zero], Bel.refl w⟩
  case round =>
    obtain ⟨k, hk, rfl, rfl, hb⟩ := hrel
    by_cases hlt : k < zs.length
    · obtain ⟨b, o, rfl, hbl, hc⟩ := hz k hlt
      have hcA : wr.cell? ⟨b, o + k, none⟩ = some (.int .i64 (at_ zs k)) := (hb.cell _ _ hbl).trans (hc k hlt)
      clear hc
      go_wp2_with fail
      go_roundw
      case rel => exact ⟨k + 1, by omega, by go_num, by refine congrArg (Value.int .i64) ?_; simp only [sumTo, margTo, gapTo]; unfold wrap64; omega, hb⟩
      case measure => simp [intOf]; omega
    · obtain rfl : k = zs.length := by omega
      go_wp2_with fail
      obtain ⟨wo, rfl⟩ : ∃ wo : World, wo = wr := ⟨_, rfl⟩
      go_loopw [7, 24] (fun s i wr => ∃ (k : Nat), k ≤ L.length ∧ i = .int .i64 k ∧ s = .int .i64 (wrap64 (sumTo zs zs.length + margTo L k)) ∧ Bel w wr) (fun _ i _ => L.length - (intOf i).toNat)
      case atStart => exact ⟨0, Nat.zero_le _, by go_num, by rw [margTo, Int.add_zero], hb⟩
      case round =>
        obtain ⟨k, hk, rfl, rfl, hb⟩ := hrel
        by_cases hlt : k < L.length
        · obtain ⟨b, o, rfl, hbl, hc⟩ := h k hlt
          obtain ⟨x0, x1, x2, x3, x4, x5, x6, x7, x8⟩ := item_cells hc hlt
          have d0 := (hb.cell _ _ hbl).trans x0
          have d1 := (hb.cell _ _ hbl).trans x1
          have d2 := (hb.cell _ _ hbl).trans x2
          have d3 := (hb.cell _ _ hbl).trans x3
          have d4 := (hb.cell _ _ hbl).trans x4
          have d5 := (hb.cell _ _ hbl).trans x5
          have d6 := (hb.cell _ _ hbl).trans x6
          have d7 := (hb.cell _ _ hbl).trans x7
          have d8 := (hb.cell _ _ hbl).trans x8
          clear hc x0 x1 x2 x3 x4 x5 x6 x7 x8
          go_wp2_with fail
          go_roundw
          case rel => exact ⟨k + 1, by omega, by go_num, by refine congrArg (Value.int .i64) ?_; simp only [sumTo, margTo, gapTo]; unfold wrap64; omega, hb.alloc _⟩
          case measure => simp [intOf]; omega
        · obtain rfl : k = L.length := by omega
          by_cases h0 : 0 < L.length
          · have hgt : (0 : Int) < (L.length : Int) := by omega
            go_wp2_with fail
            go_ret
            refine ⟨?_, hb⟩
            rw [outerOf, gapTo_eq _ _ h0]
            show Ending.returned (.int .i64 _) = _
            rw [wrap_add, wrap_add']
          · have hle : ¬ (0 : Int) < (L.length : Int) := by omega
            go_wp2_with fail
            go_ret
            refine ⟨?_, hb⟩
            have e0 : L.length = 0 := by omega
            rw [outerOf, e0, gapTo, Int.add_zero]
            rfl
set_option maxRecDepth 100000 in
set_option maxHeartbeats 2000000 in
theorem sOuterOf_c (A : Option Addr) (c : Nat) (L : List Rec) (B : Option Addr) (d : Nat) (zs : List Int) (gap : Int) (w : World) (h : Recs w A k_item L) (hz : Ints w B zs) (hn : L.length ≤ 1048576) (hm : zs.length ≤ 1048576) :
    Calls Try.prog 52 #[.slice A L.length c, .slice B zs.length d, .int .i64 gap] w fun r w' => r = .returned (.int .i64 (outerOf L zs gap)) ∧ Bel w w' := by
  go_enter Try.func52, Try.ntmps52
  go_wp2_with fail
  go_loopw [7, 8] (fun s i wr => ∃ (k : Nat), k ≤ L.length ∧ i = .int .i64 k ∧ s = .int .i64 (wrap64 (margTo L k + gapTo gap k)) ∧ Bel w wr) (fun _ i _ => L.length - (intOf i).toNat)
  case atStart => exact ⟨0, Nat.zero_le _, by go_num, by rw [margTo, gapTo, Int.add_zero, wrap_zero], Bel.refl w⟩
  case round =>
    obtain ⟨k, hk, rfl, rfl, hb⟩ := hrel
    by_cases hlt : k < L.length
    · obtain ⟨b, o, rfl, hbl, hc⟩ := h k hlt
      obtain ⟨x0, x1, x2, x3, x4, x5, x6, x7, x8⟩ := item_cells hc hlt
      have d0 := (hb.cell _ _ hbl).trans x0
      have d1 := (hb.cell _ _ hbl).trans x1
      have d2 := (hb.cell _ _ hbl).trans x2
      have d3 := (hb.cell _ _ hbl).trans x3
      have d4 := (hb.cell _ _ hbl).trans x4
      have d5 := (hb.cell _ _ hbl).trans x5
      have d6 := (hb.cell _ _ hbl).trans x6
      have d7 := (hb.cell _ _ hbl).trans x7
      have d8 := (hb.cell _ _ hbl).trans x8
      clear hc x0 x1 x2 x3 x4 x5 x6 x7 x8
      have hlti : (k : Int) < (L.length : Int) := by omega
      by_cases h0 : 0 < k
      · have h0i : (0 : Int) < (k : Int) := by omega
        go_wp2_with fail
        go_quiet (fail)
        go_wp2_with fail
        go_roundw
        case rel =>
          refine ⟨k + 1, by omega, by go_num, ?_, hb.drewN _⟩
          simp only [margTo, gapTo]
          rw [if_neg (by omega)]
          refine congrArg (Value.int .i64) ?_; unfold wrap64; omega
        case measure => simp [intOf]; omega
      · have h0i : ¬ (0 : Int) < (k : Int) := by omega
        go_wp2_with fail
        go_quiet (fail)
        go_wp2_with fail
        go_roundw
        case rel =>
          refine ⟨k + 1, by omega, by go_num, ?_, hb.drewN _⟩
          simp only [margTo, gapTo]
          rw [if_pos (by omega)]
          refine congrArg (Value.int .i64) ?_; unfold wrap64; omega
        case measure => simp [intOf]; omega
    · obtain rfl : k = L.length := by omega
      go_wp2_with fail
      obtain ⟨wo, rfl⟩ : ∃ wo : World, wo = wr := ⟨_, rfl⟩
      go_loopw [7, 9] (fun s i wr => ∃ (k : Nat), k ≤ zs.length ∧ i = .int .i64 k ∧ s = .int .i64 (wrap64 (margTo L L.length + gapTo gap L.length + sumTo zs k)) ∧ Bel w wr) (fun _ i _ => zs.length - (intOf i).toNat)
      case atStart => exact ⟨0, Nat.zero_le _, by go_num, by rw [sumTo, Int.add_zero], hb⟩
      case round =>
        obtain ⟨k, hk, rfl, rfl, hb⟩ := hrel
        by_cases hlt : k < zs.length
        · obtain ⟨b, o, rfl, hbl, hc⟩ := hz k hlt
          have hcA : wr.cell? ⟨b, o + k, none⟩ = some (.int .i64 (at_ zs k)) := (hb.cell _ _ hbl).trans (hc k hlt)
          clear hc
          go_wp2_with fail
          go_roundw
          case rel => exact ⟨k + 1, by omega, by go_num, by refine congrArg (Value.int .i64) ?_; simp only [sumTo, margTo, gapTo]; unfold wrap64; omega, hb⟩
          case measure => simp [intOf]; omega
        · obtain rfl : k = zs.length := by omega
          go_wp2_with fail
          go_ret
          refine ⟨?_, hb⟩
          show Ending.returned (.int .i64 _) = _
          rw [outerOf]
          congr 3
          omega

/-! ### Grows, FreeOf -/
def growsB (L : List Rec) (gap inner : Int) : Bool := decide (outerOf L (hyps L) gap < inner)
set_option maxRecDepth 100000 in
set_option maxHeartbeats 2000000 in
theorem iGrows_c (A : Option Addr) (c : Nat) (L : List Rec) (gap inner : Int) (w : World) (h : Recs w A k_item L) (hn : L.length ≤ 1048576) :
    Calls Try.prog 94 #[.slice A L.length c, .int .i64 gap, .int .i64 inner] w fun r w' => r = .returned (.bool (growsB L gap inner)) ∧ Bel w w' := by
  go_enter Try.func94, Try.ntmps94
  go_wp2_with fail
  refine (ihyps_c _ _ _ _ h hn).mono ?_; rintro e w1 ⟨v, rfl, ho, hb1⟩
  obtain ⟨B, d, rfl, -, -, -, hz⟩ := own_open ho
  go_wp2_with fail
  refine (iOuterOf_c _ _ _ _ _ _ _ _ (h.keep hb1) hz hn (by rw [hyps_length]; exact hn)).mono ?_; rintro e w2 ⟨rfl, hb2⟩
  go_wp2_with fail
  go_ret
  exact ⟨rfl, hb1.trans hb2⟩
set_option maxRecDepth 100000 in
set_option maxHeartbeats 2000000 in
theorem sGrows_c (A : Option Addr) (c : Nat) (L : List Rec) (gap inner : Int) (w : World) (h : Recs w A k_item L) (hn : L.length ≤ 1048576) :
    Calls Try.prog 89 #[.slice A L.length c, .int .i64 gap, .int .i64 inner] w fun r w' => r = .returned (.bool (growsB L gap inner)) ∧ Bel w w' := by
  go_enter Try.func89, Try.ntmps89
  go_wp2_with fail
  refine (shyps_c _ _ _ _ h hn).mono ?_; rintro e w1 ⟨v, rfl, ho, hb1⟩
  obtain ⟨B, d, rfl, -, -, -, hz⟩ := own_open ho
  go_wp2_with fail
  refine (sOuterOf_c _ _ _ _ _ _ _ _ (h.keep hb1) hz hn (by rw [hyps_length]; exact hn)).mono ?_; rintro e w2 ⟨rfl, hb2⟩
  go_wp2_with fail
  go_ret
  exact ⟨rfl, hb1.trans hb2⟩
def freeOf (L : List Rec) (zs : List Int) (gap inner : Int) : Int := wrap64 (inner - outerOf L zs gap)
set_option maxRecDepth 100000 in
set_option maxHeartbeats 2000000 in
theorem iFreeOf_c (A : Option Addr) (c : Nat) (L : List Rec) (B : Option Addr) (d : Nat) (zs : List Int) (gap inner : Int) (w : World) (h : Recs w A k_item L) (hz : Ints w B zs) (hn : L.length ≤ 1048576) (hm : zs.length ≤ 1048576) :
    Calls Try.prog 31 #[.slice A L.length c, .slice B zs.length d, .int .i64 gap, .int .i64 inner] w fun r w' => r = .returned (.int .i64 (freeOf L zs gap inner)) ∧ Bel w w' := by
  go_enter Try.func31, Try.ntmps31
  go_wp2_with fail
  refine (iOuterOf_c _ _ _ _ _ _ _ _ h hz hn hm).mono ?_; rintro e w1 ⟨rfl, hb1⟩
  go_wp2_with fail
  go_ret
  exact ⟨rfl, hb1⟩
set_option maxRecDepth 100000 in
set_option maxHeartbeats 2000000 in
theorem sFreeOf_c (A : Option Addr) (c : Nat) (L : List Rec) (B : Option Addr) (d : Nat) (zs : List Int) (gap inner : Int) (w : World) (h : Recs w A k_item L) (hz : Ints w B zs) (hn : L.length ≤ 1048576) (hm : zs.length ≤ 1048576) :
    Calls Try.prog 32 #[.slice A L.length c, .slice B zs.length d, .int .i64 gap, .int .i64 inner] w fun r w' => r = .returned (.int .i64 (freeOf L zs gap inner)) ∧ Bel w w' := by
  go_enter Try.func32, Try.ntmps32
  go_wp2_with fail
  refine (sOuterOf_c _ _ _ _ _ _ _ _ h hz hn hm).mono ?_; rintro e w1 ⟨rfl, hb1⟩
  go_wp2_with fail
  go_ret
  exact ⟨rfl, hb1⟩
end Go.Proofs.Ytmipjhnjlpmidaa
