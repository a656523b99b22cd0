/- BaseOf and CrossOf, both texts. -/
import Derived.Test.YtmipjhnjlpmidaaSideS
import Derived.Deep.RegionWith
import Derived.Lib.QuietBelow
namespace Go.Proofs.Ytmipjhnjlpmidaa
open Go.RowKit Go.ChangeShapes Go.WideShapes Go.Sort
set_option linter.unusedVariables false
set_option linter.unusedSimpArgs false


def onR (r : Rec) : Bool := onBase (r.b 3) (r.b 4) (r.s 5)
def atB (r : Rec) : Int := wrap64 (r.s 1 + r.s 6)
def baseTo (L : List Rec) : Nat → Int × Bool
  | 0 => (0, false)
  | k + 1 => if (onR (rec_ L k) && (!(baseTo L k).2 || decide ((baseTo L k).1 < atB (rec_ L k)))) = true then (atB (rec_ L k), true) else baseTo L k
def baseOf (L : List Rec) : Int := (baseTo L L.length).1

set_option maxRecDepth 100000 in
set_option maxHeartbeats 2000000 in
theorem iBaseOf_c (A : Option Addr) (c : Nat) (L : List Rec) (w : World) (h : Recs w A k_side L) (hn : L.length ≤ 1048576) :
    Calls Try.prog 39 #[.slice A L.length c] w fun r w' => r = .returned (.int .i64 (baseOf L)) ∧ Bel w w' := by
  go_enter Try.func39, Try.ntmps39
  go_wp2_with fail
  go_loopw [3, 4, 10] (fun s t i wr => ∃ (k : Nat) (m : Int) (f : Bool), k ≤ L.length ∧ i = .int .i64 k ∧ s = .int .i64 m ∧ t = .bool f ∧ Hid (baseTo L k = (m, f)) ∧ Bel w wr) (fun _ _ i _ => L.length - (intOf i).toNat)
  case atStart => exact ⟨0, 0, false, Nat.zero_le _, by go_num, rfl, rfl, hid' rfl, Bel.refl w⟩
  case round =>
    obtain ⟨k, m, f, hk, rfl, rfl, rfl, HB, hb⟩ := hrel
    by_cases hlt : k < L.length
    · obtain ⟨b, o, rfl, hbl, hc⟩ := h k hlt
      obtain ⟨x0, x1, x2, x3, x4, x5, x6⟩ := side_cells hc hlt
      have d0 := (hb.cell _ _ hbl).trans x0
      have d1 := (hb.cell _ _ hbl).trans x1
      have d2 := (hb.cell _ _ hbl).trans x2
      have d3 := (hb.cell _ _ hbl).trans x3
      have d4 := (hb.cell _ _ hbl).trans x4
      have d5 := (hb.cell _ _ hbl).trans x5
      have d6 := (hb.cell _ _ hbl).trans x6
      clear hc x0 x1 x2 x3 x4 x5 x6
      have HS : Hid (baseTo L (k + 1) = if (onR (rec_ L k) && (!f || decide (m < atB (rec_ L k)))) = true then (atB (rec_ L k), true) else (m, f)) := hid' (by simp only [baseTo]; rw [HB.out])
      have hlti : (k : Int) < (L.length : Int) := by omega
      have hblw : b < wr.drew.heap.size := Nat.lt_of_lt_of_le hbl hb.sz
      cases hon : onBase ((rec_ L k).b 3) ((rec_ L k).b 4) ((rec_ L k).s 5)
      · have HR : Hid (baseTo L (k + 1) = (m, f)) := hid' (by rw [HS.out]; simp [onR, hon])
        go_wp2_with ((go_at_call 45; refine (iOnBase_c _ _ _ _ _ _ _ _).mono ?_; rintro e w1 ⟨rfl, hb1⟩))
        go_roundw
        case rel => exact ⟨k + 1, m, f, by omega, by go_num, rfl, rfl, HR, by first | exact hb.trans hb1 | exact (hb.alloc _).trans hb1 | exact hb.drew.trans hb1 | exact (hb.drew.trans hb1).drewN _ | exact (hb.drew.trans hb1).drew⟩
        case measure => simp [intOf]; omega
      · have hlti : (k : Int) < (L.length : Int) := by omega
        cases f
        · have HR : Hid (baseTo L (k + 1) = (wrap64 ((rec_ L k).s 1 + (rec_ L k).s 6), true)) := hid' (by rw [HS.out]; simp [onR, hon, atB])
          go_wp2_with ((go_at_call 45; refine (iOnBase_c _ _ _ _ _ _ _ _).mono ?_; rintro e w1 ⟨rfl, hb1⟩))
          go_roundw
          case rel => exact ⟨k + 1, _, _, by omega, by go_num, rfl, rfl, HR, by first | exact hb.trans hb1 | exact (hb.alloc _).trans hb1 | exact hb.drew.trans hb1 | exact (hb.drew.trans hb1).drewN _ | exact (hb.drew.trans hb1).drew⟩
          case measure => simp [intOf]; omega
        · by_cases hm : m < wrap64 ((rec_ L k).s 1 + (rec_ L k).s 6)
          · have HR : Hid (baseTo L (k + 1) = (wrap64 ((rec_ L k).s 1 + (rec_ L k).s 6), true)) := hid' (by rw [HS.out]; simp [onR, hon, atB, hm])
            go_wp2_with ((go_at_call 45; refine (iOnBase_c _ _ _ _ _ _ _ _).mono ?_; rintro e w1 ⟨rfl, hb1⟩))
            go_roundw
            case rel => exact ⟨k + 1, _, _, by omega, by go_num, rfl, rfl, HR, by first | exact hb.trans hb1 | exact (hb.alloc _).trans hb1 | exact hb.drew.trans hb1 | exact (hb.drew.trans hb1).drewN _ | exact (hb.drew.trans hb1).drew⟩
            case measure => simp [intOf]; omega
          · have HR : Hid (baseTo L (k + 1) = (m, true)) := hid' (by rw [HS.out]; simp [onR, hon, atB, hm])
            go_wp2_with ((go_at_call 45; refine (iOnBase_c _ _ _ _ _ _ _ _).mono ?_; rintro e w1 ⟨rfl, hb1⟩))
            go_roundw
            case rel => exact ⟨k + 1, _, _, by omega, by go_num, rfl, rfl, HR, by first | exact hb.trans hb1 | exact (hb.alloc _).trans hb1 | exact hb.drew.trans hb1 | exact (hb.drew.trans hb1).drewN _ | exact (hb.drew.trans hb1).drew⟩
            case measure => simp [intOf]; omega
    · obtain rfl : k = L.length := by omega
      have HE : Hid (baseOf L = m) := hid' (by rw [baseOf, HB.out])
      go_wp2_with fail
      go_ret
      exact ⟨by (rw [HE.out]; try rfl), hb⟩
set_option maxRecDepth 100000 in
set_option maxHeartbeats 2000000 in
theorem sBaseOf_c (A : Option Addr) (c : Nat) (L : List Rec) (w : World) (h : Recs w A k_side L) (hn : L.length ≤ 1048576) :
    Calls Try.prog 42 #[.slice A L.length c] w fun r w' => r = .returned (.int .i64 (baseOf L)) ∧ Bel w w' := by
  go_enter Try.func42, Try.ntmps42
  go_wp2_with fail
  go_loopw [3, 4, 5] (fun s t i wr => ∃ (k : Nat) (m : Int) (f : Bool), k ≤ L.length ∧ i = .int .i64 k ∧ s = .int .i64 m ∧ t = .bool f ∧ Hid (baseTo L k = (m, f)) ∧ Bel w wr) (fun _ _ i _ => L.length - (intOf i).toNat)
  case atStart => exact ⟨0, 0, false, Nat.zero_le _, by go_num, rfl, rfl, hid' rfl, Bel.refl w⟩
  case round =>
    obtain ⟨k, m, f, hk, rfl, rfl, rfl, HB, hb⟩ := hrel
    by_cases hlt : k < L.length
    · obtain ⟨b, o, rfl, hbl, hc⟩ := h k hlt
      obtain ⟨x0, x1, x2, x3, x4, x5, x6⟩ := side_cells hc hlt
      have d0 := (hb.cell _ _ hbl).trans x0
      have d1 := (hb.cell _ _ hbl).trans x1
      have d2 := (hb.cell _ _ hbl).trans x2
      have d3 := (hb.cell _ _ hbl).trans x3
      have d4 := (hb.cell _ _ hbl).trans x4
      have d5 := (hb.cell _ _ hbl).trans x5
      have d6 := (hb.cell _ _ hbl).trans x6
      clear hc x0 x1 x2 x3 x4 x5 x6
      have HS : Hid (baseTo L (k + 1) = if (onR (rec_ L k) && (!f || decide (m < atB (rec_ L k)))) = true then (atB (rec_ L k), true) else (m, f)) := hid' (by simp only [baseTo]; rw [HB.out])
      have hlti : (k : Int) < (L.length : Int) := by omega
      have hblw : b < wr.heap.size := Nat.lt_of_lt_of_le hbl hb.sz
      cases hon : onBase ((rec_ L k).b 3) ((rec_ L k).b 4) ((rec_ L k).s 5)
      · have HR : Hid (baseTo L (k + 1) = (m, f)) := hid' (by rw [HS.out]; simp [onR, hon])
        have hC : ∀ u : World, Calls Try.prog 46 #[sideV ((rec_ L k).s 0) ((rec_ L k).s 1) ((rec_ L k).s 2) ((rec_ L k).b 3) ((rec_ L k).b 4) ((rec_ L k).s 5) ((rec_ L k).s 6)] u fun e u' => e = .returned (.bool false) ∧ Below u.heap.size u u' := fun u => by have h := sOnBase_c ((rec_ L k).s 0) ((rec_ L k).s 1) ((rec_ L k).s 2) ((rec_ L k).b 3) ((rec_ L k).b 4) ((rec_ L k).s 5) ((rec_ L k).s 6) u; rw [hon] at h; exact h
        have q0 := cell_regrown d0
        have q1 := cell_regrown d1
        have q2 := cell_regrown d2
        have q3 := cell_regrown d3
        have q4 := cell_regrown d4
        have q5 := cell_regrown d5
        have q6 := cell_regrown d6
        go_wp2_with fail
        refine wp_region_quiet_below (by kernel_rfl) (by kernel_rfl) ?_
        repeat (go_big_quiet_step (exact Calls.regrown_of (hC _)))
        refine wpQuiet_nil ?_
        intro _ hw'
        obtain ⟨⟨dq, osq⟩, hw''⟩ := hw'
        subst hw''
        have hbq : Bel wr (grow (redrawn wr dq) osq) := below_regrown wr dq osq
        generalize grow (redrawn wr dq) osq = wq at hbq ⊢
        have f1 := (hbq.cell _ _ hblw).trans d1
        have f6 := (hbq.cell _ _ hblw).trans d6
        go_wp2_with fail
        go_roundw
        case rel => exact ⟨k + 1, _, _, by omega, by go_num, rfl, rfl, HR, by first | exact hb.trans hbq | exact (hb.trans hbq).drewN _ | exact (hb.trans hbq).drew⟩
        case measure => simp [intOf]; omega
      · cases f
        · have HR : Hid (baseTo L (k + 1) = (wrap64 ((rec_ L k).s 1 + (rec_ L k).s 6), true)) := hid' (by rw [HS.out]; simp [onR, hon, atB])
          have hC : ∀ u : World, Calls Try.prog 46 #[sideV ((rec_ L k).s 0) ((rec_ L k).s 1) ((rec_ L k).s 2) ((rec_ L k).b 3) ((rec_ L k).b 4) ((rec_ L k).s 5) ((rec_ L k).s 6)] u fun e u' => e = .returned (.bool true) ∧ Below u.heap.size u u' := fun u => by have h := sOnBase_c ((rec_ L k).s 0) ((rec_ L k).s 1) ((rec_ L k).s 2) ((rec_ L k).b 3) ((rec_ L k).b 4) ((rec_ L k).s 5) ((rec_ L k).s 6) u; rw [hon] at h; exact h
          have q0 := cell_regrown d0
          have q1 := cell_regrown d1
          have q2 := cell_regrown d2
          have q3 := cell_regrown d3
          have q4 := cell_regrown d4
          have q5 := cell_regrown d5
          have q6 := cell_regrown d6
          go_wp2_with fail
          refine wp_region_quiet_below (by kernel_rfl) (by kernel_rfl) ?_
          repeat (go_big_quiet_step (exact Calls.regrown_of (hC _)))
          refine wpQuiet_nil ?_
          intro _ hw'
          obtain ⟨⟨dq, osq⟩, hw''⟩ := hw'
          subst hw''
          have hbq : Bel wr (grow (redrawn wr dq) osq) := below_regrown wr dq osq
          generalize grow (redrawn wr dq) osq = wq at hbq ⊢
          have f1 := (hbq.cell _ _ hblw).trans d1
          have f6 := (hbq.cell _ _ hblw).trans d6
          go_wp2_with fail
          go_quiet (fail)
          go_wp2_with fail
          go_roundw
          case rel => exact ⟨k + 1, _, _, by omega, by go_num, rfl, rfl, HR, by first | exact hb.trans hbq | exact (hb.trans hbq).drewN _ | exact (hb.trans hbq).drew⟩
          case measure => simp [intOf]; omega
        · by_cases hm : m < wrap64 ((rec_ L k).s 1 + (rec_ L k).s 6)
          · have HR : Hid (baseTo L (k + 1) = (wrap64 ((rec_ L k).s 1 + (rec_ L k).s 6), true)) := hid' (by rw [HS.out]; simp [onR, hon, atB, hm])
            have hmd : decide (m < wrap64 ((rec_ L k).s 1 + (rec_ L k).s 6)) = true := by simp [hm]
            have hC : ∀ u : World, Calls Try.prog 46 #[sideV ((rec_ L k).s 0) ((rec_ L k).s 1) ((rec_ L k).s 2) ((rec_ L k).b 3) ((rec_ L k).b 4) ((rec_ L k).s 5) ((rec_ L k).s 6)] u fun e u' => e = .returned (.bool true) ∧ Below u.heap.size u u' := fun u => by have h := sOnBase_c ((rec_ L k).s 0) ((rec_ L k).s 1) ((rec_ L k).s 2) ((rec_ L k).b 3) ((rec_ L k).b 4) ((rec_ L k).s 5) ((rec_ L k).s 6) u; rw [hon] at h; exact h
            have q0 := cell_regrown d0
            have q1 := cell_regrown d1
            have q2 := cell_regrown d2
            have q3 := cell_regrown d3
            have q4 := cell_regrown d4
            have q5 := cell_regrown d5
            have q6 := cell_regrown d6
            go_wp2_with fail
            refine wp_region_quiet_below (by kernel_rfl) (by kernel_rfl) ?_
            repeat (go_big_quiet_step (exact Calls.regrown_of (hC _)))
            refine wpQuiet_nil ?_
            intro _ hw'
            obtain ⟨⟨dq, osq⟩, hw''⟩ := hw'
            subst hw''
            have hbq : Bel wr (grow (redrawn wr dq) osq) := below_regrown wr dq osq
            generalize grow (redrawn wr dq) osq = wq at hbq ⊢
            have f1 := (hbq.cell _ _ hblw).trans d1
            have f6 := (hbq.cell _ _ hblw).trans d6
            go_wp2_with fail
            go_quiet (fail)
            go_wp2_with fail
            go_roundw
            case rel => exact ⟨k + 1, _, _, by omega, by go_num, rfl, rfl, HR, by first | exact hb.trans hbq | exact (hb.trans hbq).drewN _ | exact (hb.trans hbq).drew⟩
            case measure => simp [intOf]; omega
          · have HR : Hid (baseTo L (k + 1) = (m, true)) := hid' (by rw [HS.out]; simp [onR, hon, atB, hm])
            have hmd : decide (m < wrap64 ((rec_ L k).s 1 + (rec_ L k).s 6)) = false := by simp [hm]
            have hC : ∀ u : World, Calls Try.prog 46 #[sideV ((rec_ L k).s 0) ((rec_ L k).s 1) ((rec_ L k).s 2) ((rec_ L k).b 3) ((rec_ L k).b 4) ((rec_ L k).s 5) ((rec_ L k).s 6)] u fun e u' => e = .returned (.bool true) ∧ Below u.heap.size u u' := fun u => by have h := sOnBase_c ((rec_ L k).s 0) ((rec_ L k).s 1) ((rec_ L k).s 2) ((rec_ L k).b 3) ((rec_ L k).b 4) ((rec_ L k).s 5) ((rec_ L k).s 6) u; rw [hon] at h; exact h
            have q0 := cell_regrown d0
            have q1 := cell_regrown d1
            have q2 := cell_regrown d2
            have q3 := cell_regrown d3
            have q4 := cell_regrown d4
            have q5 := cell_regrown d5
            have q6 := cell_regrown d6
            go_wp2_with fail
            refine wp_region_quiet_below (by kernel_rfl) (by kernel_rfl) ?_
            repeat (go_big_quiet_step (exact Calls.regrown_of (hC _)))
            refine wpQuiet_nil ?_
            intro _ hw'
            obtain ⟨⟨dq, osq⟩, hw''⟩ := hw'
            subst hw''
            have hbq : Bel wr (grow (redrawn wr dq) osq) := below_regrown wr dq osq
            generalize grow (redrawn wr dq) osq = wq at hbq ⊢
            have f1 := (hbq.cell _ _ hblw).trans d1
            have f6 := (hbq.cell _ _ hblw).trans d6
            go_wp2_with fail
            go_roundw
            case rel => exact ⟨k + 1, _, _, by omega, by go_num, rfl, rfl, HR, by first | exact hb.trans hbq | exact (hb.trans hbq).drewN _ | exact (hb.trans hbq).drew⟩
            case measure => simp [intOf]; omega
    · obtain rfl : k = L.length := by omega
      have HE : Hid (baseOf L = m) := hid' (by rw [baseOf, HB.out])
      go_wp2_with fail
      go_ret
      exact ⟨by (rw [HE.out]; try rfl), hb⟩

/-! ### CrossOf -/
def sideOkR (r : Rec) : Bool := sideOk (r.s 0) (r.s 1) (r.s 2) (r.s 5) (r.s 6)
def partOf (base : Int) (r : Rec) : Int := if onR r = true then base + r.s 0 + r.s 2 - r.s 6 else r.s 0 + r.s 1 + r.s 2
def crossTo (L : List Rec) (base : Int) : Nat → Int
  | 0 => 0
  | k + 1 => max (crossTo L base k) (partOf base (rec_ L k))
def crossOf (L : List Rec) : Int := if 12 < L.length then 0 else if allR sideOkR L = true then clamped (crossTo L (baseOf L) L.length) else 0
def restTo (L : List Rec) : Nat → Int
  | 0 => 0
  | k + 1 => if onR (rec_ L k) = true then restTo L k else max (restTo L k) ((rec_ L k).s 0 + (rec_ L k).s 1 + (rec_ L k).s 2)
def lowTo (L : List Rec) : Nat → Int × Bool
  | 0 => (0, false)
  | k + 1 => if onR (rec_ L k) = true then (if (lowTo L k).2 = true then max (lowTo L k).1 ((rec_ L k).s 0 + (rec_ L k).s 2 - (rec_ L k).s 6) else (rec_ L k).s 0 + (rec_ L k).s 2 - (rec_ L k).s 6, true) else lowTo L k
theorem cross_eq (L : List Rec) (base : Int) : ∀ k : Nat, crossTo L base k = if (lowTo L k).2 = true then max (restTo L k) (base + (lowTo L k).1) else restTo L k := by
  have h0 : ∀ k : Nat, 0 ≤ restTo L k := by
    intro k
    induction k with
    | zero => simp [restTo]
    | succ k ih => simp only [restTo]; split <;> omega
  intro k
  induction k with
  | zero => simp [crossTo, lowTo, restTo]
  | succ k ih =>
    have h := h0 k
    simp only [crossTo, restTo, lowTo, partOf, ih]
    by_cases hon : onR (rec_ L k) = true
    · simp only [hon, if_true]
      by_cases hl : (lowTo L k).2 = true
      · simp only [hl, if_true]; omega
      · simp only [hl, if_false, Bool.false_eq_true]; omega
    · simp only [hon, if_false, Bool.false_eq_true]
      by_cases hl : (lowTo L k).2 = true
      · simp only [hl, if_true]; omega
      · simp only [hl, if_false, Bool.false_eq_true]
theorem sideOk_bd {r : Rec} (h : sideOkR r = true) : (0 ≤ r.s 0 ∧ r.s 0 ≤ 1048576) ∧ (-1048576 ≤ r.s 1 ∧ r.s 1 ≤ 1048576) ∧ (-1048576 ≤ r.s 2 ∧ r.s 2 ≤ 1048576) ∧ (0 ≤ r.s 6 ∧ r.s 6 ≤ 1048576) := by
  simp [sideOkR, sideOk, inB] at h
  omega
theorem base_bd {L : List Rec} : ∀ k : Nat, (∀ j, j < k → sideOkR (rec_ L j) = true) → -1048576 ≤ (baseTo L k).1 ∧ (baseTo L k).1 ≤ 2097152 := by
  intro k
  induction k with
  | zero => intro _; simp [baseTo]
  | succ k ih =>
    intro h
    have h1 := ih (fun j hj => h j (by omega))
    have h2 := sideOk_bd (h k (by omega))
    simp only [baseTo]
    split
    · simp only [atB]; unfold wrap64; omega
    · exact h1
theorem rest_bd {L : List Rec} : ∀ k : Nat, (∀ j, j < k → sideOkR (rec_ L j) = true) → 0 ≤ restTo L k ∧ restTo L k ≤ 4194304 := by
  intro k
  induction k with
  | zero => intro _; simp [restTo]
  | succ k ih =>
    intro h
    have h1 := ih (fun j hj => h j (by omega))
    have h2 := sideOk_bd (h k (by omega))
    simp only [restTo]
    split <;> omega
theorem low_bd {L : List Rec} : ∀ k : Nat, (∀ j, j < k → sideOkR (rec_ L j) = true) → -4194304 ≤ (lowTo L k).1 ∧ (lowTo L k).1 ≤ 4194304 := by
  intro k
  induction k with
  | zero => intro _; simp [lowTo]
  | succ k ih =>
    intro h
    have h1 := ih (fun j hj => h j (by omega))
    have h2 := sideOk_bd (h k (by omega))
    simp only [lowTo]
    split
    · dsimp only; split <;> omega
    · exact h1
theorem cross_bd {L : List Rec} {base : Int} (hb : -1048576 ≤ base ∧ base ≤ 2097152) : ∀ k : Nat, (∀ j, j < k → sideOkR (rec_ L j) = true) → 0 ≤ crossTo L base k ∧ crossTo L base k ≤ 8388608 := by
  intro k
  induction k with
  | zero => intro _; simp [crossTo]
  | succ k ih =>
    intro h
    have h1 := ih (fun j hj => h j (by omega))
    have h2 := sideOk_bd (h k (by omega))
    simp only [crossTo, partOf]
    split <;> omega
theorem crossOf_bad {L : List Rec} (h : allR sideOkR L = false) : crossOf L = 0 := by unfold crossOf; rw [h]; split <;> simp
theorem crossOf_long {L : List Rec} (h : 12 < L.length) : crossOf L = 0 := by unfold crossOf; rw [if_pos h]
theorem crossOf_ok {L : List Rec} (h : ¬ 12 < L.length) (h2 : allR sideOkR L = true) : crossOf L = clamped (crossTo L (baseOf L) L.length) := by unfold crossOf; rw [if_neg h, if_pos h2]

set_option maxRecDepth 100000 in
set_option maxHeartbeats 4000000 in
theorem iCrossOf_c (A : Option Addr) (c : Nat) (L : List Rec) (w : World) (h : Recs w A k_side L) (hn : L.length ≤ 1048576) :
    Calls Try.prog 38 #[.slice A L.length c] w fun r w' => r = .returned (.int .i64 (crossOf L)) ∧ Bel w w' := by
  by_cases h12 : 12 < L.length
  · have HF := Lib.hid (crossOf_long h12)
    have hgt : (12 : Int) < (L.length : Int) := by omega
    go_enter Try.func38, Try.ntmps38
    go_wp2_with fail
    go_ret
    exact ⟨by (rw [HF.out]; try rfl), Bel.refl w⟩
  · have hgt : (L.length : Int) ≤ 12 := by omega
    cases hA : allR sideOkR L
    · have HF := Lib.hid (crossOf_bad hA)
      have HA := Lib.hid hA
      clear hA
      go_enter Try.func38, Try.ntmps38
      go_wp2_with fail
      refine (iBaseOf_c _ _ _ _ h hn).mono ?_; rintro e w0 ⟨rfl, hb0⟩
      replace h := h.keep hb0
      go_wp2_with fail
      go_loopw [3, 14] (fun s i wr => ∃ (k : Nat) (m : Int), k ≤ L.length ∧ i = .int .i64 k ∧ s = .int .i64 m ∧ (∀ j, j < k → sideOkR (rec_ L j) = true) ∧ Bel w0 wr) (fun _ i _ => L.length - (intOf i).toNat)
      case atStart => exact ⟨0, 0, Nat.zero_le _, by go_num, rfl, fun j hj => absurd hj (Nat.not_lt_zero _), Bel.refl _⟩
      case round =>
        obtain ⟨k, m, hk, rfl, rfl, hx, hb⟩ := hrel
        have HX := Lib.hid hx
        clear hx
        by_cases hlt : k < L.length
        · obtain ⟨b, o, rfl, hbl, hc⟩ := h k hlt
          obtain ⟨x0, x1, x2, x3, x4, x5, x6⟩ := side_cells hc hlt
          have d0 := (hb.cell _ _ hbl).trans x0
          have d1 := (hb.cell _ _ hbl).trans x1
          have d2 := (hb.cell _ _ hbl).trans x2
          have d3 := (hb.cell _ _ hbl).trans x3
          have d4 := (hb.cell _ _ hbl).trans x4
          have d5 := (hb.cell _ _ hbl).trans x5
          have d6 := (hb.cell _ _ hbl).trans x6
          clear hc x0 x1 x2 x3 x4 x5 x6
          cases he : sideOk ((rec_ L k).s 0) ((rec_ L k).s 1) ((rec_ L k).s 2) ((rec_ L k).s 5) ((rec_ L k).s 6)
          · go_wp2_with (first | (go_at_call 43; refine (iSideOk_c _ _ _ _ _ _ _ _).mono ?_; rintro e w1 ⟨rfl, hb1⟩; obtain ⟨hc1, hf1, hz1⟩ := hb1.open_; have hl1 : wr.heap.size < w1.heap.size := (by simp at hz1; omega)) | (go_at_call 45; refine (iOnBase_c _ _ _ _ _ _ _ _).mono ?_; rintro e w2 ⟨rfl, hb2⟩; obtain ⟨hc2, hf2, hz2⟩ := hb2.open_))
            go_ret
            exact ⟨by (rw [HF.out]; try rfl), hb0.trans ((hb.alloc _).trans hb1)⟩
          · cases hon : onBase ((rec_ L k).b 3) ((rec_ L k).b 4) ((rec_ L k).s 5)
            all_goals
              go_wp2_with (first | (go_at_call 43; refine (iSideOk_c _ _ _ _ _ _ _ _).mono ?_; rintro e w1 ⟨rfl, hb1⟩; obtain ⟨hc1, hf1, hz1⟩ := hb1.open_; have hl1 : wr.heap.size < w1.heap.size := (by simp at hz1; omega)) | (go_at_call 45; refine (iOnBase_c _ _ _ _ _ _ _ _).mono ?_; rintro e w2 ⟨rfl, hb2⟩; obtain ⟨hc2, hf2, hz2⟩ := hb2.open_))
              go_roundw
              case rel => exact ⟨k + 1, _, by omega, by go_num, rfl, (fun j hj => by rcases Nat.lt_succ_iff_lt_or_eq.1 hj with h | h; exact HX.out j h; subst h; exact he), ((hb.alloc _).trans hb1).trans hb2⟩
              case measure => simp [intOf]; omega
        · have := allR_true (p := sideOkR) (L := L) fun j hj => HX.out j (by omega)
          exact absurd HA.out (by rw [this]; decide)
    · have HF := Lib.hid (crossOf_ok h12 hA)
      have HA := Lib.hid hA
      clear hA
      have hB := base_bd (L := L) L.length fun j hj => allR_at HA.out hj
      go_enter Try.func38, Try.ntmps38
      go_wp2_with fail
      refine (iBaseOf_c _ _ _ _ h hn).mono ?_; rintro e w0 ⟨rfl, hb0⟩
      replace h := h.keep hb0
      have hB' : -1048576 ≤ baseOf L ∧ baseOf L ≤ 2097152 := hB
      clear hB
      have HBB := Lib.hid hB'
      go_wp2_with fail
      go_loopw [3, 14] (fun s i wr => ∃ (k : Nat), k ≤ L.length ∧ i = .int .i64 k ∧ s = .int .i64 (crossTo L (baseOf L) k) ∧ (∀ j, j < k → sideOkR (rec_ L j) = true) ∧ Bel w0 wr) (fun _ i _ => L.length - (intOf i).toNat)
      case atStart => exact ⟨0, Nat.zero_le _, by go_num, rfl, fun j hj => absurd hj (Nat.not_lt_zero _), Bel.refl _⟩
      case round =>
        obtain ⟨k, hk, rfl, rfl, hx, hb⟩ := hrel
        have HX := Lib.hid hx
        have hC := cross_bd HBB.out k hx
        clear hx
        by_cases hlt : k < L.length
        · obtain ⟨b, o, rfl, hbl, hc⟩ := h k hlt
          obtain ⟨x0, x1, x2, x3, x4, x5, x6⟩ := side_cells hc hlt
          have d0 := (hb.cell _ _ hbl).trans x0
          have d1 := (hb.cell _ _ hbl).trans x1
          have d2 := (hb.cell _ _ hbl).trans x2
          have d3 := (hb.cell _ _ hbl).trans x3
          have d4 := (hb.cell _ _ hbl).trans x4
          have d5 := (hb.cell _ _ hbl).trans x5
          have d6 := (hb.cell _ _ hbl).trans x6
          clear hc x0 x1 x2 x3 x4 x5 x6
          have he : sideOk ((rec_ L k).s 0) ((rec_ L k).s 1) ((rec_ L k).s 2) ((rec_ L k).s 5) ((rec_ L k).s 6) = true := allR_at HA.out hlt
          have hS := sideOk_bd he
          have HS : Hid (crossTo L (baseOf L) (k + 1) = max (crossTo L (baseOf L) k) (partOf (baseOf L) (rec_ L k))) := hid' rfl
          cases hon : onBase ((rec_ L k).b 3) ((rec_ L k).b 4) ((rec_ L k).s 5)
          · have HP : Hid (partOf (baseOf L) (rec_ L k) = (rec_ L k).s 0 + (rec_ L k).s 1 + (rec_ L k).s 2) := hid' (by simp [partOf, onR, hon])
            go_wp2_with (first | (go_at_call 43; refine (iSideOk_c _ _ _ _ _ _ _ _).mono ?_; rintro e w1 ⟨rfl, hb1⟩; obtain ⟨hc1, hf1, hz1⟩ := hb1.open_; have hl1 : wr.heap.size < w1.heap.size := (by simp at hz1; omega)) | (go_at_call 45; refine (iOnBase_c _ _ _ _ _ _ _ _).mono ?_; rintro e w2 ⟨rfl, hb2⟩; obtain ⟨hc2, hf2, hz2⟩ := hb2.open_))
            all_goals
              go_roundw
              case rel => exact ⟨k + 1, by omega, by go_num, by (rw [HS.out, HP.out]; refine congrArg (Value.int .i64) ?_; omega), (fun j hj => by rcases Nat.lt_succ_iff_lt_or_eq.1 hj with h | h; exact HX.out j h; subst h; exact he), ((hb.alloc _).trans hb1).trans hb2⟩
              case measure => simp [intOf]; omega
          · have HP : Hid (partOf (baseOf L) (rec_ L k) = baseOf L + (rec_ L k).s 0 + (rec_ L k).s 2 - (rec_ L k).s 6) := hid' (by simp [partOf, onR, hon])
            go_wp2_with (first | (go_at_call 43; refine (iSideOk_c _ _ _ _ _ _ _ _).mono ?_; rintro e w1 ⟨rfl, hb1⟩; obtain ⟨hc1, hf1, hz1⟩ := hb1.open_; have hl1 : wr.heap.size < w1.heap.size := (by simp at hz1; omega)) | (go_at_call 45; refine (iOnBase_c _ _ _ _ _ _ _ _).mono ?_; rintro e w2 ⟨rfl, hb2⟩; obtain ⟨hc2, hf2, hz2⟩ := hb2.open_))
            all_goals
              go_roundw
              case rel => exact ⟨k + 1, by omega, by go_num, by (rw [HS.out, HP.out]; refine congrArg (Value.int .i64) ?_; omega), (fun j hj => by rcases Nat.lt_succ_iff_lt_or_eq.1 hj with h | h; exact HX.out j h; subst h; exact he), ((hb.alloc _).trans hb1).trans hb2⟩
              case measure => simp [intOf]; omega
        · obtain rfl : k = L.length := by omega
          go_wp2_with ((go_at_call 81; refine (iClamped_c _ _).mono ?_; rintro e w' ⟨rfl, rfl⟩))
          go_ret
          exact ⟨by (rw [HF.out]; try rfl), hb0.trans hb⟩
set_option maxRecDepth 100000 in
set_option maxHeartbeats 4000000 in
theorem sCrossOf_c (A : Option Addr) (c : Nat) (L : List Rec) (w : World) (h : Recs w A k_side L) (hn : L.length ≤ 1048576) :
    Calls Try.prog 41 #[.slice A L.length c] w fun r w' => r = .returned (.int .i64 (crossOf L)) ∧ Bel w w' := by
  go_enter Try.func41, Try.ntmps41
  go_wp2_with fail
  go_loopw [3, 4, 5, 6] (fun s l f i wr => ∃ (k : Nat) (m : Int) (q : Bool), k ≤ L.length ∧ i = .int .i64 k ∧ s = .int .i64 (restTo L k) ∧ l = .int .i64 m ∧ f = .bool q ∧ Hid (lowTo L k = (m, q)) ∧ (∀ j, j < k → sideOkR (rec_ L j) = true) ∧ Bel w wr) (fun _ _ _ i _ => L.length - (intOf i).toNat)
  case atStart => exact ⟨0, 0, false, Nat.zero_le _, by go_num, rfl, rfl, rfl, hid' rfl, fun j hj => absurd hj (Nat.not_lt_zero _), Bel.refl _⟩
  case round =>
    obtain ⟨k, m, q, hk, rfl, rfl, rfl, rfl, HL, hx, hb⟩ := hrel
    have HX := Lib.hid hx
    have hC := rest_bd k hx
    have hD : -4194304 ≤ m ∧ m ≤ 4194304 := by have := low_bd k hx; rw [HL.out] at this; exact this
    clear hx
    by_cases hlt : k < L.length
    · obtain ⟨b, o, rfl, hbl, hc⟩ := h k hlt
      obtain ⟨x0, x1, x2, x3, x4, x5, x6⟩ := side_cells hc hlt
      have d0 := (hb.cell _ _ hbl).trans x0
      have d1 := (hb.cell _ _ hbl).trans x1
      have d2 := (hb.cell _ _ hbl).trans x2
      have d3 := (hb.cell _ _ hbl).trans x3
      have d4 := (hb.cell _ _ hbl).trans x4
      have d5 := (hb.cell _ _ hbl).trans x5
      have d6 := (hb.cell _ _ hbl).trans x6
      clear hc x0 x1 x2 x3 x4 x5 x6
      cases he : sideOk ((rec_ L k).s 0) ((rec_ L k).s 1) ((rec_ L k).s 2) ((rec_ L k).s 5) ((rec_ L k).s 6)
      · have HF := Lib.hid (crossOf_bad (allR_false (p := sideOkR) hlt he))
        go_wp2_with (first | (go_at_call 44; refine (sSideOk_c _ _ _ _ _ _ _ _).mono ?_; rintro e w1 ⟨rfl, hb1⟩; obtain ⟨hc1, hf1, hz1⟩ := hb1.open_; have hl1 : wr.heap.size < w1.heap.size := (by simp at hz1; omega)) | (go_at_call 46; refine (sOnBase_c _ _ _ _ _ _ _ _).mono ?_; rintro e w2 ⟨rfl, hb2⟩; obtain ⟨hc2, hf2, hz2⟩ := hb2.open_))
        go_ret
        exact ⟨by (rw [HF.out]; try rfl), (hb.alloc _).trans hb1⟩
      · have hS := sideOk_bd he
        cases hon : onBase ((rec_ L k).b 3) ((rec_ L k).b 4) ((rec_ L k).s 5)
        · have HS : Hid (restTo L (k + 1) = max (restTo L k) ((rec_ L k).s 0 + (rec_ L k).s 1 + (rec_ L k).s 2)) := hid' (by simp [restTo, onR, hon])
          have HM : Hid (lowTo L (k + 1) = (m, q)) := hid' (by simp only [lowTo]; rw [if_neg (by simp [onR, hon]), HL.out])
          go_wp2_with (first | (go_at_call 44; refine (sSideOk_c _ _ _ _ _ _ _ _).mono ?_; rintro e w1 ⟨rfl, hb1⟩; obtain ⟨hc1, hf1, hz1⟩ := hb1.open_; have hl1 : wr.heap.size < w1.heap.size := (by simp at hz1; omega)) | (go_at_call 46; refine (sOnBase_c _ _ _ _ _ _ _ _).mono ?_; rintro e w2 ⟨rfl, hb2⟩; obtain ⟨hc2, hf2, hz2⟩ := hb2.open_))
          all_goals
            go_roundw
            case rel => exact ⟨k + 1, m, q, by omega, by go_num, by (rw [HS.out]; refine congrArg (Value.int .i64) ?_; omega), rfl, rfl, HM, (fun j hj => by rcases Nat.lt_succ_iff_lt_or_eq.1 hj with h | h; exact HX.out j h; subst h; exact he), ((hb.alloc _).trans hb1).trans hb2⟩
            case measure => simp [intOf]; omega
        · have HS : Hid (restTo L (k + 1) = restTo L k) := hid' (by simp [restTo, onR, hon])
          cases q
          · have HM : Hid (lowTo L (k + 1) = ((rec_ L k).s 0 + (rec_ L k).s 2 - (rec_ L k).s 6, true)) := hid' (by simp only [lowTo]; rw [if_pos (by simp [onR, hon]), HL.out]; simp)
            go_wp2_with (first | (go_at_call 44; refine (sSideOk_c _ _ _ _ _ _ _ _).mono ?_; rintro e w1 ⟨rfl, hb1⟩; obtain ⟨hc1, hf1, hz1⟩ := hb1.open_; have hl1 : wr.heap.size < w1.heap.size := (by simp at hz1; omega)) | (go_at_call 46; refine (sOnBase_c _ _ _ _ _ _ _ _).mono ?_; rintro e w2 ⟨rfl, hb2⟩; obtain ⟨hc2, hf2, hz2⟩ := hb2.open_))
            go_roundw
            case rel => exact ⟨k + 1, _, _, by omega, by go_num, by rw [HS.out], rfl, rfl, HM, (fun j hj => by rcases Nat.lt_succ_iff_lt_or_eq.1 hj with h | h; exact HX.out j h; subst h; exact he), ((hb.alloc _).trans hb1).trans hb2⟩
            case measure => simp [intOf]; omega
          · have HM : Hid (lowTo L (k + 1) = (max m ((rec_ L k).s 0 + (rec_ L k).s 2 - (rec_ L k).s 6), true)) := hid' (by simp only [lowTo]; rw [if_pos (by simp [onR, hon]), HL.out]; simp)
            by_cases hgt : m < (rec_ L k).s 0 + (rec_ L k).s 2 - (rec_ L k).s 6
            · have HN : Hid (lowTo L (k + 1) = ((rec_ L k).s 0 + (rec_ L k).s 2 - (rec_ L k).s 6, true)) := hid' (by rw [HM.out]; congr 1; omega)
              go_wp2_with (first | (go_at_call 44; refine (sSideOk_c _ _ _ _ _ _ _ _).mono ?_; rintro e w1 ⟨rfl, hb1⟩; obtain ⟨hc1, hf1, hz1⟩ := hb1.open_; have hl1 : wr.heap.size < w1.heap.size := (by simp at hz1; omega)) | (go_at_call 46; refine (sOnBase_c _ _ _ _ _ _ _ _).mono ?_; rintro e w2 ⟨rfl, hb2⟩; obtain ⟨hc2, hf2, hz2⟩ := hb2.open_))
              go_roundw
              case rel => exact ⟨k + 1, _, _, by omega, by go_num, by rw [HS.out], rfl, rfl, HN, (fun j hj => by rcases Nat.lt_succ_iff_lt_or_eq.1 hj with h | h; exact HX.out j h; subst h; exact he), ((hb.alloc _).trans hb1).trans hb2⟩
              case measure => simp [intOf]; omega
            · have HN : Hid (lowTo L (k + 1) = (m, true)) := hid' (by rw [HM.out]; congr 1; omega)
              go_wp2_with (first | (go_at_call 44; refine (sSideOk_c _ _ _ _ _ _ _ _).mono ?_; rintro e w1 ⟨rfl, hb1⟩; obtain ⟨hc1, hf1, hz1⟩ := hb1.open_; have hl1 : wr.heap.size < w1.heap.size := (by simp at hz1; omega)) | (go_at_call 46; refine (sOnBase_c _ _ _ _ _ _ _ _).mono ?_; rintro e w2 ⟨rfl, hb2⟩; obtain ⟨hc2, hf2, hz2⟩ := hb2.open_))
              go_roundw
              case rel => exact ⟨k + 1, _, _, by omega, by go_num, by rw [HS.out], rfl, rfl, HN, (fun j hj => by rcases Nat.lt_succ_iff_lt_or_eq.1 hj with h | h; exact HX.out j h; subst h; exact he), ((hb.alloc _).trans hb1).trans hb2⟩
              case measure => simp [intOf]; omega
    · obtain rfl : k = L.length := by omega
      replace h := h.keep hb
      by_cases h12 : 12 < L.length
      · have HF := Lib.hid (crossOf_long h12)
        have hgt : (12 : Int) < (L.length : Int) := by omega
        go_wp2_with fail
        go_ret
        exact ⟨by (rw [HF.out]; try rfl), hb⟩
      · have hgt : (L.length : Int) ≤ 12 := by omega
        have hB' : -1048576 ≤ baseOf L ∧ baseOf L ≤ 2097152 := base_bd L.length HX.out
        have HF : Hid (crossOf L = clamped (if q = true then max (restTo L L.length) (baseOf L + m) else restTo L L.length)) := hid' (by rw [crossOf_ok h12 (allR_true fun j hj => HX.out j hj), cross_eq, HL.out])
        cases q
        · have HG : Hid (crossOf L = clamped (restTo L L.length)) := hid' (by rw [HF.out]; simp)
          go_wp2_with ((go_at_call 83; refine (sClamped_c _ _).mono ?_; rintro e w' ⟨rfl, rfl⟩))
          go_ret
          exact ⟨by (rw [HG.out]; try rfl), hb⟩
        · by_cases hgt2 : restTo L L.length < baseOf L + m
          · have HG : Hid (crossOf L = clamped (baseOf L + m)) := hid' (by rw [HF.out]; simp; congr 1; omega)
            go_wp2_with fail
            refine (sBaseOf_c _ _ _ _ h hn).mono ?_; rintro e w3 ⟨rfl, hb3⟩
            replace h := h.keep hb3
            go_wp2_with fail
            refine (sBaseOf_c _ _ _ _ h hn).mono ?_; rintro e w4 ⟨rfl, hb4⟩
            go_wp2_with ((go_at_call 83; refine (sClamped_c _ _).mono ?_; rintro e w' ⟨rfl, rfl⟩))
            go_ret
            exact ⟨by (rw [HG.out]; try rfl), (hb.trans hb3).trans hb4⟩
          · have HG : Hid (crossOf L = clamped (restTo L L.length)) := hid' (by rw [HF.out]; simp; congr 1; omega)
            go_wp2_with fail
            refine (sBaseOf_c _ _ _ _ h hn).mono ?_; rintro e w3 ⟨rfl, hb3⟩
            go_wp2_with ((go_at_call 83; refine (sClamped_c _ _).mono ?_; rintro e w' ⟨rfl, rfl⟩))
            go_ret
            exact ⟨by (rw [HG.out]; try rfl), hb.trans hb3⟩
end Go.Proofs.Ytmipjhnjlpmidaa
