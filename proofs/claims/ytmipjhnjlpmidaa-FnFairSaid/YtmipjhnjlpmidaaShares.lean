/- FloorDiv, WeightsOk, Shares, Evenly: both texts return the same numbers. -/
import Derived.Test.YtmipjhnjlpmidaaAcross
namespace Go.Proofs.Ytmipjhnjlpmidaa
open Go.RowKit
set_option linter.unusedVariables false
set_option linter.unusedSimpArgs false

def floorDiv (a b : Int) : Int := if b < 1 then 0 else a / b
def weightsOk (ws : List Int) : Bool := allIn ws 0 1073741824 && decide (ws.length ≤ 64)
def prefixSum (ws : List Int) : Nat → Int
  | 0 => 0
  | k + 1 => prefixSum ws k + at_ ws k
def shareAt (n : Int) (ws : List Int) (i : Nat) : Int :=
  floorDiv (signed n * (prefixSum ws i + at_ ws i)) (prefixSum ws ws.length) - floorDiv (signed n * prefixSum ws i) (prefixSum ws ws.length)
def sharesTo (n : Int) (ws : List Int) (k : Nat) : List Int := (List.range k).map (shareAt n ws)
def shares (n : Int) (ws : List Int) : List Int := if weightsOk ws then sharesTo n ws ws.length else []
def ones (k : Nat) : List Int := List.replicate k 1
def evenly (n many : Int) : List Int := if 0 ≤ many ∧ many ≤ 64 then shares n (ones many.toNat) else []

theorem inB_iff {n a b : Int} : inB n a b = true ↔ a ≤ n ∧ n ≤ b := by simp [inB]
theorem inB_not {n a b : Int} : inB n a b = false ↔ ¬ (a ≤ n ∧ n ≤ b) := by rw [← inB_iff]; simp

theorem weights_at {ws : List Int} (h : weightsOk ws = true) : ws.length ≤ 64 ∧ ∀ i, i < ws.length → 0 ≤ at_ ws i ∧ at_ ws i ≤ 1073741824 := by
  simp only [weightsOk, Bool.and_eq_true, decide_eq_true_eq] at h
  exact ⟨h.2, fun i hi => inB_iff.1 (allIn_at h.1 hi)⟩
theorem prefixSum_bd {ws : List Int} (h : weightsOk ws = true) : ∀ k, k ≤ ws.length → 0 ≤ prefixSum ws k ∧ prefixSum ws k ≤ 1073741824 * (k : Int) := by
  intro k
  induction k with
  | zero => intro _; simp [prefixSum]
  | succ k ih =>
    intro hk
    have h1 := ih (by omega)
    have h2 := (weights_at h).2 k (by omega)
    simp only [prefixSum]
    omega
theorem mul_bd {a b A B : Int} (ha : -A ≤ a ∧ a ≤ A) (hb : 0 ≤ b ∧ b ≤ B) (hA : 0 ≤ A) : -(A * B) ≤ a * b ∧ a * b ≤ A * B := by
  have h1 : a * b ≤ A * b := Int.mul_le_mul_of_nonneg_right ha.2 hb.1
  have h2 : -A * b ≤ a * b := Int.mul_le_mul_of_nonneg_right ha.1 hb.1
  have h3 : A * b ≤ A * B := Int.mul_le_mul_of_nonneg_left hb.2 hA
  rw [Int.neg_mul] at h2
  omega
theorem ediv_bd {a b A : Int} (ha : -A ≤ a ∧ a ≤ A) (hb : 1 ≤ b) : -A ≤ a / b ∧ a / b ≤ A := by
  have hb0 : b ≠ 0 := by omega
  have e1 := Int.mul_ediv_add_emod a b
  have e2 := Int.emod_nonneg a hb0
  have e3 := Int.emod_lt_of_pos a (show 0 < b by omega)
  rcases Int.lt_or_le a 0 with h | h
  · have h1 : a / b < 0 := Int.ediv_neg_of_neg_of_pos h (by omega)
    have h2 : b * (a / b) ≤ 1 * (a / b) := Int.mul_le_mul_of_nonpos_right hb (by omega)
    have h3 : a ≤ a / b := by
      rw [Int.le_ediv_iff_mul_le (by omega)]
      have h4 : a * b ≤ a * 1 := Int.mul_le_mul_of_nonpos_left (by omega) hb
      omega
    omega
  · have h1 := Int.ediv_nonneg h (show 0 ≤ b by omega)
    have h2 := Int.ediv_le_self b h
    omega
theorem floorDiv_bd {a A : Int} (b : Int) (ha : -A ≤ a ∧ a ≤ A) : -A ≤ floorDiv a b ∧ floorDiv a b ≤ A := by
  unfold floorDiv
  split
  · omega
  · exact ediv_bd ha (by omega)

theorem tmod_cases {a b : Int} (hb : 1 ≤ b) (ha : a < 0) : (a.tmod b < 0 ∧ a.tdiv b - 1 = a / b) ∨ (¬ a.tmod b < 0 ∧ a.tdiv b = a / b) := by
  have e := Int.tdiv_eq_ediv (a := a) (b := b)
  have e1 := Int.mul_tdiv_add_tmod a b
  have e2 := Int.mul_ediv_add_emod a b
  have hs : b.sign = 1 := Int.sign_eq_one_of_pos (by omega)
  have n1 := Int.emod_nonneg a (show b ≠ 0 by omega)
  have n2 := Int.emod_lt_of_pos a (show 0 < b by omega)
  by_cases hd : b ∣ a
  · rw [if_pos (Or.inr hd), Int.add_zero] at e
    right
    have : a % b = 0 := Int.emod_eq_zero_of_dvd hd
    rw [e] at e1
    refine ⟨by omega, e⟩
  · have h0 : a % b ≠ 0 := fun h => hd (Int.dvd_of_emod_eq_zero h)
    rw [if_neg (by rintro (h | h); omega; exact hd h), hs] at e
    left
    rw [e, Int.mul_add] at e1
    refine ⟨by omega, by omega⟩

theorem fd_pos {a b : Int} (h : ¬ b < 1) : floorDiv a b = a / b := by rw [floorDiv, if_neg h]
set_option maxRecDepth 100000 in
set_option maxHeartbeats 400000 in
theorem iFloorDiv_c (a b : Int) (w : World) (ha : -9223372036854775808 ≤ a ∧ a ≤ 9223372036854775807) : Calls Try.prog 69 #[.int .i64 a, .int .i64 b] w fun r w' => r = .returned (.int .i64 (floorDiv a b)) ∧ w = w' := by
  by_cases hb : b < 1
  · go_enter Try.func69, Try.ntmps69
    go_wp2
    go_ret
    exact ⟨by simp [floorDiv, hb], rfl⟩
  · have hb0 : ¬ b = 0 := by omega
    have HP := Lib.hid (fd_pos (a := a) hb)
    by_cases h0 : 0 ≤ a
    · have hm : ¬ a % b < 0 := by have := Int.emod_nonneg a hb0; omega
      go_enter Try.func69, Try.ntmps69
      go_wp2
      go_ret
      exact ⟨by rw [HP.out]; rfl, rfl⟩
    · have hbd := ediv_bd (a := a) (b := b) (A := 9223372036854775808) (by omega) (by omega)
      have hneg : a / b < 0 := Int.ediv_neg_of_neg_of_pos (by omega) (by omega)
      rcases tmod_cases (a := a) (b := b) (by omega) (by omega) with ⟨hm, he⟩ | ⟨hm, he⟩
      · have hr : -9223372036854775807 ≤ a.tdiv b ∧ a.tdiv b ≤ 9223372036854775807 := by omega
        have HE := Lib.hid he
        clear he hbd hneg
        go_enter Try.func69, Try.ntmps69
        go_wp2
        go_ret
        exact ⟨by rw [HP.out, ← HE.out]; rfl, rfl⟩
      · have HE := Lib.hid he
        clear he hbd hneg
        go_enter Try.func69, Try.ntmps69
        go_wp2
        go_ret
        exact ⟨by rw [HP.out, ← HE.out]; rfl, rfl⟩
set_option maxRecDepth 100000 in
set_option maxHeartbeats 400000 in
theorem sFloorDiv_c (a b : Int) (w : World) (ha : -9223372036854775808 ≤ a ∧ a ≤ 9223372036854775807) : Calls Try.prog 74 #[.int .i64 a, .int .i64 b] w fun r w' => r = .returned (.int .i64 (floorDiv a b)) ∧ w = w' := by
  by_cases hb : b < 1
  · go_enter Try.func74, Try.ntmps74
    go_wp2
    go_ret
    exact ⟨by simp [floorDiv, hb], rfl⟩
  · have hb0 : ¬ b = 0 := by omega
    have HP := Lib.hid (fd_pos (a := a) hb)
    by_cases h0 : 0 ≤ a
    · have hm : ¬ a % b < 0 := by have := Int.emod_nonneg a hb0; omega
      go_enter Try.func74, Try.ntmps74
      go_wp2
      go_ret
      exact ⟨by rw [HP.out]; rfl, rfl⟩
    · have hbd := ediv_bd (a := a) (b := b) (A := 9223372036854775808) (by omega) (by omega)
      have hneg : a / b < 0 := Int.ediv_neg_of_neg_of_pos (by omega) (by omega)
      rcases tmod_cases (a := a) (b := b) (by omega) (by omega) with ⟨hm, he⟩ | ⟨hm, he⟩
      · have hr : -9223372036854775807 ≤ a.tdiv b ∧ a.tdiv b ≤ 9223372036854775807 := by omega
        have HE := Lib.hid he
        clear he hbd hneg
        go_enter Try.func74, Try.ntmps74
        go_wp2
        go_ret
        exact ⟨by rw [HP.out, ← HE.out]; rfl, rfl⟩
      · have HE := Lib.hid he
        clear he hbd hneg
        go_enter Try.func74, Try.ntmps74
        go_wp2
        go_ret
        exact ⟨by rw [HP.out, ← HE.out]; rfl, rfl⟩

set_option maxRecDepth 100000 in
set_option maxHeartbeats 1000000 in
theorem iWeightsOk_c (A : Option Addr) (c : Nat) (zs : List Int) (w : World) (h : Ints w A zs) (hn : zs.length ≤ 1048576) :
    Calls Try.prog 115 #[.slice A zs.length c] w fun r w' => r = .returned (.bool (weightsOk zs)) ∧ Bel w w' := by
  go_enter Try.func115, Try.ntmps115
  go_wp2_with fail
  go_loopw [7] (fun i wr => ∃ (k : Nat), k ≤ zs.length ∧ i = .int .i64 k ∧ (∀ j, j < k → inB (at_ zs j) 0 1073741824 = true) ∧ Bel w wr) (fun i _ => zs.length - (intOf i).toNat)
  case atStart => exact ⟨0, Nat.zero_le _, by go_num, fun j hj => absurd hj (Nat.not_lt_zero _), Bel.refl w⟩
  case round =>
    obtain ⟨k, hk, rfl, hx, hb⟩ := hrel
    have hX := Lib.hid hx
    clear hx
    by_cases hlt : k < zs.length
    · obtain ⟨b, o, rfl, hbl, hc⟩ := h k hlt
      have hcA : wr.cell? ⟨b, o + k, none⟩ = some (.int .i64 (at_ zs k)) := (hb.cell _ _ hbl).trans (hc k hlt)
      clear hc
      cases he : inB (at_ zs k) 0 1073741824 with
      | true =>
        go_wp2_with (go_at_call 68; refine (in_c _ _ _ _).mono ?_; rintro e w' ⟨rfl, rfl⟩)
        go_roundw
        case rel => exact ⟨k + 1, by omega, by go_num, fun j hj => (by rcases Nat.lt_succ_iff_lt_or_eq.1 hj with h | h; exact hX.out j h; subst h; exact he), hb⟩
        case measure => simp [intOf]; omega
      | false =>
        go_wp2_with (go_at_call 68; refine (in_c _ _ _ _).mono ?_; rintro e w' ⟨rfl, rfl⟩)
        go_ret
        refine ⟨?_, hb⟩
        simp [weightsOk, allIn_false hlt he]
    · have hA : allIn zs 0 1073741824 = true := allIn_true fun j hj => hX.out j (by omega)
      have HA := Lib.hid hA
      clear hA
      by_cases h64 : zs.length ≤ 64
      · have h64' : decide ((zs.length : Int) ≤ 64) = true := by simp; omega
        go_wp2
        go_ret
        exact ⟨by simp [weightsOk, HA.out, h64], hb⟩
      · have h64' : decide ((zs.length : Int) ≤ 64) = false := by simp; omega
        go_wp2
        go_ret
        exact ⟨by simp [weightsOk, h64], hb⟩
set_option maxRecDepth 100000 in
set_option maxHeartbeats 1000000 in
theorem sWeightsOk_c (A : Option Addr) (c : Nat) (zs : List Int) (w : World) (h : Ints w A zs) (hn : zs.length ≤ 1048576) :
    Calls Try.prog 116 #[.slice A zs.length c] w fun r w' => r = .returned (.bool (weightsOk zs)) ∧ Bel w w' := by
  go_enter Try.func116, Try.ntmps116
  go_wp2_with fail
  go_loopw [3] (fun i wr => ∃ (k : Nat), k ≤ zs.length ∧ i = .int .i64 k ∧ (∀ j, j < k → inB (at_ zs j) 0 1073741824 = true) ∧ Bel w wr) (fun i _ => zs.length - (intOf i).toNat)
  case atStart => exact ⟨0, Nat.zero_le _, by go_num, fun j hj => absurd hj (Nat.not_lt_zero _), Bel.refl w⟩
  case round =>
    obtain ⟨k, hk, rfl, hx, hb⟩ := hrel
    have hX := Lib.hid hx
    clear hx
    by_cases hlt : k < zs.length
    · obtain ⟨b, o, rfl, hbl, hc⟩ := h k hlt
      have hcA : wr.cell? ⟨b, o + k, none⟩ = some (.int .i64 (at_ zs k)) := (hb.cell _ _ hbl).trans (hc k hlt)
      clear hc
      cases he : inB (at_ zs k) 0 1073741824 with
      | true =>
        go_wp2_with (go_at_call 73; refine (l01In_c _ _ _ _).mono ?_; rintro e w' ⟨rfl, rfl⟩)
        go_roundw
        case rel => exact ⟨k + 1, by omega, by go_num, fun j hj => (by rcases Nat.lt_succ_iff_lt_or_eq.1 hj with h | h; exact hX.out j h; subst h; exact he), hb⟩
        case measure => simp [intOf]; omega
      | false =>
        go_wp2_with (go_at_call 73; refine (l01In_c _ _ _ _).mono ?_; rintro e w' ⟨rfl, rfl⟩)
        go_ret
        refine ⟨?_, hb⟩
        simp [weightsOk, allIn_false hlt he]
    · have hA : allIn zs 0 1073741824 = true := allIn_true fun j hj => hX.out j (by omega)
      have HA := Lib.hid hA
      clear hA
      by_cases h64 : zs.length ≤ 64
      · have h64' : decide ((zs.length : Int) ≤ 64) = true := by simp; omega
        go_wp2
        go_ret
        exact ⟨by simp [weightsOk, HA.out, h64], hb⟩
      · have h64' : decide ((zs.length : Int) ≤ 64) = false := by simp; omega
        go_wp2
        go_ret
        exact ⟨by simp [weightsOk, h64], hb⟩

theorem sharesTo_succ (n : Int) (ws : List Int) (k : Nat) : sharesTo n ws (k + 1) = sharesTo n ws k ++ [shareAt n ws k] := by
  simp [sharesTo, List.range_succ]
theorem sharesTo_length (n : Int) (ws : List Int) (k : Nat) : (sharesTo n ws k).length = k := by simp [sharesTo]

/-- what the second loop of Shares needs of its numbers -/
theorem share_facts {n : Int} {ws : List Int} (h : weightsOk ws = true) {k : Nat} (hk : k < ws.length) :
    (0 ≤ prefixSum ws k ∧ prefixSum ws k ≤ 68719476736) ∧ (0 ≤ at_ ws k ∧ at_ ws k ≤ 1073741824) ∧
    (-72057594037927936 * 2 ≤ signed n * (prefixSum ws k + at_ ws k) ∧ signed n * (prefixSum ws k + at_ ws k) ≤ 72057594037927936 * 2) ∧
    (-72057594037927936 * 2 ≤ signed n * prefixSum ws k ∧ signed n * prefixSum ws k ≤ 72057594037927936 * 2) ∧
    (-72057594037927936 * 2 ≤ floorDiv (signed n * (prefixSum ws k + at_ ws k)) (prefixSum ws ws.length) ∧ floorDiv (signed n * (prefixSum ws k + at_ ws k)) (prefixSum ws ws.length) ≤ 72057594037927936 * 2) ∧
    (-72057594037927936 * 2 ≤ floorDiv (signed n * prefixSum ws k) (prefixSum ws ws.length) ∧ floorDiv (signed n * prefixSum ws k) (prefixSum ws ws.length) ≤ 72057594037927936 * 2) := by
  have h1 := prefixSum_bd h k (by omega)
  have h2 := (weights_at h).2 k hk
  have h3 := (weights_at h).1
  have hs := signed_bd n
  have m1 := mul_bd (a := signed n) (b := prefixSum ws k + at_ ws k) (A := 1048576) (B := 137438953472) (by omega) (by omega) (by omega)
  have m2 := mul_bd (a := signed n) (b := prefixSum ws k) (A := 1048576) (B := 137438953472) (by omega) (by omega) (by omega)
  have f1 := floorDiv_bd (a := signed n * (prefixSum ws k + at_ ws k)) (A := 144115188075855872) (prefixSum ws ws.length) (by omega)
  have f2 := floorDiv_bd (a := signed n * prefixSum ws k) (A := 144115188075855872) (prefixSum ws ws.length) (by omega)
  omega

set_option maxRecDepth 100000 in
set_option maxHeartbeats 2000000 in
theorem iShares_c (n : Int) (A : Option Addr) (c : Nat) (ws : List Int) (w : World) (h : Ints w A ws) (hn : ws.length ≤ 1048576) :
    Calls Try.prog 99 #[.int .i64 n, .slice A ws.length c] w fun r w' => ∃ v, r = .returned v ∧ w'.ownsRow w.heap.size 3 1 v (shares n ws).length (VI (shares n ws)) ∧ Bel w w' := by
  have ho0 : (w).ownsRow w.heap.size 3 1 (.slice none 0 0) 0 (VI []) := own_nil _ _ _
  have hb0 : Bel w (w) := by
    repeat (first | exact Bel.refl _ | assumption | refine Bel.alloc ?_ _ | refine Bel.drew ?_ | refine Bel.drewN ?_ _ | refine Bel.trans ?_ (by assumption) | refine Bel.setCell ?_ (by first | (simp; done) | (simp; omega) | (simp at *; omega)) _)
  cases hw : weightsOk ws with
  | false =>
    have hs : shares n ws = [] := by simp [shares, hw]
    rw [hs]
    go_enter Try.func99, Try.ntmps99
    go_wp2_with fail
    refine (iWeightsOk_c _ _ _ _ (h.keep hb0) hn).mono ?_; rintro e w1 ⟨rfl, hb1⟩
    go_wp2_with fail
    go_ret
    exact ⟨_, rfl, by first | exact own_nil _ _ _ | exact own_keep ho0 hb1, hb0.trans hb1⟩
  | true =>
    have hs : shares n ws = sharesTo n ws ws.length := by simp [shares, hw]
    rw [hs, sharesTo_length]
    have h64 := (weights_at hw).1
    go_enter Try.func99, Try.ntmps99
    go_wp2_with fail
    refine (iWeightsOk_c _ _ _ _ (h.keep hb0) hn).mono ?_; rintro e w1 ⟨rfl, hb1⟩
    have hbw := hb0.trans hb1
    have ho1 := own_keep ho0 hb1
    have HW := Lib.hid hw
    clear hs
    go_wp2_with (first | (go_at_call 105; refine (isigned_c _ _).mono ?_; rintro e w' ⟨rfl, rfl⟩))
    clear hw
    go_loopw [5, 19] (fun s i wr => ∃ (k : Nat), k ≤ ws.length ∧ i = .int .i64 k ∧ s = .int .i64 (prefixSum ws k) ∧ Bel w wr ∧ wr.ownsRow w.heap.size 3 1 (.slice none 0 0) 0 (VI [])) (fun _ i _ => ws.length - (intOf i).toNat)
    case atStart => exact ⟨0, Nat.zero_le _, by go_num, rfl, hbw, ho1⟩
    case round =>
      obtain ⟨k, hk, rfl, rfl, hb, ho⟩ := hrel
      have hp := prefixSum_bd HW.out k hk
      by_cases hlt : k < ws.length
      · obtain ⟨b, o, rfl, hbl, hc⟩ := h k hlt
        have hcA : wr.cell? ⟨b, o + k, none⟩ = some (.int .i64 (at_ ws k)) := (hb.cell _ _ hbl).trans (hc k hlt)
        have hz := (weights_at HW.out).2 k hlt
        clear hc
        go_wp2
        go_roundw
        case rel => exact ⟨k + 1, by omega, by go_num, rfl, hb, ho⟩
        case measure => simp [intOf]; omega
      · obtain rfl : k = ws.length := by omega
        clear hp
        go_wp2_with (first | (go_at_call 105; refine (isigned_c _ _).mono ?_; rintro e w' ⟨rfl, rfl⟩))
        obtain ⟨wo, rfl⟩ : ∃ wo : World, wo = wr := ⟨_, rfl⟩
        go_loopw [8, 9, 29] (fun out s i wr => ∃ (k : Nat), k ≤ ws.length ∧ i = .int .i64 k ∧ s = .int .i64 (prefixSum ws k) ∧ Bel w wr ∧ wr.ownsRow w.heap.size 3 1 out k (VI (sharesTo n ws k))) (fun _ _ i _ => ws.length - (intOf i).toNat)
        case atStart => exact ⟨0, Nat.zero_le _, by go_num, rfl, hb, ho⟩
        case round =>
          obtain ⟨k, hk, rfl, rfl, hb, ho⟩ := hrel
          by_cases hlt : k < ws.length
          · obtain ⟨b, o, rfl, hbl, hc⟩ := h k hlt
            have hcA : wr.cell? ⟨b, o + k, none⟩ = some (.int .i64 (at_ ws k)) := (hb.cell _ _ hbl).trans (hc k hlt)
            obtain ⟨f1, f2, f3, f4, f5, f6⟩ := share_facts (n := n) HW.out hlt
            clear hc
            go_wp2_with (first
              | (go_at_call 69; refine (iFloorDiv_c _ _ _ (by omega)).mono ?_; rintro e w' ⟨rfl, rfl⟩)
              | (at_builtin; refine app1 rfl (.tmp 33) (.tmp 47) rfl w.heap.size _ k _ rfl (ho.alloc _) wr.heap.size _ rfl (World.cell?_alloc_new _ _ _ _) (by omega) (hb.alloc _).sz ?_; intro v' w' ho' hg'))
            go_roundw
            case rel =>
              refine ⟨k + 1, by omega, by go_num, rfl, (hb.alloc _).own (Nat.le_refl _) (ho.alloc _) hg', ?_⟩
              rw [sharesTo_succ, ← VI_snoc]
              exact ho'
            case measure => simp [intOf]; omega
          · obtain rfl : k = ws.length := by omega
            go_wp2
            go_ret
            exact ⟨_, rfl, ho, hb⟩
set_option maxRecDepth 100000 in
set_option maxHeartbeats 2000000 in
theorem sShares_c (n : Int) (A : Option Addr) (c : Nat) (ws : List Int) (w : World) (h : Ints w A ws) (hn : ws.length ≤ 1048576) :
    Calls Try.prog 103 #[.int .i64 n, .slice A ws.length c] w fun r w' => ∃ v, r = .returned v ∧ w'.ownsRow w.heap.size 3 1 v (shares n ws).length (VI (shares n ws)) ∧ Bel w w' := by
  have ho0 : (w.alloc (.cells #[] 3)).ownsRow w.heap.size 3 1 (.slice (some ⟨w.heap.size, 0, none⟩) 0 0) 0 (VI []) := World.ownsRow_lit w #[] 0 (Nat.le_refl _) (by unfold maxLen; omega) rfl
  have hb0 : Bel w (w.alloc (.cells #[] 3)) := by
    repeat (first | exact Bel.refl _ | assumption | refine Bel.alloc ?_ _ | refine Bel.drew ?_ | refine Bel.drewN ?_ _ | refine Bel.trans ?_ (by assumption) | refine Bel.setCell ?_ (by first | (simp; done) | (simp; omega) | (simp at *; omega)) _)
  cases hw : weightsOk ws with
  | false =>
    have hs : shares n ws = [] := by simp [shares, hw]
    rw [hs]
    go_enter Try.func103, Try.ntmps103
    go_wp2_with fail
    refine (sWeightsOk_c _ _ _ _ (h.keep hb0) hn).mono ?_; rintro e w1 ⟨rfl, hb1⟩
    go_wp2_with fail
    go_ret
    exact ⟨_, rfl, by first | exact own_nil _ _ _ | exact own_keep ho0 hb1, hb0.trans hb1⟩
  | true =>
    have hs : shares n ws = sharesTo n ws ws.length := by simp [shares, hw]
    rw [hs, sharesTo_length]
    have h64 := (weights_at hw).1
    go_enter Try.func103, Try.ntmps103
    go_wp2_with fail
    refine (sWeightsOk_c _ _ _ _ (h.keep hb0) hn).mono ?_; rintro e w1 ⟨rfl, hb1⟩
    have hbw := hb0.trans hb1
    have ho1 := own_keep ho0 hb1
    have HW := Lib.hid hw
    clear hs
    go_wp2_with (first | (go_at_call 117; refine (l02Len_c _ _).mono ?_; rintro e w' ⟨rfl, rfl⟩))
    clear hw
    go_loopw [6, 7] (fun s i wr => ∃ (k : Nat), k ≤ ws.length ∧ i = .int .i64 k ∧ s = .int .i64 (prefixSum ws k) ∧ Bel w wr ∧ wr.ownsRow w.heap.size 3 1 (.slice (some ⟨w.heap.size, 0, none⟩) 0 0) 0 (VI [])) (fun _ i _ => ws.length - (intOf i).toNat)
    case atStart => exact ⟨0, Nat.zero_le _, by go_num, rfl, hbw, ho1⟩
    case round =>
      obtain ⟨k, hk, rfl, rfl, hb, ho⟩ := hrel
      have hp := prefixSum_bd HW.out k hk
      by_cases hlt : k < ws.length
      · obtain ⟨b, o, rfl, hbl, hc⟩ := h k hlt
        have hcA : wr.cell? ⟨b, o + k, none⟩ = some (.int .i64 (at_ ws k)) := (hb.cell _ _ hbl).trans (hc k hlt)
        have hz := (weights_at HW.out).2 k hlt
        clear hc
        go_wp2
        go_roundw
        case rel => exact ⟨k + 1, by omega, by go_num, rfl, hb, ho⟩
        case measure => simp [intOf]; omega
      · obtain rfl : k = ws.length := by omega
        clear hp
        go_wp2_with (first | (go_at_call 117; refine (l02Len_c _ _).mono ?_; rintro e w' ⟨rfl, rfl⟩))
        obtain ⟨wo, rfl⟩ : ∃ wo : World, wo = wr := ⟨_, rfl⟩
        go_loopw [5, 8, 9] (fun out s i wr => ∃ (k : Nat), k ≤ ws.length ∧ i = .int .i64 k ∧ s = .int .i64 (prefixSum ws k) ∧ Bel w wr ∧ wr.ownsRow w.heap.size 3 1 out k (VI (sharesTo n ws k))) (fun _ _ i _ => ws.length - (intOf i).toNat)
        case atStart => exact ⟨0, Nat.zero_le _, by go_num, rfl, hb, ho⟩
        case round =>
          obtain ⟨k, hk, rfl, rfl, hb, ho⟩ := hrel
          by_cases hlt : k < ws.length
          · obtain ⟨b, o, rfl, hbl, hc⟩ := h k hlt
            have hcA : wr.cell? ⟨b, o + k, none⟩ = some (.int .i64 (at_ ws k)) := (hb.cell _ _ hbl).trans (hc k hlt)
            obtain ⟨f1, f2, f3, f4, f5, f6⟩ := share_facts (n := n) HW.out hlt
            clear hc
            go_wp2_with (first
              | (go_at_call 74; refine (sFloorDiv_c _ _ _ (by omega)).mono ?_; rintro e w' ⟨rfl, rfl⟩)
              | (at_builtin; refine app1 rfl (.tmp 42) (.tmp 54) rfl w.heap.size _ k _ rfl (ho.alloc _) wr.heap.size _ rfl (World.cell?_alloc_new _ _ _ _) (by omega) (hb.alloc _).sz ?_; intro v' w' ho' hg'))
            go_roundw
            case rel =>
              refine ⟨k + 1, by omega, by go_num, rfl, (hb.alloc _).own (Nat.le_refl _) (ho.alloc _) hg', ?_⟩
              rw [sharesTo_succ, ← VI_snoc]
              exact ho'
            case measure => simp [intOf]; omega
          · obtain rfl : k = ws.length := by omega
            go_wp2
            go_ret
            exact ⟨_, rfl, ho, hb⟩
end Go.Proofs.Ytmipjhnjlpmidaa
