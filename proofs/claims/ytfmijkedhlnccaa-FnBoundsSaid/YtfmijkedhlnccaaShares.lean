/- FloorDiv, WeightsOk, Shares, Evenly: both texts return the same numbers. -/
import Derived.Test.YtfmijkedhlnccaaAcross
namespace Go.Proofs.Ytfmijkedhlnccaa
open Go.RowKit
set_option linter.unusedVariables false
set_option linter.unusedSimpArgs false

def floorDiv (a b : Int) : Int := if b < 1 then 0 else a / b
def weightsOk (ws : List Int) : Bool := allIn ws 0 1073741824 && decide (ws.length ≤ 64)
def prefixSum (ws : List Int) : Nat → Int
  | 0 => 0
  | k + 1 => prefixSum ws k + at_ ws k
def shareAt (n : Int) (ws : List Int) (i : Nat) : Int :=
  floorDiv (signed n * (prefixSum ws i + at_ ws i)) (prefixSum ws ws.length) - floorDiv (signed n * prefixSum ws i) (prefixSum ws ws.length)
def sharesTo (n : Int) (ws : List Int) (k : Nat) : List Int := (List.range k).map (shareAt n ws)
def shares (n : Int) (ws : List Int) : List Int := if weightsOk ws then sharesTo n ws ws.length else []
def ones (k : Nat) : List Int := List.replicate k 1
def evenly (n many : Int) : List Int := if 0 ≤ many ∧ many ≤ 64 then shares n (ones many.toNat) else []

theorem inB_iff {n a b : Int} : inB n a b = true ↔ a ≤ n ∧ n ≤ b := by simp [inB]
theorem inB_not {n a b : Int} : inB n a b = false ↔ ¬ (a ≤ n ∧ n ≤ b) := by rw [← inB_iff]; simp

theorem weights_at {ws : List Int} (h : weightsOk ws = true) : ws.length ≤ 64 ∧ ∀ i, i < ws.length → 0 ≤ at_ ws i ∧ at_ ws i ≤ 1073741824 := by
  simp only [weightsOk, Bool.and_eq_true, decide_eq_true_eq] at h
  exact ⟨h.2, fun i hi => inB_iff.1 (allIn_at h.1 hi)⟩
theorem prefixSum_bd {ws : List Int} (h : weightsOk ws = true) : ∀ k, k ≤ ws.length → 0 ≤ prefixSum ws k ∧ prefixSum ws k ≤ 1073741824 * (k : Int) := by
  intro k
  induction k with
  | zero => intro _; simp [prefixSum]
  | succ k ih =>
    intro hk
    have h1 := ih (by omega)
    have h2 := (weights_at h).2 k (by omega)
    simp only [prefixSum]
    omega
theorem mul_bd {a b A B : Int} (ha : -A ≤ a ∧ a ≤ A) (hb : 0 ≤ b ∧ b ≤ B) (hA : 0 ≤ A) : -(A * B) ≤ a * b ∧ a * b ≤ A * B := by
  have h1 : a * b ≤ A * b := Int.mul_le_mul_of_nonneg_right ha.2 hb.1
  have h2 : -A * b ≤ a * b := Int.mul_le_mul_of_nonneg_right ha.1 hb.1
  have h3 : A * b ≤ A * B := Int.mul_le_mul_of_nonneg_left hb.2 hA
  rw [Int.neg_mul] at h2
  omega
theorem ediv_bd {a b A : Int} (ha : -A ≤ a ∧ a ≤ A) (hb : 1 ≤ b) : -A ≤ a / b ∧ a / b ≤ A := by
  have hb0 : b ≠ 0 := by omega
  have e1 := Int.mul_ediv_add_emod a b
  have e2 := Int.emod_nonneg a hb0
  have e3 := Int.emod_lt_of_pos a (show 0 < b by omega)
  rcases Int.lt_or_le a 0 with h | h
  · have h1 : a / b < 0 := Int.ediv_neg_of_neg_of_pos h (by omega)
    have h2 : b * (a / b) ≤ 1 * (a / b) := Int.mul_le_mul_of_nonpos_right hb (by omega)
    have h3 : a ≤ a / b := by
      rw [Int.le_ediv_iff_mul_le (by omega)]
      have h4 : a * b ≤ a * 1 := Int.mul_le_mul_of_nonpos_left (by omega) hb
      omega
    omega
  · have h1 := Int.ediv_nonneg h (show 0 ≤ b by omega)
    have h2 := Int.ediv_le_self b h
    omega
theorem floorDiv_bd {a A : Int} (b : Int) (ha : -A ≤ a ∧ a ≤ A) : -A ≤ floorDiv a b ∧ floorDiv a b ≤ A := by
  unfold floorDiv
  split
  · omega
  · exact ediv_bd ha (by omega)

theorem tmod_cases {a b : Int} (hb : 1 ≤ b) (ha : a < 0) : (a.tmod b < 0 ∧ a.tdiv b - 1 = a / b) ∨ (¬ a.tmod b < 0 ∧ a.tdiv b = a / b) := by
  have e := Int.tdiv_eq_ediv (a := a) (b := b)
  have e1 := Int.mul_tdiv_add_tmod a b
  have e2 := Int.mul_ediv_add_emod a b
  have hs : b.sign = 1 := Int.sign_eq_one_of_pos (by omega)
  have n1 := Int.emod_nonneg a (show b ≠ 0 by omega)
  have n2 := Int.emod_lt_of_pos a (show 0 < b by omega)
  by_cases hd : b ∣ a
  · rw [if_pos (Or.inr hd), Int.add_zero] at e
    right
    have : a % b = 0 := Int.emod_eq_zero_of_dvd hd
    rw [e] at e1
    refine ⟨by omega, e⟩
  · have h0 : a % b ≠ 0 := fun h => hd (Int.dvd_of_emod_eq_zero h)
    rw [if_neg (by rintro (h | h); omega; exact hd h), hs] at e
    left
    rw [e, Int.mul_add] at e1
    refine ⟨by omega, by omega⟩

theorem fd_pos {a b : Int} (h : ¬ b < 1) : floorDiv a b = a / b := by rw [floorDiv, if_neg h]
set_option maxRecDepth 100000 in
set_option maxHeartbeats 400000 in
theorem iFloorDiv_c (a b : Int) (w : World) (ha : -9223372036854775808 ≤ a ∧ a ≤ 9223372036854775807) : Calls Try.prog 59 #[.int .i64 a, .int .i64 b] w fun r w' => r = .returned (.int .i64 (floorDiv a b)) ∧ w = w' := by
  by_cases hb : b < 1
  · go_enter Try.func59, Try.ntmps59
    go_wp2
    go_ret
    exact ⟨by simp [floorDiv, hb], rfl⟩
  · have hb0 : ¬ b = 0 := by omega
    have HP := Lib.hid (fd_pos (a := a) hb)
    by_cases h0 : 0 ≤ a
    · have hm : ¬ a % b < 0 := by have := Int.emod_nonneg a hb0; omega
      go_enter Try.func59, Try.ntmps59
      go_wp2
      go_ret
      exact ⟨by rw [HP.out]; rfl, rfl⟩
    · have hbd := ediv_bd (a := a) (b := b) (A := 9223372036854775808) (by omega) (by omega)
      have hneg : a / b < 0 := Int.ediv_neg_of_neg_of_pos (by omega) (by omega)
      rcases tmod_cases (a := a) (b := b) (by omega) (by omega) with ⟨hm, he⟩ | ⟨hm, he⟩
      · have hr : -9223372036854775807 ≤ a.tdiv b ∧ a.tdiv b ≤ 9223372036854775807 := by omega
        have HE := Lib.hid he
        clear he hbd hneg
        go_enter Try.func59, Try.ntmps59
        go_wp2
        go_ret
        exact ⟨by rw [HP.out, ← HE.out]; rfl, rfl⟩
      · have HE := Lib.hid he
        clear he hbd hneg
        go_enter Try.func59, Try.ntmps59
        go_wp2
        go_ret
        exact ⟨by rw [HP.out, ← HE.out]; rfl, rfl⟩
set_option maxRecDepth 100000 in
set_option maxHeartbeats 400000 in
theorem sFloorDiv_c (a b : Int) (w : World) (ha : -9223372036854775808 ≤ a ∧ a ≤ 9223372036854775807) : Calls Try.prog 60 #[.int .i64 a, .int .i64 b] w fun r w' => r = .returned (.int .i64 (floorDiv a b)) ∧ w = w' := by
  by_cases hb : b < 1
  · go_enter Try.func60, Try.ntmps60
    go_wp2
    go_ret
    exact ⟨by simp [floorDiv, hb], rfl⟩
  · have hb0 : ¬ b = 0 := by omega
    have HP := Lib.hid (fd_pos (a := a) hb)
    by_cases h0 : 0 ≤ a
    · have hm : ¬ a % b < 0 := by have := Int.emod_nonneg a hb0; omega
      go_enter Try.func60, Try.ntmps60
      go_wp2
      go_ret
      exact ⟨by rw [HP.out]; rfl, rfl⟩
    · have hbd := ediv_bd (a := a) (b := b) (A := 9223372036854775808) (by omega) (by omega)
      have hneg : a / b < 0 := Int.ediv_neg_of_neg_of_pos (by omega) (by omega)
      rcases tmod_cases (a := a) (b := b) (by omega) (by omega) with ⟨hm, he⟩ | ⟨hm, he⟩
      · have hr : -9223372036854775807 ≤ a.tdiv b ∧ a.tdiv b ≤ 9223372036854775807 := by omega
        have HE := Lib.hid he
        clear he hbd hneg
        go_enter Try.func60, Try.ntmps60
        go_wp2
        go_ret
        exact ⟨by rw [HP.out, ← HE.out]; rfl, rfl⟩
      · have HE := Lib.hid he
        clear he hbd hneg
        go_enter Try.func60, Try.ntmps60
        go_wp2
        go_ret
        exact ⟨by rw [HP.out, ← HE.out]; rfl, rfl⟩


theorem sharesTo_succ (n : Int) (ws : List Int) (k : Nat) : sharesTo n ws (k + 1) = sharesTo n ws k ++ [shareAt n ws k] := by
  simp [sharesTo, List.range_succ]
theorem sharesTo_length (n : Int) (ws : List Int) (k : Nat) : (sharesTo n ws k).length = k := by simp [sharesTo]

/-- what the second loop of Shares needs of its numbers -/
theorem share_facts {n : Int} {ws : List Int} (h : weightsOk ws = true) {k : Nat} (hk : k < ws.length) :
    (0 ≤ prefixSum ws k ∧ prefixSum ws k ≤ 68719476736) ∧ (0 ≤ at_ ws k ∧ at_ ws k ≤ 1073741824) ∧
    (-72057594037927936 * 2 ≤ signed n * (prefixSum ws k + at_ ws k) ∧ signed n * (prefixSum ws k + at_ ws k) ≤ 72057594037927936 * 2) ∧
    (-72057594037927936 * 2 ≤ signed n * prefixSum ws k ∧ signed n * prefixSum ws k ≤ 72057594037927936 * 2) ∧
    (-72057594037927936 * 2 ≤ floorDiv (signed n * (prefixSum ws k + at_ ws k)) (prefixSum ws ws.length) ∧ floorDiv (signed n * (prefixSum ws k + at_ ws k)) (prefixSum ws ws.length) ≤ 72057594037927936 * 2) ∧
    (-72057594037927936 * 2 ≤ floorDiv (signed n * prefixSum ws k) (prefixSum ws ws.length) ∧ floorDiv (signed n * prefixSum ws k) (prefixSum ws ws.length) ≤ 72057594037927936 * 2) := by
  have h1 := prefixSum_bd h k (by omega)
  have h2 := (weights_at h).2 k hk
  have h3 := (weights_at h).1
  have hs := signed_bd n
  have m1 := mul_bd (a := signed n) (b := prefixSum ws k + at_ ws k) (A := 1048576) (B := 137438953472) (by omega) (by omega) (by omega)
  have m2 := mul_bd (a := signed n) (b := prefixSum ws k) (A := 1048576) (B := 137438953472) (by omega) (by omega) (by omega)
  have f1 := floorDiv_bd (a := signed n * (prefixSum ws k + at_ ws k)) (A := 144115188075855872) (prefixSum ws ws.length) (by omega)
  have f2 := floorDiv_bd (a := signed n * prefixSum ws k) (A := 144115188075855872) (prefixSum ws ws.length) (by omega)
  omega

end Go.Proofs.Ytfmijkedhlnccaa
