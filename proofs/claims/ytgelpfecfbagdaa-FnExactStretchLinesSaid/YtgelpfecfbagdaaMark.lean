/- markIntS, heldIntS: the numbers written, and read back. -/
import Derived.Test.YtgelpfecfbagdaaInts
import Derived.Maps.AppendAt
namespace Go.Proofs.Ytgelpfecfbagdaa
open Go.RowKit Go.ChangeShapes Go.WideShapes
set_option linter.unusedVariables false
set_option linter.unusedSimpArgs false

def marks (k : Int) (n : Nat) : List Int := (List.range n).map fun i : Nat => k + (i : Int)
theorem marks_length (k : Int) (n : Nat) : (marks k n).length = n := by simp [marks]
theorem marks_at (k : Int) {n i : Nat} (h : i < n) : at_ (marks k n) i = k + (i : Int) := by simp [at_, marks, List.getD, h]

theorem own_ne {a b : World} {base1 base2 n1 n2 s1 s2 : Nat} {e1 e2 : TypeId} {v1 v2 : Value} {xs1 xs2 : List Value} (h1 : a.ownsRow base1 e1 s1 v1 n1 xs1) (h2 : b.ownsRow base2 e2 s2 v2 n2 xs2) (h : a.heap.size ≤ base2) :
    v1.ownBlock = none ∨ v1.ownBlock ≠ v2.ownBlock := by
  cases hv : v1.ownBlock with
  | none => exact .inl rfl
  | some k =>
    right
    intro e
    have l1 := h1.lt k hv
    have l2 := h2.lt k e.symm
    omega
theorem own_ne' {a b : World} {base1 base2 n1 n2 s1 s2 : Nat} {e1 e2 : TypeId} {v1 v2 : Value} {xs1 xs2 : List Value} (h1 : a.ownsRow base1 e1 s1 v1 n1 xs1) (h2 : b.ownsRow base2 e2 s2 v2 n2 xs2) (h : a.heap.size ≤ base2) :
    v2.ownBlock = none ∨ v2.ownBlock ≠ v1.ownBlock := by
  cases hv : v2.ownBlock with
  | none => exact .inl rfl
  | some k =>
    right
    intro e
    have l1 := h1.lt k e.symm
    have l2 := h2.lt k hv
    omega

set_option maxHeartbeats 1000000 in
theorem markIntS_c (base : Nat) (v : Value) (n : Nat) (zs : List Int) (m : Int) (w : World) (ho : w.ownsRow base 3 1 v n (VI zs)) (hn : zs.length ≤ 4194304) (hm : 0 ≤ m ∧ m ≤ 4611686018427387904) :
    Calls Try.prog 31 #[v, .int .i64 m] w fun r w' => r = .returned (.int .i64 (m + (zs.length : Int))) ∧ w'.ownsRow base 3 1 v n (VI (marks m zs.length)) ∧ w.grownBy w' v.ownBlock := by
  obtain ⟨A, c, rfl, rfl, hc1, hc2, hI⟩ := own_open ho
  go_enter Try.func31, Try.ntmps31
  go_wp2_with fail
  go_loopw [1, 5] (fun s i wr => ∃ (k : Nat) (xs : List Value), k ≤ zs.length ∧ i = .int .i64 k ∧ s = .int .i64 (m + (k : Int)) ∧ wr.ownsRow base 3 1 (.slice A zs.length c) zs.length xs ∧ (∀ j, j < k → xs[j]? = some (.int .i64 (m + (j : Int)))) ∧ w.grownBy wr (Value.slice A zs.length c).ownBlock) (fun _ i _ => zs.length - (intOf i).toNat)
  case atStart => exact ⟨0, _, Nat.zero_le _, by go_num, by go_num, ho, fun j hj => absurd hj (Nat.not_lt_zero _), World.grownBy.refl w _⟩
  case round =>
    obtain ⟨k, xs, hk, rfl, rfl, ho1, hx, hg⟩ := hrel
    have hX := Lib.hid hx
    clear hx
    by_cases hlt : k < zs.length
    · obtain ⟨b, o, rfl, hbl, -⟩ := hI k hlt
      obtain rfl : o = 0 := own_off ho1 (by omega)
      obtain ⟨u, hu⟩ : ∃ u, wr.cell? ⟨b, k, none⟩ = some u := ⟨_, by rw [ho1.cellAt k (by omega)]; exact List.getElem?_eq_getElem (by have := ho1.1; omega)⟩
      have hfz : wr.frozen? ⟨b, k, none⟩ = false := ho1.frozenAt k
      have HS := Lib.hid (ho1.stored k (.int .i64 (m + (k : Int))))
      have HG := Lib.hid hg
      clear hg
      go_wp2
      go_roundw
      case rel =>
        refine ⟨k + 1, _, by omega, by go_num, by go_num, HS.out.1, fun j hj => ?_, HG.out.trans HS.out.2⟩
        rw [List.getElem?_set]
        by_cases e : k = j
        · rw [if_pos e, if_pos (by have := ho1.1; omega), e]
        · rw [if_neg e]; exact hX.out j (by omega)
      case measure => simp [intOf]; omega
    · obtain rfl : k = zs.length := by omega
      go_wp2
      go_ret
      refine ⟨rfl, ?_, hg⟩
      rw [← VI_ext (xs := xs) (by rw [marks_length]; have := ho1.1; omega) (fun j hj => by rw [marks_length] at hj; rw [marks_at _ hj]; exact hX.out j hj)]
      exact ho1
set_option maxHeartbeats 1000000 in
theorem heldIntS_c (A : Option Addr) (c n : Nat) (m : Int) (w : World) (h : Ints w A (marks m n)) (hn : n ≤ 4194304) (hm : 0 ≤ m ∧ m ≤ 4611686018427387904) :
    Calls Try.prog 32 #[.slice A n c, .int .i64 m] w fun r w' => r = .returned (.int .i64 (m + (n : Int))) ∧ Bel w w' := by
  go_enter Try.func32, Try.ntmps32
  go_wp2_with fail
  go_loopw [1, 5] (fun s i wr => ∃ (k : Nat), k ≤ n ∧ i = .int .i64 k ∧ s = .int .i64 (m + (k : Int)) ∧ Bel w wr) (fun _ i _ => n - (intOf i).toNat)
  case atStart => exact ⟨0, Nat.zero_le _, by go_num, by go_num, Bel.refl w⟩
  case round =>
    obtain ⟨k, hk, rfl, rfl, hb⟩ := hrel
    by_cases hlt : k < n
    · obtain ⟨b, o, rfl, hbl, hc⟩ := h k (by rw [marks_length]; exact hlt)
      have hcA : wr.cell? ⟨b, o + k, none⟩ = some (.int .i64 (m + (k : Int))) := by rw [← marks_at m hlt]; exact (hb.cell _ _ hbl).trans (hc k (by rw [marks_length]; exact hlt))
      clear hc
      go_wp2
      go_roundw
      case rel => exact ⟨k + 1, by omega, by go_num, by go_num, hb⟩
      case measure => simp [intOf]; omega
    · obtain rfl : k = n := by omega
      go_wp2
      go_ret
      exact ⟨rfl, hb⟩
theorem eqIntS_same (A B : Option Addr) (c d n : Nat) (zs : List Int) (w : World) (ha : Ints w A zs) (hb : Ints w B zs) (hl : n = zs.length) (hn : n ≤ 1048576) :
    Calls Try.prog 29 #[.slice A n c, .slice B n d] w fun r w' => r = .returned (.bool true) ∧ Bel w w' := by
  subst hl
  refine (eqIntS_c _ _ _ _ _ _ _ ha hb hn hn).mono ?_
  rintro e w' ⟨rfl, h⟩
  exact ⟨by simp, h⟩
theorem markIntS_n (base : Nat) (v : Value) (n : Nat) (zs : List Int) (m : Int) (w : World) (ho : w.ownsRow base 3 1 v n (VI zs)) (hn : n ≤ 4194304) (hm : 0 ≤ m ∧ m ≤ 4611686018427387904) :
    Calls Try.prog 31 #[v, .int .i64 m] w fun r w' => r = .returned (.int .i64 (m + (n : Int))) ∧ w'.ownsRow base 3 1 v n (VI (marks m n)) ∧ w.grownBy w' v.ownBlock := by
  have hl : n = zs.length := by have := ho.1; rw [VI_length] at this; omega
  subst hl
  exact markIntS_c base v _ zs m w ho hn hm
end Go.Proofs.Ytgelpfecfbagdaa
