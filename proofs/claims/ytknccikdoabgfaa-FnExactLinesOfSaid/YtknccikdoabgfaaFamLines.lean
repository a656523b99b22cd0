/- The joint of lines and families. -/
import Derived.Test.YtknccikdoabgfaaLongest
import Derived.Test.YtknccikdoabgfaaFamItem
namespace Go.Proofs.Ytknccikdoabgfaa
theorem totLen_le {LL : List (List Int)} {B : Nat} (h : ∀ j, j < LL.length → (LL.getD j []).length ≤ B) : totLen LL ≤ LL.length * B := by
  have : ∀ k, k ≤ LL.length → totTo LL k ≤ k * B := by
    intro k
    induction k with
    | zero => intro _; simp [totTo, totLen]
    | succ k ih =>
      intro hk
      have h1 := ih (by omega)
      have h2 := h k (by omega)
      rw [totTo_succ (by omega), Nat.add_mul]
      omega
  have h3 := this LL.length (Nat.le_refl _)
  rwa [show totTo LL LL.length = totLen LL by simp [totTo]] at h3
theorem linesOf_tot (L : List Rec) (gap room : Int) (wraps : Bool) (hn : L.length ≤ 1048576) : totLen (linesOf L gap room wraps) ≤ 1125899906842624 := by
  have h := totLen_le (LL := linesOf L gap room wraps) (B := 1048576) fun j hj => Nat.le_trans (linesOf_at L gap room wraps hj) hn
  have h2 := linesOf_len L gap room wraps
  have := Nat.mul_le_mul_right 1048576 (Nat.le_trans h2 hn)
  omega
end Go.Proofs.Ytknccikdoabgfaa
