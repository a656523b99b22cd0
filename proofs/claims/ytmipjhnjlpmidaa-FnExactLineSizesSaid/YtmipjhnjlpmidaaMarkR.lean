/- The numbers written into a row of flat structs: plain part. -/
import Derived.Test.YtmipjhnjlpmidaaRecs
namespace Go.Proofs.Ytmipjhnjlpmidaa
open Go.RowKit Go.ChangeShapes Go.WideShapes

def markR (C : Nat) (m : Int) (i : Nat) : Rec := ⟨fun j => m + (C : Int) * (i : Int) + (j : Int), fun j => decide ((m + (C : Int) * (i : Int) + (j : Int)) % 3 = 0)⟩
def marksR (C : Nat) (m : Int) (n : Nat) : List Rec := (List.range n).map (markR C m)
theorem marksR_length (C : Nat) (m : Int) (n : Nat) : (marksR C m n).length = n := by simp [marksR]
theorem marksR_at (C : Nat) (m : Int) {n i : Nat} (h : i < n) : rec_ (marksR C m n) i = markR C m i := by simp [rec_, marksR, List.getD, h]
theorem run_step2 {ks : List Bool} {M : List Rec} {xs vs : List Value} {k : Nat} (hl : xs.length = M.length * ks.length) (hk : k < M.length) (hx : ∀ j, j < k * ks.length → xs[j]? = (RV ks M)[j]?) (hv : vs = rcells ks (rec_ M k)) :
    ∀ j, j < (k + 1) * ks.length → (setRun xs (k * ks.length) vs)[j]? = (RV ks M)[j]? := by
  subst hv
  exact run_step hl hk hx
end Go.Proofs.Ytmipjhnjlpmidaa
