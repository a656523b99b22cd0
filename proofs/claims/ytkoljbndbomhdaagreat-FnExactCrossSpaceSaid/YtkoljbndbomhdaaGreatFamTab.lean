/- Tables as families. -/
import Derived.Test.YtkoljbndbomhdaaGreatFamT
import Derived.Test.YtkoljbndbomhdaaGreatMarkRule
namespace Go.Proofs.YtkoljbndbomhdaaGreat
open Go.RowKit Go.ChangeShapes Go.WideShapes
set_option linter.unusedVariables false
set_option linter.unusedSimpArgs false

def tabF (g n : Nat) (L : List Rec) : List Row := [⟨112, 3, .slice (some ⟨g, 0, none⟩) n n, n, RV k_rule L⟩]
theorem tabF_own {w : World} {base g n : Nat} {L : List Rec} {R : List Row} (h : Fam w base (tabF g n L ++ R)) : w.ownsRow base 112 3 (.slice (some ⟨g, 0, none⟩) n n) n (RV k_rule L) := h.1 ⟨112, 3, .slice (some ⟨g, 0, none⟩) n n, n, RV k_rule L⟩ (by simp [tabF])
theorem tabF_of {w : World} {base g n : Nat} {L : List Rec} (h : w.ownsRow base 112 3 (.slice (some ⟨g, 0, none⟩) n n) n (RV k_rule L)) : Fam w base (tabF g n L) := Fam.one (r := ⟨112, 3, .slice (some ⟨g, 0, none⟩) n n, n, RV k_rule L⟩) h
end Go.Proofs.YtkoljbndbomhdaaGreat
