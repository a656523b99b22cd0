/- Tables as families. -/
import Derived.Test.YtcdneamoemmohaaFamT
import Derived.Test.YtcdneamoemmohaaMarkRule
namespace Go.Proofs.Ytcdneamoemmohaa
open Go.RowKit Go.ChangeShapes Go.WideShapes
set_option linter.unusedVariables false
set_option linter.unusedSimpArgs false

def tabF (g n : Nat) (L : List Rec) : List Row := [⟨106, 3, .slice (some ⟨g, 0, none⟩) n n, n, RV k_rule L⟩]
theorem tabF_own {w : World} {base g n : Nat} {L : List Rec} {R : List Row} (h : Fam w base (tabF g n L ++ R)) : w.ownsRow base 106 3 (.slice (some ⟨g, 0, none⟩) n n) n (RV k_rule L) := h.1 ⟨106, 3, .slice (some ⟨g, 0, none⟩) n n, n, RV k_rule L⟩ (by simp [tabF])
theorem tabF_of {w : World} {base g n : Nat} {L : List Rec} (h : w.ownsRow base 106 3 (.slice (some ⟨g, 0, none⟩) n n) n (RV k_rule L)) : Fam w base (tabF g n L) := Fam.one (r := ⟨106, 3, .slice (some ⟨g, 0, none⟩) n n, n, RV k_rule L⟩) h
set_option maxRecDepth 100000 in
set_option maxHeartbeats 1000000 in
theorem markTable_c (base g n : Nat) (L : List Rec) (m : Int) (R : List Row) (w : World) (h : Fam w base (tabF g n L ++ R)) (hs : base ≤ w.heap.size) (hn : n ≤ 1048576) (hL : n = L.length) (hm : 0 ≤ m ∧ m ≤ 4611686018427387904) :
    Calls Try.prog 29 #[tableV (some ⟨g, 0, none⟩) n n, .int .i64 m] w fun r w' => r = .returned (.int .i64 (m + 3 * (n : Int))) ∧ Fam w' base (tabF g n (marksR 3 m n) ++ R) ∧ Below base w w' := by
  have HL := Lib.hid hL
  clear hL
  have h1 := h.keep ((Bel.refl w).alloc (.cells #[.slice (some ⟨g, 0, none⟩) n n] 45))
  go_enter Try.func29, Try.ntmps29
  go_wp2_with fail
  refine (markRuleS_c base _ _ _ _ _ (tabF_own h1) hn HL.out hm).mono ?_; rintro e w1 ⟨rfl, ho, hg⟩
  have hF := h1.write (i := 0) (r := ⟨106, 3, .slice (some ⟨g, 0, none⟩) n n, n, RV k_rule L⟩) rfl hg ⟨106, 3, .slice (some ⟨g, 0, none⟩) n n, n, RV k_rule (marksR 3 m n)⟩ (.inl rfl) ho
  have hB := h1.below (i := 0) (r := ⟨106, 3, .slice (some ⟨g, 0, none⟩) n n, n, RV k_rule L⟩) rfl hg (by simp; omega)
  go_wp2_with fail
  go_ret
  exact ⟨rfl, hF, Below.trans ((Below.refl base w).alloc hs _) hB⟩
end Go.Proofs.Ytcdneamoemmohaa
