/- Families, put in front; groups of one row. -/
import Derived.Test.YtmipjhnjlpmidaaApp
namespace Go.Proofs.Ytmipjhnjlpmidaa
open Go.RowKit Go.ChangeShapes Go.WideShapes
set_option linter.unusedVariables false
set_option linter.unusedSimpArgs false

theorem Fam.f1 {w : World} {base : Nat} {A B C : List Row} (h : Fam w base (A ++ (B ++ C))) : Fam w base (B ++ (A ++ C)) := h.perm (List.perm_append_comm_assoc A B C)
theorem Fam.tail1 {w : World} {base : Nat} {A B : List Row} (h : Fam w base (A ++ B)) : Fam w base B := h.right
theorem Fam.f2 {w : World} {base : Nat} {A B C D : List Row} (h : Fam w base (A ++ (B ++ (C ++ D)))) : Fam w base (C ++ (A ++ (B ++ D))) :=
  (h.perm ((List.perm_append_comm_assoc B C D).append_left A)).perm (List.perm_append_comm_assoc A C (B ++ D))
theorem Fam.f3 {w : World} {base : Nat} {A B C D E : List Row} (h : Fam w base (A ++ (B ++ (C ++ (D ++ E))))) : Fam w base (D ++ (A ++ (B ++ (C ++ E)))) :=
  ((h.perm (((List.perm_append_comm_assoc C D E).append_left B).append_left A)).perm ((List.perm_append_comm_assoc B D (C ++ E)).append_left A)).perm (List.perm_append_comm_assoc A D (B ++ (C ++ E)))
theorem Fam.f4 {w : World} {base : Nat} {A B C D E G : List Row} (h : Fam w base (A ++ (B ++ (C ++ (D ++ (E ++ G)))))) : Fam w base (E ++ (A ++ (B ++ (C ++ (D ++ G))))) :=
  Fam.f3 (h.perm ((((List.perm_append_comm_assoc D E G).append_left C).append_left B).append_left A))
theorem Fam.more {w w' : World} {base : Nat} {F G : List Row} (h : Fam w base F) (hb : Bel w w') (hG : Fam w' w.heap.size G) (hs : base ≤ w.heap.size) : Fam w' base (G ++ F) := (h.add hb hG hs).swap
theorem Bel.belowT {w a b : World} {base : Nat} (h : Bel w a) (hb : Below base a b) (hs : w.heap.size ≤ base) : Bel w b := Below.trans h (Below.mono hb hs)

def intF (v : Value) (n : Nat) (l : List Int) : List Row := [⟨3, 1, v, n, VI l⟩]
theorem intF_own {w : World} {base : Nat} {v : Value} {n : Nat} {l : List Int} {R : List Row} (h : Fam w base (intF v n l ++ R)) : w.ownsRow base 3 1 v n (VI l) := h.1 ⟨3, 1, v, n, VI l⟩ (by simp [intF])
theorem intF_of {w : World} {base : Nat} {v : Value} {n : Nat} {l : List Int} (h : w.ownsRow base 3 1 v n (VI l)) : Fam w base (intF v n l) := Fam.one (r := ⟨3, 1, v, n, VI l⟩) h
theorem markIntF_c (base : Nat) (v : Value) (n : Nat) (l : List Int) (m : Int) (R : List Row) (w : World) (h : Fam w base (intF v n l ++ R)) (hs : base ≤ w.heap.size) (hn : n ≤ 4194304) (hm : 0 ≤ m ∧ m ≤ 4611686018427387904) :
    Calls Try.prog 19 #[v, .int .i64 m] w fun r w' => r = .returned (.int .i64 (m + (n : Int))) ∧ Fam w' base (intF v n (marks m n) ++ R) ∧ Below base w w' := by
  refine (markIntS_n base v n l m w (intF_own h) hn hm).mono ?_
  rintro e w' ⟨rfl, ho, hg⟩
  exact ⟨rfl, h.write (i := 0) (r := ⟨3, 1, v, n, VI l⟩) rfl hg ⟨3, 1, v, n, VI (marks m n)⟩ (.inl rfl) ho, h.below (i := 0) (r := ⟨3, 1, v, n, VI l⟩) rfl hg hs⟩
end Go.Proofs.Ytmipjhnjlpmidaa
