/- Families, put in front; groups of one row. -/
import Derived.Test.YtkoljbndbomhdaaGreatApp
namespace Go.Proofs.YtkoljbndbomhdaaGreat
open Go.RowKit Go.ChangeShapes Go.WideShapes
set_option linter.unusedVariables false
set_option linter.unusedSimpArgs false

theorem Fam.f1 {w : World} {base : Nat} {A B C : List Row} (h : Fam w base (A ++ (B ++ C))) : Fam w base (B ++ (A ++ C)) := h.perm (List.perm_append_comm_assoc A B C)
theorem Fam.tail1 {w : World} {base : Nat} {A B : List Row} (h : Fam w base (A ++ B)) : Fam w base B := h.right
theorem Fam.f2 {w : World} {base : Nat} {A B C D : List Row} (h : Fam w base (A ++ (B ++ (C ++ D)))) : Fam w base (C ++ (A ++ (B ++ D))) :=
  (h.perm ((List.perm_append_comm_assoc B C D).append_left A)).perm (List.perm_append_comm_assoc A C (B ++ D))
theorem Fam.f3 {w : World} {base : Nat} {A B C D E : List Row} (h : Fam w base (A ++ (B ++ (C ++ (D ++ E))))) : Fam w base (D ++ (A ++ (B ++ (C ++ E)))) :=
  ((h.perm (((List.perm_append_comm_assoc C D E).append_left B).append_left A)).perm ((List.perm_append_comm_assoc B D (C ++ E)).append_left A)).perm (List.perm_append_comm_assoc A D (B ++ (C ++ E)))
theorem Fam.f4 {w : World} {base : Nat} {A B C D E G : List Row} (h : Fam w base (A ++ (B ++ (C ++ (D ++ (E ++ G)))))) : Fam w base (E ++ (A ++ (B ++ (C ++ (D ++ G))))) :=
  Fam.f3 (h.perm ((((List.perm_append_comm_assoc D E G).append_left C).append_left B).append_left A))
theorem Fam.more {w w' : World} {base : Nat} {F G : List Row} (h : Fam w base F) (hb : Bel w w') (hG : Fam w' w.heap.size G) (hs : base ≤ w.heap.size) : Fam w' base (G ++ F) := (h.add hb hG hs).swap
theorem Bel.belowT {w a b : World} {base : Nat} (h : Bel w a) (hb : Below base a b) (hs : w.heap.size ≤ base) : Bel w b := Below.trans h (Below.mono hb hs)

def intF (v : Value) (n : Nat) (l : List Int) : List Row := [⟨3, 1, v, n, VI l⟩]
theorem intF_own {w : World} {base : Nat} {v : Value} {n : Nat} {l : List Int} {R : List Row} (h : Fam w base (intF v n l ++ R)) : w.ownsRow base 3 1 v n (VI l) := h.1 ⟨3, 1, v, n, VI l⟩ (by simp [intF])
theorem intF_of {w : World} {base : Nat} {v : Value} {n : Nat} {l : List Int} (h : w.ownsRow base 3 1 v n (VI l)) : Fam w base (intF v n l) := Fam.one (r := ⟨3, 1, v, n, VI l⟩) h
end Go.Proofs.YtkoljbndbomhdaaGreat
