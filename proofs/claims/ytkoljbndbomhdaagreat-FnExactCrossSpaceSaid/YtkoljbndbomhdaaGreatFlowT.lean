/- FlowKids: what it answers; inserting one after the other, and swapping down. Plain Lean. -/
import Derived.Test.YtkoljbndbomhdaaGreatApart
namespace Go.Proofs.YtkoljbndbomhdaaGreat
set_option linter.unusedVariables false
set_option linter.unusedSimpArgs false

def insF (l : List Int) (a : Nat) (x : Int) : List Int := l.take a ++ x :: l.drop a
def insPos (ord : Int → Int) (P : List Int) (x : Int) : Nat → Nat
  | 0 => 0
  | a + 1 => if ord x < ord (at_ P a) then insPos ord P x a else a + 1
def insP (ord : Int → Int) (P : List Int) (x : Int) : List Int := insF P (insPos ord P x P.length) x
def sorted (ord : Int → Int) (l : List Int) : List Int := l.foldl (insP ord) []
def orderOf (T : List NodeD) (z : Int) : Int := (nd T z).style.s 8
def isFlow (T : List NodeD) (k : Int) : Bool := !(nd T k).style.b 7 && !(nd T k).style.b 6
def flowTo (T : List NodeD) (j q : Nat) : List Int := ((node_ T j).kids.take q).filter (isFlow T)
def flowKids (T : List NodeD) (n : Int) : List Int := if treeOk T = true ∧ isNodeB T n = true then sorted (orderOf T) ((nd T n).kids.filter (isFlow T)) else []

theorem insPos_le (ord : Int → Int) (P : List Int) (x : Int) : ∀ a, insPos ord P x a ≤ a
  | 0 => Nat.le_refl _
  | a + 1 => by
    unfold insPos
    split
    · exact Nat.le_succ_of_le (insPos_le ord P x a)
    · exact Nat.le_refl _
theorem insF_length (l : List Int) (a : Nat) (x : Int) : (insF l a x).length = l.length + 1 := by
  simp [insF]; omega
theorem insF_mem {l : List Int} {a : Nat} {x z : Int} : z ∈ insF l a x ↔ z ∈ l ∨ z = x := by
  unfold insF
  conv => rhs; rw [← List.take_append_drop a l]
  simp only [List.mem_append, List.mem_cons]
  constructor
  · rintro (h | h | h)
    · exact .inl (.inl h)
    · exact .inr h
    · exact .inl (.inr h)
  · rintro ((h | h) | h)
    · exact .inl h
    · exact .inr (.inr h)
    · exact .inr (.inl h)
theorem insP_length (ord : Int → Int) (P : List Int) (x : Int) : (insP ord P x).length = P.length + 1 := insF_length _ _ _
theorem sorted_snoc (ord : Int → Int) (l : List Int) (x : Int) : sorted ord (l ++ [x]) = insP ord (sorted ord l) x := by
  unfold sorted
  rw [List.foldl_append]
  rfl
theorem sorted_take {l : List Int} (ord : Int → Int) {q : Nat} (hq : q < l.length) : sorted ord (l.take (q + 1)) = insP ord (sorted ord (l.take q)) (at_ l q) := by
  rw [← sorted_snoc, List.take_add_one, at_eq hq]
  rfl
theorem sorted_length (ord : Int → Int) (l : List Int) : (sorted ord l).length = l.length := by
  have : ∀ (l acc : List Int), (l.foldl (insP ord) acc).length = acc.length + l.length := by
    intro l
    induction l with
    | nil => intro acc; rfl
    | cons x l ih => intro acc; rw [List.foldl_cons, ih, insP_length, List.length_cons]; omega
  unfold sorted
  rw [this]
  simp
theorem sorted_mem (ord : Int → Int) {l : List Int} {z : Int} : z ∈ sorted ord l ↔ z ∈ l := by
  have : ∀ (l acc : List Int), z ∈ l.foldl (insP ord) acc ↔ z ∈ acc ∨ z ∈ l := by
    intro l
    induction l with
    | nil => intro acc; simp
    | cons x l ih =>
      intro acc
      rw [List.foldl_cons, ih]
      unfold insP
      rw [insF_mem, List.mem_cons, or_assoc]
  unfold sorted
  rw [this]
  simp
/-! ### the row while one element goes down -/
theorem insF_at {P R : List Int} {x : Int} {j : Nat} (hj : j ≤ P.length) : at_ (insF P j x ++ R) j = x := by
  unfold insF at_ List.getD
  rw [List.append_assoc, List.getElem?_append_right (by rw [List.length_take]; omega), List.length_take, Nat.min_eq_left hj, Nat.sub_self]
  rfl
theorem insF_at_prev {P R : List Int} {x : Int} {j : Nat} (hj : j < P.length) : at_ (insF P (j + 1) x ++ R) j = at_ P j := by
  unfold insF at_ List.getD
  rw [List.append_assoc, List.getElem?_append_left (by rw [List.length_take]; omega), List.getElem?_take_of_lt (by omega)]
theorem insF_swap {P R : List Int} {x : Int} {j : Nat} (hj : j < P.length) : ((insF P (j + 1) x ++ R).set (j + 1) (at_ P j)).set j x = insF P j x ++ R := by
  have hl : (P.take j).length = j := by rw [List.length_take]; omega
  have e1 : P.take (j + 1) = P.take j ++ [at_ P j] := by rw [List.take_add_one, at_eq hj]; rfl
  have e2 : P.drop j = at_ P j :: P.drop (j + 1) := by
    rw [List.drop_eq_getElem_cons hj]
    congr 1
    simp [at_, List.getD, List.getElem?_eq_getElem hj]
  unfold insF
  rw [e1, e2]
  have : (P.take j ++ [at_ P j] ++ x :: P.drop (j + 1) ++ R) = P.take j ++ (at_ P j :: x :: (P.drop (j + 1) ++ R)) := by simp
  rw [this, List.set_append_right _ _ (by omega), hl, show j + 1 - j = 1 by omega, List.set_append_right _ _ (by omega), hl, Nat.sub_self]
  simp
theorem insF_end (P R : List Int) (x : Int) : insF P P.length x ++ R = P ++ x :: R := by
  unfold insF
  simp
theorem flowTo_yes {T : List NodeD} {j q : Nat} (hq : q < (node_ T j).kids.length) (h : isFlow T (at_ (node_ T j).kids q) = true) : flowTo T j (q + 1) = flowTo T j q ++ [at_ (node_ T j).kids q] := by
  unfold flowTo
  rw [List.take_add_one, at_eq hq, List.filter_append]
  simp [h]
theorem flowTo_no {T : List NodeD} {j q : Nat} (hq : q < (node_ T j).kids.length) (h : isFlow T (at_ (node_ T j).kids q) = false) : flowTo T j (q + 1) = flowTo T j q := by
  unfold flowTo
  rw [List.take_add_one, at_eq hq, List.filter_append]
  simp [h]
theorem flowTo_len (T : List NodeD) (j q : Nat) : (flowTo T j q).length ≤ (node_ T j).kids.length := by
  unfold flowTo
  refine Nat.le_trans (List.length_filter_le _ _) ?_
  rw [List.length_take]
  omega
theorem flowTo_all {T : List NodeD} {j : Nat} (h : treeOk T = true) (hj : j < T.length) : flowKids T ((j : Int) + 1) = sorted (orderOf T) (flowTo T j (node_ T j).kids.length) := by
  unfold flowKids flowTo
  rw [if_pos ⟨h, isNode_iff.2 (by omega)⟩, nd_eq, List.take_length]
theorem flowTo_node {T : List NodeD} (h : treeOk T = true) {j : Nat} (hj : j < T.length) {q : Nat} {z : Int} (hz : z ∈ flowTo T j q) : isNodeB T z = true := by
  unfold flowTo at hz
  have h1 := List.mem_of_mem_take (List.mem_filter.1 hz).1
  have := treeOk_kids h hj z h1
  unfold kidOk at this
  simp only [Bool.and_eq_true] at this
  exact this.1
theorem flowKids_len (T : List NodeD) (n : Int) : (flowKids T n).length ≤ 12 := by
  by_cases h : treeOk T = true ∧ isNodeB T n = true
  · obtain ⟨j, rfl, hj⟩ := isNode_split h.2
    rw [flowTo_all h.1 hj, sorted_length]
    have h1 := flowTo_len T j (node_ T j).kids.length
    have h2 := kids_few h.1 hj
    omega
  · unfold flowKids; rw [if_neg h]; simp
end Go.Proofs.YtkoljbndbomhdaaGreat
