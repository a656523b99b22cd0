/- Trees as plain data: what the functions of chapters 10 and 12 answer. -/
import Derived.Test.YtkoljbndbomhdaaGreatTables
namespace Go.Proofs.YtkoljbndbomhdaaGreat
set_option linter.unusedVariables false
set_option linter.unusedSimpArgs false

structure NodeD where
  up : Int
  kids : List Int
  style : Rec
  meas : Bool
  rules : List Rec
def NodeD.zero : NodeD := ⟨0, [], Rec.zero, false, []⟩
def node_ (T : List NodeD) (i : Nat) : NodeD := T.getD i NodeD.zero
def nd (T : List NodeD) (n : Int) : NodeD := node_ T (n - 1).toNat
def isNodeB (T : List NodeD) (n : Int) : Bool := inB n 1 (T.length : Int)
def upOf (T : List NodeD) (n : Int) : Int := (nd T n).up
theorem isNode_iff {T : List NodeD} {n : Int} : isNodeB T n = true ↔ 1 ≤ n ∧ n ≤ (T.length : Int) := by simp [isNodeB, inB]
theorem isNode_not {T : List NodeD} {n : Int} : isNodeB T n = false ↔ n < 1 ∨ (T.length : Int) < n := by
  rw [← Bool.not_eq_true, isNode_iff]; omega
theorem node_eq {T : List NodeD} {i : Nat} (h : i < T.length) : T[i]? = some (node_ T i) := by simp [node_, List.getD, List.getElem?_eq_getElem h]

/-! ### depth -/
def depthFrom (T : List NodeD) : Nat → Int → Int → Int
  | 0, _, _ => 0
  | f + 1, n, k => if n = 0 then k else if isNodeB T n = true then depthFrom T f (upOf T n) (k + 1) else 0
def depthOf (T : List NodeD) (n : Int) : Int := depthFrom T (T.length + 1) n 0

/-! ### under -/
def underFrom (T : List NodeD) (top : Int) : Nat → Int → Bool
  | 0, _ => false
  | f + 1, m => if isNodeB T (upOf T m) = true then (if upOf T m = top then true else underFrom T top f (upOf T m)) else false
def isUnder (T : List NodeD) (n top : Int) : Bool := isNodeB T top && isNodeB T n && underFrom T top T.length n
def underSpec (T : List NodeD) (top : Int) : Nat → Int → Bool
  | 0, _ => false
  | f + 1, m => if isNodeB T m = true then (if upOf T m = top then isNodeB T top else underSpec T top f (upOf T m)) else false

theorem underSpec_no {T : List NodeD} {top : Int} (h : isNodeB T top = false) : ∀ f m, underSpec T top f m = false
  | 0, _ => rfl
  | f + 1, m => by
    unfold underSpec
    rw [h, underSpec_no h f]
    split <;> simp
theorem underSpec_yes {T : List NodeD} {top : Int} (h : isNodeB T top = true) : ∀ f m, isNodeB T m = true → underSpec T top f m = underFrom T top f m
  | 0, _, _ => rfl
  | f + 1, m, hm => by
    unfold underSpec underFrom
    rw [if_pos hm]
    by_cases e : upOf T m = top
    · rw [if_pos e, e, if_pos h, if_pos rfl, h]
    · rw [if_neg e]
      by_cases hu : isNodeB T (upOf T m) = true
      · rw [if_pos hu, if_neg e, underSpec_yes h f _ hu]
      · rw [if_neg hu]
        cases f with
        | zero => rfl
        | succ f => unfold underSpec; rw [if_neg hu]

/-- the ancestors one after the other -/
def ups (T : List NodeD) (n : Int) : Nat → Int
  | 0 => n
  | k + 1 => upOf T (ups T n k)
theorem ups_succ' (T : List NodeD) (n : Int) : ∀ k, ups T n (k + 1) = ups T (upOf T n) k
  | 0 => rfl
  | k + 1 => by show upOf T (ups T n (k + 1)) = upOf T (ups T (upOf T n) k); rw [ups_succ']
theorem underFrom_iff (T : List NodeD) (top : Int) : ∀ f m, underFrom T top f m = true ↔ ∃ k, k < f ∧ ups T m (k + 1) = top ∧ ∀ j, j ≤ k → isNodeB T (ups T m (j + 1)) = true
  | 0, m => by simp [underFrom]
  | f + 1, m => by
    unfold underFrom
    by_cases hu : isNodeB T (upOf T m) = true
    · rw [if_pos hu]
      by_cases e : upOf T m = top
      · rw [if_pos e]
        simp only [true_iff]
        exact ⟨0, by omega, e, fun j hj => by obtain rfl : j = 0 := by omega
                                              exact hu⟩
      · rw [if_neg e, underFrom_iff T top f]
        constructor
        · rintro ⟨k, hk, h1, h2⟩
          refine ⟨k + 1, by omega, by rw [ups_succ']; exact h1, fun j hj => ?_⟩
          cases j with
          | zero => exact hu
          | succ j => rw [ups_succ']; exact h2 j (by omega)
        · rintro ⟨k, hk, h1, h2⟩
          cases k with
          | zero => exact absurd h1 e
          | succ k => exact ⟨k, by omega, by rw [← ups_succ']; exact h1, fun j hj => by rw [← ups_succ']; exact h2 (j + 1) (by omega)⟩
    · rw [if_neg hu]
      simp only [Bool.false_eq_true, false_iff]
      rintro ⟨k, hk, h1, h2⟩
      exact hu (h2 0 (by omega))

/-- among more numbers than places two are equal -/
theorem pigeon : ∀ (n : Nat) (f : Nat → Nat), (∀ i, i ≤ n → f i < n) → ∃ i j, i < j ∧ j ≤ n ∧ f i = f j
  | 0, f, h => absurd (h 0 (Nat.le_refl _)) (Nat.not_lt_zero _)
  | n + 1, f, h => by
    -- the last value; if it occurs before, done; else take it out
    by_cases hx : ∃ i, i < n + 1 ∧ f i = f (n + 1)
    · obtain ⟨i, hi, he⟩ := hx
      exact ⟨i, n + 1, hi, Nat.le_refl _, he⟩
    · have hne : ∀ i, i < n + 1 → f i ≠ f (n + 1) := fun i hi e => hx ⟨i, hi, e⟩
      have hl := h (n + 1) (Nat.le_refl _)
      obtain ⟨i, j, hij, hj, he⟩ := pigeon n (fun i => if f i < f (n + 1) then f i else f i - 1) (fun i hi => by
        have h1 := h i (by omega)
        have h2 := hne i (by omega)
        (try dsimp only)
        split <;> omega)
      refine ⟨i, j, hij, by omega, ?_⟩
      have h1 := hne i (by omega)
      have h2 := hne j (by omega)
      (try dsimp only at he)
      split at he <;> split at he <;> omega

theorem ups_add (T : List NodeD) (n : Int) (a : Nat) : ∀ b, ups T n (a + b) = ups T (ups T n a) b
  | 0 => rfl
  | b + 1 => by show upOf T (ups T n (a + b)) = upOf T (ups T (ups T n a) b); rw [ups_add]
theorem underFrom_more (T : List NodeD) (top n : Int) : underFrom T top (T.length + 1) n = underFrom T top T.length n := by
  rw [Bool.eq_iff_iff, underFrom_iff, underFrom_iff]
  constructor
  · rintro ⟨k, hk, h1, h2⟩
    by_cases hlt : k < T.length
    · exact ⟨k, hlt, h1, h2⟩
    · obtain rfl : k = T.length := by omega
      obtain ⟨i, j, hij, hj, he⟩ := pigeon T.length (fun i => (ups T n (i + 1) - 1).toNat) (fun i hi => by
        have := isNode_iff.1 (h2 i hi)
        (try dsimp only)
        omega)
      have hi' := isNode_iff.1 (h2 i (by omega))
      have hj' := isNode_iff.1 (h2 j hj)
      have he' : ups T n (i + 1) = ups T n (j + 1) := by (try dsimp only at he); omega
      -- cut the circle out
      refine ⟨T.length - (j - i), by omega, ?_, fun q hq => h2 q (by omega)⟩
      rw [← h1, show T.length - (j - i) + 1 = (i + 1) + (T.length - j) by omega, show T.length + 1 = (j + 1) + (T.length - j) by omega, ups_add T n (i + 1), ups_add T n (j + 1), he']
  · rintro ⟨k, hk, h1, h2⟩
    exact ⟨k, by omega, h1, h2⟩
theorem underSpec_eq (T : List NodeD) (n top : Int) : underSpec T top (T.length + 1) n = isUnder T n top := by
  unfold isUnder
  cases ht : isNodeB T top
  · rw [underSpec_no ht]; rfl
  · cases hn : isNodeB T n
    · unfold underSpec; rw [if_neg (by rw [hn]; decide)]; rfl
    · rw [underSpec_yes ht _ _ hn, underFrom_more]; rfl

/-! ### styles -/
def valueOk (k n : Int) : Bool := if k = 0 ∨ k = 3 then n == 0 else if k = 1 then inB n (-1048576) 1048576 else if k = 2 then inB n (-1000) 1000 else false
def sizeOk (k n : Int) : Bool := valueOk k n && decide (0 ≤ n)
def vOk (r : Rec) (i : Nat) : Bool := valueOk (r.s i) (r.s (i + 1))
def zOk (r : Rec) (i : Nat) : Bool := sizeOk (r.s i) (r.s (i + 1))
def sidesOk (r : Rec) (i : Nat) : Bool := vOk r i && vOk r (i + 2) && vOk r (i + 4) && vOk r (i + 6) && vOk r (i + 8) && vOk r (i + 10)
def edgesOk (r : Rec) (i : Nat) : Bool := inB (r.s i) 0 1048576 && inB (r.s (i + 1)) 0 1048576 && inB (r.s (i + 2)) 0 1048576 && inB (r.s (i + 3)) 0 1048576
def styleOk (r : Rec) : Bool :=
  (inB (r.s 0) 1 4 && inB (r.s 1) 1 3 && inB (r.s 2) 1 6 && inB (r.s 3) 1 5 && inB (r.s 4) 0 5 && inB (r.s 5) 1 6) &&
  (inB (r.s 8) (-1000) 1000 && inB (r.s 9) 0 1000 && inB (r.s 10) 0 1000 && inB (r.s 25) 0 6400) &&
  (zOk r 11 && zOk r 13 && zOk r 15 && zOk r 17 && zOk r 19 && zOk r 21 && zOk r 23) &&
  (sidesOk r 26 && sidesOk r 38 && edgesOk r 50 && edgesOk r 54 && inB (r.s 58) 0 1048576 && inB (r.s 59) 0 1048576)

/-! ### trees -/
def countI (l : List Int) (n : Int) : Nat := l.countP (· == n)
def kidOk (T : List NodeD) (i : Nat) (kid : Int) : Bool := isNodeB T kid && upOf T kid == (i : Int) + 1
def upOk (T : List NodeD) (i : Nat) : Bool := (node_ T i).up == 0 || countI (nd T (node_ T i).up).kids ((i : Int) + 1) == 1
def measOk (x : NodeD) : Bool := if x.meas = true then tableOk x.rules && decide (x.kids.length = 0) else decide (x.rules.length = 0)
def depthOk (T : List NodeD) (i : Nat) : Bool := inB (depthOf T ((i : Int) + 1)) 1 4
def nodeOk (T : List NodeD) (i : Nat) : Bool := styleOk (node_ T i).style && depthOk T i && (node_ T i).kids.all (kidOk T i) && upOk T i && measOk (node_ T i)
def treeOk (T : List NodeD) : Bool := decide (T.length ≤ 12) && (List.range T.length).all (nodeOk T)
end Go.Proofs.YtkoljbndbomhdaaGreat
