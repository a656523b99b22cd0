/- Slices of items, and slices of slices of ints, as families. -/
import Derived.Test.YtmipjhnjlpmidaaFamT
import Derived.Test.YtmipjhnjlpmidaaMarkItem
import Derived.Test.YtmipjhnjlpmidaaIntSS
namespace Go.Proofs.Ytmipjhnjlpmidaa
open Go.RowKit Go.ChangeShapes Go.WideShapes
set_option linter.unusedVariables false
set_option linter.unusedSimpArgs false

theorem own_recs {w : World} {base : Nat} {e : TypeId} {A : Option Addr} {n c : Nat} {ks : List Bool} {L : List Rec} (hn : n = L.length) (h : w.ownsRow base e ks.length (.slice A n c) n (RV ks L)) : Recs w A ks L := by
  obtain ⟨A', c', hv, _, _, hI⟩ := own_openR hn h
  injection hv with h1 _ _
  subst h1
  exact hI
def itemF (v : Value) (n : Nat) (L : List Rec) : List Row := [⟨48, 9, v, n, RV k_item L⟩]
theorem itemF_own {w : World} {base : Nat} {v : Value} {n : Nat} {L : List Rec} {R : List Row} (h : Fam w base (itemF v n L ++ R)) : w.ownsRow base 48 9 v n (RV k_item L) := h.1 ⟨48, 9, v, n, RV k_item L⟩ (by simp [itemF])
theorem itemF_of {w : World} {base : Nat} {v : Value} {n : Nat} {L : List Rec} (h : w.ownsRow base 48 9 v n (RV k_item L)) : Fam w base (itemF v n L) := Fam.one (r := ⟨48, 9, v, n, RV k_item L⟩) h
theorem markItemF_c (base : Nat) (v : Value) (n : Nat) (L : List Rec) (m : Int) (R : List Row) (w : World) (h : Fam w base (itemF v n L ++ R)) (hs : base ≤ w.heap.size) (hn : n ≤ 1048576) (hL : n = L.length) (hm : 0 ≤ m ∧ m ≤ 4611686018427387904) :
    Calls Try.prog 18 #[v, .int .i64 m] w fun r w' => r = .returned (.int .i64 (m + 9 * (n : Int))) ∧ Fam w' base (itemF v n (marksR 9 m n) ++ R) ∧ Below base w w' := by
  refine (markItemS_c base v n L m w (itemF_own h) hn hL hm).mono ?_
  rintro e w' ⟨rfl, ho, hg⟩
  exact ⟨rfl, h.write (i := 0) (r := ⟨48, 9, v, n, RV k_item L⟩) rfl hg ⟨48, 9, v, n, RV k_item (marksR 9 m n)⟩ (.inl rfl) ho, h.below (i := 0) (r := ⟨48, 9, v, n, RV k_item L⟩) rfl hg hs⟩

/-! ### slices of slices -/
def linesF (v : Value) (VS : List Value) (LL : List (List Int)) : List Row := ⟨29, 1, v, LL.length, VS⟩ :: rowsOf VS LL
theorem linesF_at {w : World} {base : Nat} {v : Value} {VS : List Value} {LL : List (List Int)} {R : List Row} (hl : VS.length = LL.length) (h : Fam w base (linesF v VS LL ++ R)) : LinesAt w base v LL := ⟨VS, hl, h.left⟩
theorem own_rows2 {w : World} {base : Nat} {A : Option Addr} {n c : Nat} {LL : List (List Int)} (h : LinesAt w base (.slice A n c) LL) : Rows2 w A LL := by
  obtain ⟨A', c', hv, _, _, hR⟩ := h.rows
  injection hv with h1 _ _
  subst h1
  exact hR
def markLL (m : Int) (LL : List (List Int)) (k : Nat) : List (List Int) := (List.range LL.length).map fun i => if i < k then marks (m + (totTo LL i : Int)) (LL.getD i []).length else LL.getD i []
theorem markLL_length (m : Int) (LL : List (List Int)) (k : Nat) : (markLL m LL k).length = LL.length := by simp [markLL]
theorem markLL_get (m : Int) {LL : List (List Int)} (k : Nat) {i : Nat} (h : i < LL.length) : (markLL m LL k)[i]? = some (if i < k then marks (m + (totTo LL i : Int)) (LL.getD i []).length else LL.getD i []) := by simp [markLL, h]
theorem markLL_zero (m : Int) (LL : List (List Int)) : markLL m LL 0 = LL := by
  apply List.ext_getElem?
  intro i
  by_cases h : i < LL.length
  · rw [markLL_get m 0 h, if_neg (by omega), getD_eq h]
  · rw [List.getElem?_eq_none (by rw [markLL_length]; omega), List.getElem?_eq_none (by omega)]
theorem markLL_succ (m : Int) {LL : List (List Int)} {k : Nat} (hk : k < LL.length) : markLL m LL (k + 1) = (markLL m LL k).set k (marks (m + (totTo LL k : Int)) (LL.getD k []).length) := by
  apply List.ext_getElem?
  intro i
  rw [List.getElem?_set]
  by_cases h : i < LL.length
  · rw [markLL_get m _ h, markLL_length]
    by_cases e : k = i
    · subst e; rw [if_pos rfl, if_pos hk, if_pos (by omega)]
    · rw [if_neg e, markLL_get m _ h]
      by_cases h2 : i < k
      · rw [if_pos h2, if_pos (by omega)]
      · rw [if_neg h2, if_neg (by omega)]
  · rw [List.getElem?_eq_none (by rw [markLL_length]; omega), if_neg (by omega), List.getElem?_eq_none (by rw [markLL_length]; omega)]
theorem markLL_at (m : Int) {LL : List (List Int)} (k : Nat) {i : Nat} (h : i < LL.length) (hk : i < k) : (markLL m LL k).getD i [] = marks (m + (totTo LL i : Int)) (LL.getD i []).length := by
  rw [List.getD, markLL_get m k h, if_pos hk]; rfl
theorem markLL_lens (m : Int) {LL : List (List Int)} (k : Nat) {i : Nat} (h : i < LL.length) : ((markLL m LL k).getD i []).length = (LL.getD i []).length := by
  rw [List.getD, markLL_get m k h]
  simp only [Option.getD_some]
  split
  · rw [marks_length]
  · rfl
end Go.Proofs.Ytmipjhnjlpmidaa
