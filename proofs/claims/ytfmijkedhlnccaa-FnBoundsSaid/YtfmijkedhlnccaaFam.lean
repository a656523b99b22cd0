/- Families of rows of the call's own that lie apart from each other. -/
import Derived.Test.YtfmijkedhlnccaaRecs
namespace Go.Proofs.Ytfmijkedhlnccaa
open Go.RowKit Go.ChangeShapes Go.WideShapes
set_option linter.unusedVariables false
set_option linter.unusedSimpArgs false

structure Row where
  e : TypeId
  size : Nat
  v : Value
  n : Nat
  xs : List Value
def Row.own (r : Row) (w : World) (base : Nat) : Prop := w.ownsRow base r.e r.size r.v r.n r.xs
def Row.apart (a b : Row) : Prop := a.v.ownBlock = none ∨ a.v.ownBlock ≠ b.v.ownBlock
theorem Row.apart.symm {a b : Row} (h : a.apart b) : b.apart a := by
  unfold Row.apart at *
  cases hb : b.v.ownBlock with
  | none => exact .inl rfl
  | some k =>
    right
    rcases h with h | h
    · rw [h]; simp
    · rw [hb] at h; exact fun e => h e.symm
def Fam (w : World) (base : Nat) (F : List Row) : Prop := (∀ r ∈ F, r.own w base) ∧ F.Pairwise Row.apart

theorem Fam.nil (w : World) (base : Nat) : Fam w base [] := ⟨fun _ h => (nomatch h), List.Pairwise.nil⟩
theorem Fam.at_ {w : World} {base : Nat} {F : List Row} (h : Fam w base F) {i : Nat} {r : Row} (hi : F[i]? = some r) : r.own w base := h.1 r (List.mem_of_getElem? hi)
theorem Fam.keep {w w' : World} {base : Nat} {F : List Row} (h : Fam w base F) (hb : Bel w w') : Fam w' base F := ⟨fun r hr => own_keep (h.1 r hr) hb, h.2⟩
theorem Fam.base {w : World} {base base' : Nat} {F : List Row} (h : Fam w base F) (hb : base' ≤ base) : Fam w base' F := ⟨fun r hr => own_base (h.1 r hr) hb, h.2⟩
theorem Fam.sub {w : World} {base : Nat} {F G : List Row} (h : Fam w base F) (hs : G.Sublist F) : Fam w base G := ⟨fun r hr => h.1 r (hs.subset hr), h.2.sublist hs⟩
theorem Fam.left {w : World} {base : Nat} {F G : List Row} (h : Fam w base (F ++ G)) : Fam w base F := h.sub (List.sublist_append_left F G)
theorem Fam.right {w : World} {base : Nat} {F G : List Row} (h : Fam w base (F ++ G)) : Fam w base G := h.sub (List.sublist_append_right F G)
theorem Fam.perm {w : World} {base : Nat} {F G : List Row} (h : Fam w base F) (hp : F.Perm G) : Fam w base G :=
  ⟨fun r hr => h.1 r (hp.mem_iff.2 hr), (hp.pairwise_iff (fun {a b} => Row.apart.symm)).1 h.2⟩
theorem Fam.swap {w : World} {base : Nat} {F G : List Row} (h : Fam w base (F ++ G)) : Fam w base (G ++ F) := h.perm List.perm_append_comm
/-- what came later lies apart -/
theorem Fam.add {w w' : World} {base : Nat} {F G : List Row} (h : Fam w base F) (hb : Bel w w') (hG : Fam w' w.heap.size G) (hs : base ≤ w.heap.size) : Fam w' base (F ++ G) := by
  refine ⟨fun r hr => ?_, ?_⟩
  · rcases List.mem_append.1 hr with hr | hr
    · exact own_keep (h.1 r hr) hb
    · exact own_base (hG.1 r hr) hs
  · refine List.pairwise_append.2 ⟨h.2, hG.2, fun a ha b hb' => ?_⟩
    exact own_ne (h.1 a ha) (hG.1 b hb') (Nat.le_refl _)
theorem Fam.one {w : World} {base : Nat} {r : Row} (h : r.own w base) : Fam w base [r] := ⟨fun a ha => by simp at ha; subst ha; exact h, List.pairwise_singleton _ _⟩
theorem Fam.add1 {w w' : World} {base : Nat} {F : List Row} {r : Row} (h : Fam w base F) (hb : Bel w w') (hr : r.own w' w.heap.size) (hs : base ≤ w.heap.size) : Fam w' base (F ++ [r]) := h.add hb (Fam.one hr) hs
theorem Fam.cons1 {w w' : World} {base : Nat} {F : List Row} {r : Row} (h : Fam w base F) (hb : Bel w w') (hr : r.own w' w.heap.size) (hs : base ≤ w.heap.size) : Fam w' base (r :: F) := (h.add1 hb hr hs).swap

/-- one row written, or grown -/
theorem Fam.write {w w' : World} {base : Nat} {F : List Row} (h : Fam w base F) {i : Nat} {r : Row} (hi : F[i]? = some r) (hg : w.grownBy w' r.v.ownBlock) (r' : Row)
    (hv : r'.v.ownBlock = r.v.ownBlock ∨ r'.v.ownBlock = some w.heap.size) (hr' : r'.own w' base) : Fam w' base (F.set i r') := by
  have hil : i < F.length := lt_of_get hi
  have hri : F[i] = r := by rw [List.getElem?_eq_getElem hil] at hi; injection hi
  have hP := List.pairwise_iff_getElem.1 h.2
  have hap : ∀ j (hj : j < F.length), j ≠ i → (F[j]).apart r := fun j hj hne => by
    rcases Nat.lt_or_gt_of_ne hne with hlt | hgt
    · rw [← hri]; exact hP j i hj hil hlt
    · rw [← hri]; exact (hP i j hil hj hgt).symm
  have hap' : ∀ j (hj : j < F.length), j ≠ i → (F[j]).apart r' := fun j hj hne => by
    rcases hv with hv | hv
    · have := hap j hj hne
      unfold Row.apart at this ⊢
      rw [hv]; exact this
    · cases hb : (F[j]).v.ownBlock with
      | none => exact .inl hb
      | some k =>
        right
        rw [hv, hb]
        have := (h.1 F[j] (List.getElem_mem hj)).lt k hb
        intro e
        injection e with e
        omega
  refine ⟨fun a ha => ?_, ?_⟩
  · obtain ⟨j, hj, rfl⟩ := List.getElem_of_mem ha
    rw [List.length_set] at hj
    rw [List.getElem_set]
    by_cases e : i = j
    · rw [if_pos e]; exact hr'
    · rw [if_neg e]
      exact (h.1 F[j] (List.getElem_mem hj)).kept hg (hap j hj (fun e' => e e'.symm))
  · rw [List.pairwise_iff_getElem]
    intro a b ha hb hab
    rw [List.length_set] at ha hb
    rw [List.getElem_set, List.getElem_set]
    by_cases ea : i = a
    · rw [if_pos ea, if_neg (by omega)]
      exact (hap' b hb (by omega)).symm
    · rw [if_neg ea]
      by_cases eb : i = b
      · rw [if_pos eb]; exact hap' a ha (by omega)
      · rw [if_neg eb]; exact hP a b ha hb hab
/-- what was written lies from base on -/
theorem Fam.below {w w' : World} {base : Nat} {F : List Row} (h : Fam w base F) {i : Nat} {r : Row} (hi : F[i]? = some r) (hg : w.grownBy w' r.v.ownBlock) (hs : base ≤ w.heap.size) : Below base w w' :=
  (Below.refl base w).grown hg hs fun k hk => ((h.at_ hi).lt k hk).1
theorem Bel.of_below {a b : World} {base : Nat} (h : Below base a b) (hs : a.heap.size ≤ base) : Bel a b := Below.mono h hs
end Go.Proofs.Ytfmijkedhlnccaa
