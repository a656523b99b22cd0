/- markIntS, heldIntS: the numbers written, and read back. -/
import Derived.Test.YtfmijkedhlnccaaInts
import Derived.Maps.AppendAt
namespace Go.Proofs.Ytfmijkedhlnccaa
open Go.RowKit Go.ChangeShapes Go.WideShapes
set_option linter.unusedVariables false
set_option linter.unusedSimpArgs false

def marks (k : Int) (n : Nat) : List Int := (List.range n).map fun i : Nat => k + (i : Int)
theorem marks_length (k : Int) (n : Nat) : (marks k n).length = n := by simp [marks]
theorem marks_at (k : Int) {n i : Nat} (h : i < n) : at_ (marks k n) i = k + (i : Int) := by simp [at_, marks, List.getD, h]

theorem own_ne {a b : World} {base1 base2 n1 n2 s1 s2 : Nat} {e1 e2 : TypeId} {v1 v2 : Value} {xs1 xs2 : List Value} (h1 : a.ownsRow base1 e1 s1 v1 n1 xs1) (h2 : b.ownsRow base2 e2 s2 v2 n2 xs2) (h : a.heap.size ≤ base2) :
    v1.ownBlock = none ∨ v1.ownBlock ≠ v2.ownBlock := by
  cases hv : v1.ownBlock with
  | none => exact .inl rfl
  | some k =>
    right
    intro e
    have l1 := h1.lt k hv
    have l2 := h2.lt k e.symm
    omega
theorem own_ne' {a b : World} {base1 base2 n1 n2 s1 s2 : Nat} {e1 e2 : TypeId} {v1 v2 : Value} {xs1 xs2 : List Value} (h1 : a.ownsRow base1 e1 s1 v1 n1 xs1) (h2 : b.ownsRow base2 e2 s2 v2 n2 xs2) (h : a.heap.size ≤ base2) :
    v2.ownBlock = none ∨ v2.ownBlock ≠ v1.ownBlock := by
  cases hv : v2.ownBlock with
  | none => exact .inl rfl
  | some k =>
    right
    intro e
    have l1 := h1.lt k e.symm
    have l2 := h2.lt k hv
    omega

/-- one int appended to a row of the call's own, and where the row lies then -/
theorem app1w {w : World} {ops : Array Oper} {rest : List Oper} {o : Oper} {a : Act} {Q : Exit → Act → World → Prop} (hgd : o.guard = none) (s x : Operand)
    (ho : o.op = .call { callee := .builtin .append, args := #[s, x], argTypes := #[54, 54] })
    (base : Nat) (v : Value) (n : Nat) (xs : List Value) (hs : a.eval s = v) (hown : w.ownsRow base 3 1 v n xs) (g : Nat) (z : Int) (hx : a.eval x = .slice (some ⟨g, 0, none⟩) 1 1)
    (hcell : w.cell? ⟨g, 0, none⟩ = some (.int .i64 z)) (hn : n ≤ 4194304) (hbase : base ≤ w.heap.size)
    (h : ∀ v' w', w'.ownsRow base 3 1 v' (n + 1) (xs ++ [.int .i64 z]) → w.grownBy w' v.ownBlock → (v'.ownBlock = v.ownBlock ∨ v'.ownBlock = some w.heap.size) → wpList Try.prog ops Q rest (a.put o.dst v') w') : wpList Try.prog ops Q (o :: rest) a w := by
  obtain ⟨i0, hi, hz0, hz1, hz2⟩ := info_parts Try.info_int
  obtain ⟨v', w', hrun, h2, h3, _, h5⟩ := run_append_own_at (P := Try.prog) w base 54 o.type 3 i0 (.int .i64 0) 1 8 Try.underlying54 hi hz0 hz1 hz2 rfl (by decide) v n xs hown ⟨g, 0, none⟩ 1 1 [.int .i64 z] rfl (fun j u hj => by
    match j, hj with
    | 0, hj => simp at hj; subst hj; simpa [Addr.add] using hcell) (fun u hu => by simp at hu; subst hu; rfl) (by unfold maxLen; omega) (by omega) hbase
  refine wpList_plain hgd fun K hK => ?_
  unfold Oper.wp execOp
  simp only [ho, resolve, invoke, builtin, Sem.run_bind, Sem.run_pure, Result.andThen_ok, List.map_toArray, List.map_cons, List.map_nil, hs, hx, hrun]
  exact hK _ _ (h v' w' h2 h3 h5)

/-- the slice at S does not lie in the row v -/
def Apart (v : Value) (S : Option Addr) : Prop := ∀ g b o, v.ownBlock = some g → S = some ⟨b, o, none⟩ → g ≠ b
theorem Ints.grown {w w' : World} {v : Value} {S : Option Addr} {zs : List Int} (h : Ints w S zs) (hg : w.grownBy w' v.ownBlock) (ha : Apart v S) : Ints w' S zs := fun i hi => by
  obtain ⟨b, o, h1, h2, h3⟩ := h i hi
  exact ⟨b, o, h1, Nat.lt_of_lt_of_le h2 hg.size, fun j hj => hg.cell (a := ⟨b, o + j, none⟩) (h3 j hj) (fun e => ha b b o e.symm h1 rfl)⟩
theorem Apart.step {w : World} {v v' : Value} {S : Option Addr} {zs : List Int} (ha : Apart v S) (h : v'.ownBlock = v.ownBlock ∨ v'.ownBlock = some w.heap.size) (hI : Ints w S zs) (hz : 0 < zs.length) : Apart v' S := by
  intro g b o h1 h2
  rcases h with h | h
  · exact ha g b o (by rw [← h]; exact h1) h2
  · rw [h] at h1
    injection h1 with h1
    obtain ⟨b', o', e, hl, _⟩ := hI 0 hz
    rw [h2] at e
    injection e with e
    injection e with e
    omega

end Go.Proofs.Ytfmijkedhlnccaa
