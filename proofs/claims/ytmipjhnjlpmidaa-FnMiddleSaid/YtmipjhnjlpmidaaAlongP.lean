/- Places along where the arguments are right: the reference's text. -/
import Derived.Test.YtmipjhnjlpmidaaAlongS
namespace Go.Proofs.Ytmipjhnjlpmidaa
open Go.RowKit Go.ChangeShapes Go.WideShapes
set_option linter.unusedVariables false
set_option linter.unusedSimpArgs false

def PlacesRet (w : World) (L : List Rec) (zs : List Int) (gap inner justify : Int) (r : Ending) (w' : World) : Prop :=
  ∃ v, r = .returned (.tuple #[v, .int .i64 (alongE L zs gap inner justify)]) ∧ w'.ownsRow w.heap.size 3 1 v (alongL L zs gap inner justify).length (VI (alongL L zs gap inner justify)) ∧ Bel w w'

theorem VI_zeros (n : Nat) : List.replicate n (Value.int .i64 0) = VI (List.replicate n 0) := by simp [VI]
theorem zeros_at (n i : Nat) : at_ (List.replicate n 0) i = 0 := by
  by_cases h : i < n <;> simp [at_, List.getD, h]
theorem Beside.new {w : World} {g base n cs : Nat} {e : TypeId} {S : Option Addr} {zs : List Int} (ho : w.ownsRow base e 1 (.slice S n cs) n (VI zs)) (h : g < base) : Beside w (.slice (some ⟨g, 0, none⟩) 0 0) S zs :=
  ⟨own_ints ho, fun _ g' b o h1 h2 => by
    subst h2
    have := (ho.lt b rfl).1
    simp [Value.ownBlock] at h1
    omega⟩
theorem Beside.none_ {w : World} {out : Value} {S : Option Addr} : Beside w out S [] := ⟨Ints.nil _ _, fun h => by simp at h⟩

end Go.Proofs.Ytmipjhnjlpmidaa
