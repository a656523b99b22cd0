/- Places along: the reference's text. -/
import Derived.Test.YtmipjhnjlpmidaaAlongI
namespace Go.Proofs.Ytmipjhnjlpmidaa
open Go.RowKit Go.ChangeShapes Go.WideShapes
set_option linter.unusedVariables false
set_option linter.unusedSimpArgs false

/-- a slice of numbers that is read while another one grows -/
def Beside (w : World) (out : Value) (S : Option Addr) (zs : List Int) : Prop := Ints w S zs ∧ (0 < zs.length → Apart out S)
theorem Beside.keep {w w' : World} {out : Value} {S : Option Addr} {zs : List Int} (h : Beside w out S zs) (hb : Bel w w') : Beside w' out S zs := ⟨h.1.keep hb, h.2⟩
theorem Beside.step {w w' : World} {out v' : Value} {S : Option Addr} {zs : List Int} (h : Beside w out S zs) (hg : w.grownBy w' out.ownBlock) (ha : v'.ownBlock = out.ownBlock ∨ v'.ownBlock = some w.heap.size) : Beside w' v' S zs := by
  by_cases hz : 0 < zs.length
  · exact ⟨h.1.grown hg (h.2 hz), fun _ => (h.2 hz).step ha h.1 hz⟩
  · exact ⟨fun i hi => by omega, fun h => absurd h hz⟩

theorem autosTo_mono (L : List Rec) {i j : Nat} (h : i ≤ j) : autosTo L i ≤ autosTo L j := by
  induction h with
  | refl => exact Int.le_refl _
  | step _ ih => simp only [autosTo]; split <;> split <;> omega
theorem autosTo_lt7 {L : List Rec} {k n : Nat} (h : k < n) (h7 : (rec_ L k).b 7 = true) : autosTo L k < autosTo L n := by
  have := autosTo_mono L (show k + 1 ≤ n by omega)
  simp only [autosTo] at this
  rw [if_pos h7] at this
  split at this <;> omega
theorem autosTo_lt8 {L : List Rec} {k n : Nat} (h : k < n) (h8 : (rec_ L k).b 8 = true) : autosTo L k + (if (rec_ L k).b 7 = true then 1 else 0) < autosTo L n := by
  have := autosTo_mono L (show k + 1 ≤ n by omega)
  simp only [autosTo] at this
  rw [if_pos h8] at this
  omega

end Go.Proofs.Ytmipjhnjlpmidaa
