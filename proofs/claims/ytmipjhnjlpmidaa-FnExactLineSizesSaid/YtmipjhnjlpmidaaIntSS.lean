/- Slices of slices of ints: the law's own helpers. -/
import Derived.Test.YtmipjhnjlpmidaaApp
import Derived.Deep.Matrix
namespace Go.Proofs.Ytmipjhnjlpmidaa
open Go.RowKit Go.ChangeShapes Go.WideShapes
set_option linter.unusedVariables false
set_option linter.unusedSimpArgs false

theorem Try.info_intsS : (Try.prog.info? 29).map (fun i => (i.zero, i.size, i.bytes)) = some (some (.slice none 0 0), 1, 24) := by kernel_rfl

def totLen (LL : List (List Int)) : Nat := (LL.map List.length).sum
def totTo (LL : List (List Int)) (k : Nat) : Nat := totLen (LL.take k)
theorem totTo_succ {LL : List (List Int)} {k : Nat} (h : k < LL.length) : totTo LL (k + 1) = totTo LL k + (LL.getD k []).length := by
  unfold totTo totLen
  rw [List.take_add_one, getD_eq h]
  simp
theorem totTo_le (LL : List (List Int)) : ∀ (k : Nat), totTo LL k ≤ totLen LL := fun k => by
  have : totLen LL = totLen (LL.take k) + totLen (LL.drop k) := by
    unfold totLen
    rw [← List.sum_append, ← List.map_append, List.take_append_drop]
  unfold totTo
  omega
theorem len_le_tot {LL : List (List Int)} {k : Nat} (h : k < LL.length) : (LL.getD k []).length ≤ totLen LL := by
  have h1 := totTo_succ h
  have h2 := totTo_le LL (k + 1)
  omega

theorem open_intSS {H : Type} {enc : TypeId × Value → H} {P : Program} {w : World} {base : Nat} {r : Reach} {b0 : Nat} {t e q : TypeId} {v : Value} {d : DataW H} {p : List MemPlace}
    (hs : P.underlying t = some (.slice e)) (he : P.underlying e = some (.slice q)) (hq : P.underlying q = some (.int .i64)) (ce : P.cellsOf e = 1) (cq : P.cellsOf q = 1)
    (hv : Value.okWide P w r b0 t v) (h : DataW.Trod enc P w base (fun _ => true) true t v d p) :
    ∃ A c LL, v = .slice A LL.length c ∧ LL.length ≤ c ∧ c ≤ maxLen ∧ (∀ j, (LL.getD j []).length ≤ maxLen) ∧ Rows2 w A LL := by
  obtain ⟨a, len, cap, rfl⟩ := okWide_slice hs hv
  obtain ⟨n, hn⟩ := h
  rcases Go.Deep.open_int_rows hs he hq ce cq hn with ⟨h0, _⟩ | ⟨a', len', cap', A, Ln, C, Z, h0, _, hl, hm, _, hx⟩
  · simp [Value.cells] at h0
    obtain ⟨rfl, rfl, rfl⟩ := h0
    exact ⟨none, 0, [], rfl, by simp, by simp, fun j => by simp, fun i hi => absurd hi (Nat.not_lt_zero _)⟩
  · simp [Value.cells] at h0
    obtain ⟨rfl, rfl, rfl⟩ := h0
    have hat : ∀ j, j < len → ((List.range len).map fun r => (Z r).take (Ln r)).getD j [] = (Z j).take (Ln j) := fun j hj => by simp [List.getD, hj]
    have hlen : ∀ j, j < len → ((Z j).take (Ln j)).length = Ln j := fun j hj => by
      obtain ⟨_, h1, _, h3, _⟩ := hx j (by omega)
      rw [List.length_take]; omega
    refine ⟨some a', cap, (List.range len).map fun r => (Z r).take (Ln r), by simp, by simpa using hl, hm, fun j => ?_, fun i hi => ?_⟩
    · by_cases hj : j < len
      · rw [hat j hj, hlen j hj]
        obtain ⟨_, h1, h2, _⟩ := hx j (by omega)
        omega
      · simp [List.getD, hj]
    · simp at hi
      obtain ⟨b, o, s⟩ := a'
      have h00 := (hx 0 (by omega)).1
      have hsp : s = none := by simpa [Addr.add] using World.cell?_spot h00
      subst hsp
      have eadd : ∀ (b o j : Nat), (⟨b, o, none⟩ : Addr).add j = ⟨b, o + j, none⟩ := fun b o j => by
        unfold Addr.add
        split
        · rename_i h; subst h; rfl
        · rfl
      refine ⟨b, o, rfl, by simpa [Addr.add] using World.block_lt_of_cell? w _ h00, fun j hj => ?_⟩
      simp at hj
      obtain ⟨c1, c2, c3, c4, _, c6, c7⟩ := hx j (by omega)
      rw [hat j hj, hlen j hj]
      refine ⟨A j, C j, by rw [← eadd]; exact c1, c2, c3, c6, fun i' hi' => ?_⟩
      rw [hlen j hj] at hi'
      have hA : ∃ a'', A j = some a'' := by
        cases hA : A j with
        | none => have := c6 hA; omega
        | some a'' => exact ⟨a'', rfl⟩
      obtain ⟨⟨b2, o2, s2⟩, hA⟩ := hA
      obtain ⟨_, c8⟩ := c7 _ hA
      have h01 := c8 0 (by omega)
      have hsp2 : s2 = none := by simpa [Addr.add] using World.cell?_spot h01
      subst hsp2
      refine ⟨b2, o2, hA, by simpa [Addr.add] using World.block_lt_of_cell? w _ h01, fun q hq' => ?_⟩
      rw [hlen j hj] at hq'
      have := c8 q (by omega)
      rw [eadd] at this
      rw [this]
      have : at_ ((Z j).take (Ln j)) q = (Z j).getD q 0 := by
        unfold at_
        simp [List.getD, List.getElem?_take, hq']
      rw [this]

end Go.Proofs.Ytmipjhnjlpmidaa
