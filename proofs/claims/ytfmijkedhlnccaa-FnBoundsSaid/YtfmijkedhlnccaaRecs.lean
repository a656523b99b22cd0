/- Slices of structs of ints and bools: the plain predicates. -/
import Derived.Test.YtfmijkedhlnccaaMark
import Derived.StillTailTactics
namespace Go.Proofs.Ytfmijkedhlnccaa
open Go.RowKit Go.ChangeShapes Go.WideShapes
set_option linter.unusedVariables false
set_option linter.unusedSimpArgs false

/-- what a flat struct holds: the number or the flag of each of its cells -/
structure Rec where
  s : Nat → Int
  b : Nat → Bool
def Rec.zero : Rec := ⟨fun _ => 0, fun _ => false⟩
def rec_ (L : List Rec) (i : Nat) : Rec := L.getD i Rec.zero
def rcells (ks : List Bool) (r : Rec) : List Value := mk r.s r.b 0 ks
def RV (ks : List Bool) (L : List Rec) : List Value := L.flatMap (rcells ks)
theorem rcells_length (ks : List Bool) (r : Rec) : (rcells ks r).length = ks.length := mk_length _ _ _ _
theorem rec_eq {L : List Rec} {i : Nat} (h : i < L.length) : L[i]? = some (rec_ L i) := by simp [rec_, List.getD, List.getElem?_eq_getElem h]
theorem rec_get {L : List Rec} {i : Nat} (h : i < L.length) : rec_ L i = L[i] := by simp [rec_, List.getD, List.getElem?_eq_getElem h]
theorem RV_length (ks : List Bool) (L : List Rec) : (RV ks L).length = L.length * ks.length := by
  induction L with
  | nil => simp [RV]
  | cons r L ih => simp only [RV, List.flatMap_cons, List.length_append, rcells_length, List.length_cons] at ih ⊢; rw [ih, Nat.add_mul, Nat.one_mul, Nat.add_comm]
theorem RV_cons (ks : List Bool) (r : Rec) (L : List Rec) : RV ks (r :: L) = rcells ks r ++ RV ks L := by simp [RV]
theorem RV_at {ks : List Bool} : ∀ {L : List Rec} {i j : Nat}, i < L.length → j < ks.length → (RV ks L)[i * ks.length + j]? = (rcells ks (rec_ L i))[j]?
  | r :: L, 0, j, _, hj => by rw [RV_cons, Nat.zero_mul, Nat.zero_add, List.getElem?_append_left (by rw [rcells_length]; exact hj)]; rfl
  | r :: L, i + 1, j, hi, hj => by
    rw [RV_cons, List.getElem?_append_right (by rw [rcells_length, Nat.add_mul]; omega), rcells_length, Nat.add_mul, Nat.one_mul,
      show i * ks.length + ks.length + j - ks.length = i * ks.length + j by omega, RV_at (by simpa using hi) hj]
    rfl
theorem RV_snoc (ks : List Bool) (L : List Rec) (r : Rec) : RV ks L ++ rcells ks r = RV ks (L ++ [r]) := by simp [RV]

/-- the slice at A reads as the structs L -/
def Recs (w : World) (A : Option Addr) (ks : List Bool) (L : List Rec) : Prop :=
  ∀ i, i < L.length → ∃ b o, A = some ⟨b, o, none⟩ ∧ b < w.heap.size ∧ ∀ i' , i' < L.length → ∀ j v, (rcells ks (rec_ L i'))[j]? = some v → w.cell? ⟨b, o + i' * ks.length + j, none⟩ = some v

theorem Recs.keep {w w' : World} {A : Option Addr} {ks : List Bool} {L : List Rec} (h : Recs w A ks L) (hb : Bel w w') : Recs w' A ks L := fun i hi => by
  obtain ⟨b, o, h1, h2, h3⟩ := h i hi
  exact ⟨b, o, h1, Nat.lt_of_lt_of_le h2 hb.sz, fun i' hi' j v hv => (hb.cell _ _ h2).trans (h3 i' hi' j v hv)⟩
theorem Recs.nil (w : World) (A : Option Addr) (ks : List Bool) : Recs w A ks [] := fun _ hi => absurd hi (Nat.not_lt_zero _)
theorem lt_of_get {α : Type} {l : List α} {j : Nat} {v : α} (h : l[j]? = some v) : j < l.length := by
  rcases Nat.lt_or_ge j l.length with h1 | h1
  · exact h1
  · rw [List.getElem?_eq_none h1] at h; cases h
theorem mul_lt {i j n C : Nat} (hi : i < n) (hj : j < C) : i * C + j < n * C := by
  have : (i + 1) * C ≤ n * C := Nat.mul_le_mul_right _ hi
  rw [Nat.add_mul, Nat.one_mul] at this
  omega
theorem Recs.of_own {w : World} {base : Nat} {e : TypeId} {g n c : Nat} {ks : List Bool} {L : List Rec} (hn : n = L.length) (h : w.ownsRow base e ks.length (.slice (some ⟨g, 0, none⟩) n c) n (RV ks L)) : Recs w (some ⟨g, 0, none⟩) ks L := fun _ _ => by
  refine ⟨g, 0, rfl, (h.lt g rfl).2, fun i' hi' j v hv => ?_⟩
  have hj := lt_of_get hv
  rw [rcells_length] at hj
  subst hn
  rw [Nat.zero_add, h.cellAt _ (mul_lt hi' hj), RV_at hi' hj]
  exact hv
theorem own_openR {w : World} {base : Nat} {e : TypeId} {v : Value} {n : Nat} {ks : List Bool} {L : List Rec} (hn : n = L.length) (h : w.ownsRow base e ks.length v n (RV ks L)) :
    ∃ A c, v = .slice A L.length c ∧ L.length ≤ c ∧ c ≤ maxLen ∧ Recs w A ks L := by
  subst hn
  have h' := h
  rcases h.2 with ⟨rfl, h0⟩ | ⟨g, cap, cur, rfl, _, _, hnc, hcm, _⟩
  · have : L = [] := List.eq_nil_of_length_eq_zero h0
    subst this
    exact ⟨none, 0, rfl, by simp, by simp, Recs.nil _ _ _⟩
  · exact ⟨_, _, rfl, hnc, hcm, Recs.of_own rfl h'⟩

/-- a slice of flat structs that came in -/
theorem open_recs {H : Type} {enc : TypeId × Value → H} {P : Program} {w : World} {base : Nat} {spare : Nat → Bool} {held : Bool} {t e : TypeId} {n : Nat} {x : DataW H × List MemPlace} {v : Value} {ts : List TypeId} {ks : List Bool} (k : Nat)
    (hs : P.underlying t = some (.slice e)) (hl : leaves P k e = some ts) (hk : kinds P ts = some ks) (hC : P.cellsOf e = ks.length) (hpos : 0 < ks.length) (h : DataW.trod enc P w base spare held n t [v] = some x) :
    ∃ A c L, v = .slice A L.length c ∧ L.length ≤ c ∧ c ≤ maxLen ∧ (∀ i j, In64 ((rec_ L i).s j)) ∧ Recs w A ks L := by
  rcases Go.Deep.open_slice hs h with ⟨h0, _⟩ | ⟨a', len', cap', m, n', D, Pl, h0, _, hl', hm, hmm, _, hx⟩
  · simp only [List.cons.injEq, and_true] at h0
    subst h0
    exact ⟨none, 0, [], rfl, by simp, by simp, fun i j => by simp [rec_, Rec.zero, In64], Recs.nil _ _ _⟩
  · simp only [List.cons.injEq, and_true] at h0
    subst h0
    have hle : len' ≤ m := by rw [hmm]; split <;> omega
    have hrec : ∀ i, i < len' → ∃ r : Rec, (∀ j, In64 (r.s j)) ∧ w.cells? base (a'.add (i * ks.length)) ks.length = some (rcells ks r) := fun i hi => by
      obtain ⟨cs', h1, h2⟩ := hx i (by omega)
      obtain ⟨s, b, h3, h4⟩ := flat_mk cs' ts ks 0 hk (leaves_flat k _ e cs' _ ts hl h2)
      exact ⟨⟨s, b⟩, h3, by rw [hC] at h1; rw [h1, h4]; rfl⟩
    obtain ⟨R, hR⟩ := @Go.Deep.choose_lt Rec ⟨Rec.zero⟩ _ _ hrec
    have hat : ∀ j, j < len' → rec_ ((List.range len').map R) j = R j := fun j hj => by simp [rec_, List.getD, hj]
    refine ⟨some a', cap', (List.range len').map R, by simp, by simpa using hl', hm, fun i j => ?_, fun i hi => ?_⟩
    · by_cases hi : i < len'
      · rw [hat i hi]; exact (hR i hi).1 j
      · simp [rec_, List.getD, hi, Rec.zero, In64]
    · simp at hi
      obtain ⟨b, o, sp⟩ := a'
      have cell : ∀ i' j v, i' < len' → (rcells ks (R i'))[j]? = some v → w.cell? ((⟨b, o, sp⟩ : Addr).add (i' * ks.length + j)) = some v := fun i' j v hi' hv => by
        obtain ⟨_, hlen, hc⟩ := World.cells?_some (hR i' hi').2
        have hj := lt_of_get hv
        rw [rcells_length] at hj
        have := hc j hj
        rw [Go.Deep.add_add, hv] at this
        exact this
      obtain ⟨v0, hv0⟩ : ∃ v0, (rcells ks (R 0))[0]? = some v0 := ⟨_, List.getElem?_eq_getElem (by rw [rcells_length]; exact hpos)⟩
      have h00 := cell 0 0 v0 (by omega) hv0
      rw [Nat.zero_mul, Nat.add_zero] at h00
      have hsp : sp = none := by simpa [Addr.add] using World.cell?_spot h00
      subst hsp
      refine ⟨b, o, rfl, by simpa [Addr.add] using World.block_lt_of_cell? w _ h00, fun i' hi' j v hv => ?_⟩
      simp at hi'
      rw [hat i' hi'] at hv
      have := cell i' j v hi' hv
      have e : (⟨b, o, none⟩ : Addr).add (i' * ks.length + j) = ⟨b, o + i' * ks.length + j, none⟩ := by
        unfold Addr.add
        split
        · rename_i h; rw [Nat.add_assoc, h]; rfl
        · rw [Nat.add_assoc]
      rw [← e]
      exact this

theorem okWide_slice1 {H : Type} {enc : TypeId × Value → H} {P : Program} {w : World} {base : Nat} {spare : Nat → Bool} {held : Bool} {r : Reach} {b0 : Nat} {t e : TypeId} {v : Value} {d : DataW H} {p : List MemPlace}
    (hs : P.underlying t = some (.slice e)) (hv : Value.okWide P w r b0 t v) (h : DataW.Trod enc P w base spare held t v d p) : ∃ n x, DataW.trod enc P w base spare held n t [v] = some x := by
  obtain ⟨a, len, cap, rfl⟩ := okWide_slice hs hv
  obtain ⟨n, hn⟩ := h
  exact ⟨n, _, hn⟩

theorem open_recsV {H : Type} {enc : TypeId × Value → H} {P : Program} {w : World} {base : Nat} {spare : Nat → Bool} {held : Bool} {r : Reach} {b0 : Nat} {t e : TypeId} {v : Value} {d : DataW H} {p : List MemPlace} {ts : List TypeId} {ks : List Bool}
    (hs : P.underlying t = some (.slice e)) (hl : leaves P 5 e = some ts) (hk : kinds P ts = some ks) (hC : P.cellsOf e = ks.length) (hpos : 0 < ks.length)
    (hv : Value.okWide P w r b0 t v) (h : DataW.Trod enc P w base spare held t v d p) :
    ∃ A c L, v = .slice A L.length c ∧ L.length ≤ c ∧ c ≤ maxLen ∧ (∀ i j, In64 ((rec_ L i).s j)) ∧ Recs w A ks L := by
  obtain ⟨n, x, hx⟩ := okWide_slice1 hs hv h
  exact open_recs 5 hs hl hk hC hpos hx

/-- a struct of one slice of flat structs -/
theorem open_table {H : Type} {enc : TypeId × Value → H} {P : Program} {w : World} {base : Nat} {spare : Nat → Bool} {held : Bool} {r : Reach} {b0 : Nat} {t s e : TypeId} {fs : Array Field} {v : Value} {d : DataW H} {p : List MemPlace} {ts ts' : List TypeId} {ks : List Bool}
    (hs : P.underlying t = some (.struct fs)) (hsl : P.underlying s = some (.slice e)) (hl : leaves P 5 t = some ts) (hts : ts = [s]) (hl' : leaves P 5 e = some ts') (hk : kinds P ts' = some ks) (hC : P.cellsOf e = ks.length) (hpos : 0 < ks.length)
    (hv : Value.okWide P w r b0 t v) (h : DataW.Trod enc P w base spare held t v d p) :
    ∃ A c L, v = .agg #[.slice A L.length c] ∧ L.length ≤ c ∧ c ≤ maxLen ∧ (∀ i j, In64 ((rec_ L i).s j)) ∧ Recs w A ks L := by
  obtain ⟨cs, rfl, _⟩ := okWide_struct hs hv
  obtain ⟨n, hn⟩ := h
  have hf := leaves_flat 5 n t _ _ ts hl hn
  subst hts
  simp only [Value.cells] at hf
  obtain ⟨cs⟩ := cs
  match cs, hf with
  | [c0], hf =>
    obtain ⟨⟨m, y, hy⟩, _⟩ := hf
    obtain ⟨A, c, L, rfl, h1, h2, h3, h4⟩ := open_recs 5 hsl hl' hk hC hpos hy
    exact ⟨A, c, L, rfl, h1, h2, h3, h4⟩
  | [], hf => exact hf.elim
  | _ :: _ :: _, hf => exact hf.2.elim

def allR (p : Rec → Bool) (L : List Rec) : Bool := L.all p
theorem allR_true {p : Rec → Bool} {L : List Rec} (h : ∀ j, j < L.length → p (rec_ L j) = true) : allR p L = true := by
  unfold allR
  rw [List.all_eq_true]
  intro z hz
  obtain ⟨i, hi, rfl⟩ := List.getElem_of_mem hz
  have := h i hi
  rw [show rec_ L i = L[i] by simp [rec_, List.getD, List.getElem?_eq_getElem hi]] at this
  exact this
theorem rec_mem {L : List Rec} {i : Nat} (h : i < L.length) : rec_ L i ∈ L := List.mem_of_getElem? (rec_eq h)
theorem allR_false {p : Rec → Bool} {L : List Rec} {k : Nat} (hk : k < L.length) (h : p (rec_ L k) = false) : allR p L = false := by
  unfold allR
  rw [List.all_eq_false]
  exact ⟨_, rec_mem hk, by rw [h]; decide⟩
theorem allR_at {p : Rec → Bool} {L : List Rec} (h : allR p L = true) {k : Nat} (hk : k < L.length) : p (rec_ L k) = true := by
  unfold allR at h
  rw [List.all_eq_true] at h
  exact h _ (rec_mem hk)

/-- values stored one behind the other -/
def setRun (xs : List Value) (p : Nat) : List Value → List Value
  | [] => xs
  | v :: vs => setRun (xs.set p v) (p + 1) vs
theorem setRun_length : ∀ (vs : List Value) (xs : List Value) (p : Nat), (setRun xs p vs).length = xs.length
  | [], _, _ => rfl
  | v :: vs, xs, p => by rw [setRun, setRun_length vs]; simp
theorem setRun_before : ∀ (vs : List Value) (xs : List Value) (p j : Nat), j < p → (setRun xs p vs)[j]? = xs[j]?
  | [], _, _, _, _ => rfl
  | v :: vs, xs, p, j, h => by rw [setRun, setRun_before vs _ _ _ (by omega), List.getElem?_set, if_neg (by omega)]
theorem setRun_in : ∀ (vs : List Value) (xs : List Value) (p j : Nat), p + vs.length ≤ xs.length → j < vs.length → (setRun xs p vs)[p + j]? = vs[j]?
  | [], _, _, _, _, h => by simp at h
  | v :: vs, xs, p, 0, hl, _ => by
    simp only [List.length_cons] at hl
    rw [setRun, setRun_before vs _ _ _ (by omega), List.getElem?_set, if_pos (by omega), if_pos (by omega)]
    rfl
  | v :: vs, xs, p, j + 1, hl, h => by
    simp only [List.length_cons] at hl h
    rw [setRun, show p + (j + 1) = p + 1 + j by omega, setRun_in vs _ _ _ (by simp; omega) (by omega)]
    rfl
/-- the next struct is stored -/
theorem run_step {ks : List Bool} {L : List Rec} {xs : List Value} {k : Nat} (hl : xs.length = L.length * ks.length) (hk : k < L.length) (hx : ∀ j, j < k * ks.length → xs[j]? = (RV ks L)[j]?) :
    ∀ j, j < (k + 1) * ks.length → (setRun xs (k * ks.length) (rcells ks (rec_ L k)))[j]? = (RV ks L)[j]? := by
  intro j hj
  rw [Nat.add_mul, Nat.one_mul] at hj
  have hm : (k + 1) * ks.length ≤ L.length * ks.length := Nat.mul_le_mul_right _ hk
  rw [Nat.add_mul, Nat.one_mul] at hm
  by_cases h : j < k * ks.length
  · rw [setRun_before _ _ _ _ h, hx j h]
  · obtain ⟨i, rfl⟩ : ∃ i, j = k * ks.length + i := ⟨j - k * ks.length, by omega⟩
    rw [setRun_in _ _ _ _ (by rw [rcells_length]; omega) (by rw [rcells_length]; omega), RV_at hk (by omega)]
theorem run_done {ks : List Bool} {L : List Rec} {xs : List Value} (hl : xs.length = L.length * ks.length) (hx : ∀ j, j < L.length * ks.length → xs[j]? = (RV ks L)[j]?) : xs = RV ks L := by
  apply List.ext_getElem?
  intro i
  by_cases hi : i < L.length * ks.length
  · exact hx i hi
  · rw [List.getElem?_eq_none (by omega), List.getElem?_eq_none (by rw [RV_length]; omega)]
end Go.Proofs.Ytfmijkedhlnccaa
