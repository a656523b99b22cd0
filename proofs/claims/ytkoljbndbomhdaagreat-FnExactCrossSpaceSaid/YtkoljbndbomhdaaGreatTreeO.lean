/- A tree that came in, opened; the nodes of a tree and the first functions over them. -/
import Derived.Test.YtkoljbndbomhdaaGreatTreeS
namespace Go.Proofs.YtkoljbndbomhdaaGreat
open Go.RowKit Go.ChangeShapes Go.WideShapes
set_option linter.unusedVariables false
set_option linter.unusedSimpArgs false

theorem Flat.split {rd : Value → TypeId → Prop} : ∀ {cs : List Value} (ta : List TypeId) {tb : List TypeId}, Flat rd cs (ta ++ tb) → ∃ a b, cs = a ++ b ∧ Flat rd a ta ∧ Flat rd b tb
  | cs, [], tb, h => ⟨[], cs, rfl, trivial, h⟩
  | c :: cs, t :: ta, tb, h => by
    obtain ⟨h1, h2⟩ := h
    obtain ⟨a, b, rfl, h3, h4⟩ := Flat.split ta h2
    exact ⟨c :: a, b, rfl, ⟨h1, h3⟩, h4⟩
  | [], _ :: _, _, h => h.elim
section
variable {H : Type} {enc : TypeId × Value → H} {P : Program} {w : World} {base : Nat} {spare : Nat → Bool} {held : Bool}
theorem open_ints1 {t e : TypeId} {n : Nat} {v : Value} {x : DataW H × List MemPlace} (hs : P.underlying t = some (.slice e)) (he : P.underlying e = some (.int .i64)) (hC : P.cellsOf e = 1) (hn : DataW.trod enc P w base spare held n t [v] = some x) :
    ∃ A c zs, v = .slice A zs.length c ∧ zs.length ≤ c ∧ c ≤ maxLen ∧ (∀ i, In64 (at_ zs i)) ∧ Ints w A zs := by
  rcases Go.Deep.open_slice1 hs hC hn with ⟨h0, _⟩ | ⟨a', len', cap', m, n', V, D, Pl, h0, _, hl, hm, hmm, _, hx⟩
  · simp only [List.cons.injEq, and_true] at h0
    subst h0
    exact ⟨none, 0, [], rfl, by simp, by simp, fun i => by simp [at_, In64], Ints.nil _ _⟩
  · simp only [List.cons.injEq, and_true] at h0
    subst h0
    have hle : len' ≤ m := by rw [hmm]; split <;> omega
    have hint : ∀ i, i < len' → ∃ z : Int, V i = .int .i64 z ∧ In64 z := fun i hi => by
      obtain ⟨z, hz, _, hw⟩ := DataW.trod_int he (hx i (by omega)).2
      simp only [List.cons.injEq, and_true] at hz
      exact ⟨z, hz, in64_of_wf hw⟩
    obtain ⟨Z, hZ⟩ := Go.Deep.choose_lt (α := Int) hint
    have hat : ∀ j, j < len' → at_ ((List.range len').map Z) j = Z j := fun j hj => by simp [at_, List.getD, hj]
    refine ⟨some a', cap', (List.range len').map Z, by simp, by simpa using hl, hm, fun i => ?_, fun i hi => ?_⟩
    · by_cases hi : i < len'
      · rw [hat i hi]; exact (hZ i hi).2
      · simp [at_, List.getD, hi, In64]
    · simp at hi
      obtain ⟨b, o, s⟩ := a'
      have h0 := (hx 0 (by omega)).1
      have hsp : s = none := by simpa [Addr.add] using World.cell?_spot h0
      subst hsp
      refine ⟨b, o, rfl, by simpa [Addr.add] using World.block_lt_of_cell? w _ h0, fun j hj => ?_⟩
      simp at hj
      rw [hat j hj, ← (hZ j hj).1]
      have hj' := (hx j (by omega)).1
      rw [Addr.add_mid] at hj'
      exact hj'
/-- the 64 values of a node that came in -/
theorem open_nodeL {ti tk tb tr er tu : TypeId} {tst rts : List TypeId} {cs : List Value} (hti : P.underlying ti = some (.int .i64)) (hi1 : P.cellsOf ti = 1) (htk : P.underlying tk = some (.slice ti)) (hst : kinds P tst = some k_style) (htb : P.underlying tb = some .bool)
    (htr : P.underlying tr = some (.slice er)) (hrl : leaves P 5 er = some rts) (hrk : kinds P rts = some k_rule) (hrc : P.cellsOf er = 3)
    (h : Flat (ReadsAs enc P w base spare held) cs (ti :: tk :: (tst ++ [tb, tr]))) :
    ∃ x : NodeD, In64 x.up ∧ (∀ i, In64 (at_ x.kids i)) ∧ (∀ j, In64 (x.style.s j)) ∧ (∀ i j, In64 ((rec_ x.rules i).s j)) ∧ NodeAt w x cs := by
  match cs, h with
  | c0 :: c1 :: cs', ⟨⟨m0, y0, r0⟩, ⟨m1, y1, r1⟩, h2⟩ =>
    obtain ⟨a, b, rfl, h3, h4⟩ := Flat.split tst h2
    match b, h4 with
    | [c2, c3], ⟨⟨m2, y2, r2⟩, ⟨m3, y3, r3⟩, _⟩ =>
      obtain ⟨up, hu, _, hw⟩ := DataW.trod_int hti r0
      simp only [List.cons.injEq, and_true] at hu
      subst hu
      obtain ⟨K, ck, kids, rfl, k1, k2, k3, k4⟩ := open_ints1 htk hti hi1 r1
      obtain ⟨s, bb, s1, rfl⟩ := flat_mk a tst k_style 0 hst h3
      obtain ⟨me, hm, _⟩ := DataW.trod_bool htb r2
      simp only [List.cons.injEq, and_true] at hm
      subst hm
      obtain ⟨R, cr, rules, rfl, q1, q2, q3, q4⟩ := open_recs 5 htr hrl hrk (by rw [hrc]; rfl) (by decide) r3
      have hmx := maxLen_i63
      exact ⟨⟨up, kids, ⟨s, bb⟩, me, rules⟩, in64_of_wf hw, k3, s1, q3, K, ck, R, cr, rfl, k4, q4, by dsimp only; omega, by dsimp only; omega⟩
    | [], h4 => exact h4.elim
    | [_], h4 => exact h4.2.elim
    | _ :: _ :: _ :: _, h4 => exact h4.2.2.elim
  | [], h => exact h.elim
  | [_], h => exact h.2.elim
theorem open_tree {r : Reach} {b0 : Nat} {t s e : TypeId} {fs : Array Field} {v : Value} {d : DataW H} {p : List MemPlace} {ti tk tb tr er : TypeId} {tst rts ts : List TypeId}
    (hs : P.underlying t = some (.struct fs)) (hl : leaves P 5 t = some [s]) (hsl : P.underlying s = some (.slice e)) (hl' : leaves P 5 e = some ts) (hts : ts = ti :: tk :: (tst ++ [tb, tr])) (hC : P.cellsOf e = 64)
    (hti : P.underlying ti = some (.int .i64)) (hi1 : P.cellsOf ti = 1) (htk : P.underlying tk = some (.slice ti)) (hst : kinds P tst = some k_style) (htb : P.underlying tb = some .bool)
    (htr : P.underlying tr = some (.slice er)) (hrl : leaves P 5 er = some rts) (hrk : kinds P rts = some k_rule) (hrc : P.cellsOf er = 3)
    (hv : Value.okWide P w r b0 t v) (h : DataW.Trod enc P w base spare held t v d p) :
    ∃ A c T, v = .agg #[.slice A T.length c] ∧ T.length ≤ c ∧ c ≤ maxLen ∧ (∀ i, In64 (node_ T i).up) ∧ (∀ i j, In64 (at_ (node_ T i).kids j)) ∧ Nodes w A T := by
  obtain ⟨cs, rfl, _⟩ := okWide_struct hs hv
  obtain ⟨n, hn⟩ := h
  have hf := leaves_flat 5 n t _ _ [s] hl hn
  simp only [Value.cells] at hf
  obtain ⟨cs⟩ := cs
  match cs, hf with
  | [c0], hf =>
    obtain ⟨⟨m, y, hy⟩, _⟩ := hf
    rcases Go.Deep.open_slice hsl hy with ⟨h0, _⟩ | ⟨a', len', cap', m, n', D, Pl, h0, _, hl2, hm, hmm, _, hx⟩
    · simp only [List.cons.injEq, and_true] at h0
      subst h0
      refine ⟨none, 0, [], rfl, by simp, by simp, fun i => ?_, fun i j => ?_, fun i hi => absurd hi (Nat.not_lt_zero _)⟩
      · simp [node_, NodeD.zero, In64]
      · simp [node_, NodeD.zero, In64, at_]
    · simp only [List.cons.injEq, and_true] at h0
      subst h0
      have hle : len' ≤ m := by rw [hmm]; split <;> omega
      have hrec : ∀ i, i < len' → ∃ x : NodeD, In64 x.up ∧ (∀ j, In64 (at_ x.kids j)) ∧ ∃ L, w.cells? base (a'.add (i * 64)) 64 = some L ∧ NodeAt w x L := fun i hi => by
        obtain ⟨cs', h1, h2⟩ := hx i (by omega)
        have hfl := leaves_flat 5 _ e cs' _ ts hl' h2
        rw [hts] at hfl
        obtain ⟨x, i1, i2, i3, i4, i5⟩ := open_nodeL (tu := ti) hti hi1 htk hst htb htr hrl hrk hrc hfl
        exact ⟨x, i1, i2, cs', by rw [hC] at h1; exact h1, i5⟩
      obtain ⟨X, hX⟩ := @Go.Deep.choose_lt NodeD ⟨NodeD.zero⟩ _ _ hrec
      have hat : ∀ j, j < len' → node_ ((List.range len').map X) j = X j := fun j hj => by simp [node_, List.getD, hj]
      refine ⟨some a', cap', (List.range len').map X, by simp, by simpa using hl2, hm, fun i => ?_, fun i j => ?_, fun i hi => ?_⟩
      · by_cases hi : i < len'
        · rw [hat i hi]; exact (hX i hi).1
        · simp [node_, List.getD, hi, NodeD.zero, In64]
      · by_cases hi : i < len'
        · rw [hat i hi]; exact (hX i hi).2.1 j
        · simp [node_, List.getD, hi, NodeD.zero, In64, at_]
      · simp at hi
        obtain ⟨b, o, sp⟩ := a'
        have cell : ∀ i' L, i' < len' → w.cells? base ((⟨b, o, sp⟩ : Addr).add (i' * 64)) 64 = some L → ∀ j v, L[j]? = some v → w.cell? ((⟨b, o, sp⟩ : Addr).add (i' * 64 + j)) = some v := fun i' L hi' hL j v hv => by
          obtain ⟨_, hlen, hc⟩ := World.cells?_some hL
          have hj := lt_of_get hv
          have := hc j (by omega)
          rw [Go.Deep.add_add, hv] at this
          exact this
        obtain ⟨_, _, L0, hL0, hN0⟩ := hX 0 (by omega)
        have h00 : ∃ v0, w.cell? ((⟨b, o, sp⟩ : Addr).add (0 * 64 + 0)) = some v0 := by
          obtain ⟨_, _, _, _, rfl, _⟩ := hN0
          exact ⟨_, cell 0 _ (by omega) hL0 0 _ rfl⟩
        obtain ⟨v0, h00⟩ := h00
        have hsp : sp = none := by simpa [Addr.add] using World.cell?_spot h00
        subst hsp
        refine ⟨b, o, rfl, by simpa [Addr.add] using World.block_lt_of_cell? w _ h00, fun j hj => ?_⟩
        simp at hj
        rw [hat j hj]
        obtain ⟨_, _, L, hL, hN⟩ := hX j hj
        refine ⟨L, hN, fun q v hq => ?_⟩
        have := cell j L hj hL q v hq
        rw [Addr.add_mid] at this
        rw [Nat.add_assoc]
        exact this
  | [], hf => exact hf.elim
  | _ :: _ :: _, hf => exact hf.2.elim
end
end Go.Proofs.YtkoljbndbomhdaaGreat
