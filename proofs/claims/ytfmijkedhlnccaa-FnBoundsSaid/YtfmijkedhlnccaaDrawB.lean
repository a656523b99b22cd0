/- Draws: a literal list that is picked from; l02Int; a struct in a box. (The head of XDrawIt, for seats without items.) -/
import Derived.Test.YtfmijkedhlnccaaDraw
import Derived.Test.YtfmijkedhlnccaaApp
import Derived.Deep.CutRange
namespace Go.Proofs.Ytfmijkedhlnccaa
open Go.RowKit Go.ChangeShapes Go.WideShapes
set_option linter.unusedVariables false
set_option linter.unusedSimpArgs false

theorem lit_ints (w : World) (zs : List Int) : Ints (w.alloc (.cells (VI zs).toArray 3)) (some ⟨w.heap.size, 0, none⟩) zs := fun i hi => ⟨_, _, rfl, by simp, fun j hj => by
  rw [Nat.zero_add]; exact new_cells w _ _ j _ (VI_at hj)⟩
theorem pickLit_c (p : Nat) (zs : List Int) (w : World) (g : Nat) (hc : Cur w p) (hp : 0 < zs.length) (hn : zs.length ≤ 1048576) (hg : w.heap.size = g) :
    Calls Try.prog 43 #[.pointer (some ⟨p, 0, none⟩), .slice (some ⟨g, 0, none⟩) zs.length zs.length] (w.alloc (.cells (VI zs).toArray 3)) fun r w' => ∃ z, r = .returned (.int .i64 z) ∧ z ∈ zs ∧ Cur w' p ∧ CB p w w' := by
  subst hg
  refine (l01PickInt_c p _ _ zs _ (hc.keep ((Bel.refl _).alloc _)) (lit_ints w zs) hp hn (fun b o e => by injection e with e; injection e with e1; have := hc.lt; omega)).mono ?_
  rintro r w' ⟨z, hr, hz, h1, h2⟩
  exact ⟨z, hr, hz, h1, ((CB.refl p w).alloc _).trans h2⟩
set_option maxRecDepth 100000 in
set_option maxHeartbeats 2000000 in
theorem l02Int_c (p : Nat) (w : World) (hc : Cur w p) :
    Calls Try.prog 24 #[.pointer (some ⟨p, 0, none⟩)] w fun r w' => ∃ x, r = .returned (.int .i64 x) ∧ (-9223372036854775808 ≤ x ∧ x ≤ 9223372036854775807) ∧ Cur w' p ∧ CB p w w' := by
  go_enter Try.func24, Try.ntmps24
  go_wp2_with fail
  refine (l01Below_c _ _ _ hc).mono ?_; rintro e w1 ⟨x, rfl, hx, hc1, hb1⟩
  by_cases h0 : x = 0
  · go_wp2_with fail
    refine (pickLit_c _ [0, 1, -1, 64, 1048576, 1048577, -1048576, -1048577, 9223372036854775807, -9223372036854775808] w1 _ hc1 (by simp) (by simp) (by simp)).mono ?_; rintro e w2 ⟨z, rfl, hz, hc2, hb2⟩
    go_wp2_with fail
    go_ret
    refine ⟨z, rfl, ?_, hc2, hb1.trans hb2⟩
    simp only [List.mem_cons, List.not_mem_nil, or_false] at hz
    omega
  · by_cases h1 : x = 1
    · go_wp2_with fail
      refine (l01Below_c _ _ _ hc1).mono ?_; rintro e w2 ⟨y, rfl, hy, hc2, hb2⟩
      have hy0 := hy.1
      have hy1 := hy.2.1 (by omega)
      have q1 : wrap64 (-y) = -y := by unfold wrap64; omega
      have q2 : wrap64 (0 - y) = -y := by unfold wrap64; omega
      go_wp2_with fail
      go_ret
      exact ⟨-y, by first | rfl | simp [q1] | (rw [q1]) | (rw [q2]), by omega, hc2, hb1.trans hb2⟩
    · go_wp2_with fail
      refine (l01Below_c _ _ _ hc1).mono ?_; rintro e w2 ⟨y, rfl, hy, hc2, hb2⟩
      have hy0 := hy.1
      have hy1 := hy.2.1 (by omega)
      go_wp2_with fail
      go_ret
      exact ⟨y, rfl, by omega, hc2, hb1.trans hb2⟩

/-! ### a struct in a box, whatever it holds -/
theorem mkI (s : Nat → Int) (b : Nat → Bool) : ∀ (ks : List Bool) (i o : Nat), ks[o]? = some true → (mk s b i ks)[o]? = some (.int .i64 (s (i + o)))
  | [], _, _, h => by simp at h
  | true :: ks, i, 0, _ => rfl
  | false :: ks, i, 0, h => by simp at h
  | true :: ks, i, o + 1, h => by
    simp only [List.getElem?_cons_succ, mk] at h ⊢
    rw [mkI s b ks (i + 1) o h, show i + 1 + o = i + (o + 1) by omega]
  | false :: ks, i, o + 1, h => by
    simp only [List.getElem?_cons_succ, mk] at h ⊢
    rw [mkI s b ks (i + 1) o h, show i + 1 + o = i + (o + 1) by omega]
theorem mkB (s : Nat → Int) (b : Nat → Bool) : ∀ (ks : List Bool) (i o : Nat), ks[o]? = some false → (mk s b i ks)[o]? = some (.bool (b (i + o)))
  | [], _, _, h => by simp at h
  | false :: ks, i, 0, _ => rfl
  | true :: ks, i, 0, h => by simp at h
  | true :: ks, i, o + 1, h => by
    simp only [List.getElem?_cons_succ, mk] at h ⊢
    rw [mkB s b ks (i + 1) o h, show i + 1 + o = i + (o + 1) by omega]
  | false :: ks, i, o + 1, h => by
    simp only [List.getElem?_cons_succ, mk] at h ⊢
    rw [mkB s b ks (i + 1) o h, show i + 1 + o = i + (o + 1) by omega]
theorem rcellsI {ks : List Bool} (r : Rec) {o : Nat} (h : ks[o]? = some true) : (rcells ks r)[o]? = some (.int .i64 (r.s o)) := by
  rw [rcells, mkI _ _ _ _ _ h, Nat.zero_add]
theorem rcellsB {ks : List Bool} (r : Rec) {o : Nat} (h : ks[o]? = some false) : (rcells ks r)[o]? = some (.bool (r.b o)) := by
  rw [rcells, mkB _ _ _ _ _ h, Nat.zero_add]
def BX (w : World) (g : Nat) (ks : List Bool) : Prop := g < w.heap.size ∧ (∃ r : Rec, ∀ j v, (rcells ks r)[j]? = some v → w.cell? ⟨g, j, none⟩ = some v) ∧ ∀ j, w.frozen? ⟨g, j, none⟩ = false
theorem BX.cb {w w' : World} {g p : Nat} {ks : List Bool} (h : BX w g ks) (hb : CB p w w') (hp : g ≠ p) : BX w' g ks := by
  obtain ⟨hl, ⟨r, hr⟩, hf⟩ := h
  exact ⟨Nat.lt_of_lt_of_le hl hb.sz, ⟨r, fun j v e => (hb.cell _ _ hl hp).trans (hr j v e)⟩, fun j => (hb.frozen _ _ hl hp).trans (hf j)⟩
theorem BX.keep {w w' : World} {g : Nat} {ks : List Bool} (h : BX w g ks) (hb : Bel w w') : BX w' g ks := by
  obtain ⟨hl, ⟨r, hr⟩, hf⟩ := h
  exact ⟨Nat.lt_of_lt_of_le hl hb.sz, ⟨r, fun j v e => (hb.cell _ _ hl).trans (hr j v e)⟩, fun j => (hb.frozen _ _ hl).trans (hf j)⟩
theorem BX.setO {w : World} {g q : Nat} {ks : List Bool} (h : BX w g ks) (hq : q ≠ g) (j : Nat) (v : Value) : BX (w.setCell ⟨q, j, none⟩ v) g ks := by
  obtain ⟨hl, ⟨r, hr⟩, hf⟩ := h
  exact ⟨by simpa using hl, ⟨r, fun i u e => (cell_set_ne (by omega)).trans (hr i u e)⟩, fun i => by simpa using hf i⟩
theorem rcells_upd {ks : List Bool} {r r' : Rec} {i j : Nat} (hs : ∀ k, k ≠ j → r'.s k = r.s k) (hb : ∀ k, k ≠ j → r'.b k = r.b k) (h : i ≠ j) : (rcells ks r')[i]? = (rcells ks r)[i]? := by
  cases hk : ks[i]? with
  | none =>
    have : ks.length ≤ i := List.getElem?_eq_none_iff.1 hk
    rw [List.getElem?_eq_none (by rw [rcells_length]; exact this), List.getElem?_eq_none (by rw [rcells_length]; exact this)]
  | some k =>
    cases k
    · rw [rcellsB _ hk, rcellsB _ hk, hb i h]
    · rw [rcellsI _ hk, rcellsI _ hk, hs i h]
theorem BX.setI {w : World} {g j : Nat} {ks : List Bool} (h : BX w g ks) (hk : ks[j]? = some true) (n : Int) : BX (w.setCell ⟨g, j, none⟩ (.int .i64 n)) g ks := by
  obtain ⟨hl, ⟨r, hr⟩, hf⟩ := h
  refine ⟨by simpa using hl, ⟨⟨fun i => if i = j then n else r.s i, r.b⟩, fun i u e => ?_⟩, fun i => by simpa using hf i⟩
  by_cases e2 : i = j
  · subst e2
    rw [rcellsI _ hk] at e
    simp at e
    subst e
    exact World.cell?_setCell_same _ _ _ (hr i _ (rcellsI r hk))
  · rw [rcells_upd (r := r) (r' := ⟨fun i => if i = j then n else r.s i, r.b⟩) (j := j) (fun k hk => by simp [hk]) (fun k _ => rfl) e2] at e
    exact (cell_set_ne (by omega)).trans (hr i u e)
theorem BX.setB {w : World} {g j : Nat} {ks : List Bool} (h : BX w g ks) (hk : ks[j]? = some false) (n : Bool) : BX (w.setCell ⟨g, j, none⟩ (.bool n)) g ks := by
  obtain ⟨hl, ⟨r, hr⟩, hf⟩ := h
  refine ⟨by simpa using hl, ⟨⟨r.s, fun i => if i = j then n else r.b i⟩, fun i u e => ?_⟩, fun i => by simpa using hf i⟩
  by_cases e2 : i = j
  · subst e2
    rw [rcellsB _ hk] at e
    simp at e
    subst e
    exact World.cell?_setCell_same _ _ _ (hr i _ (rcellsB r hk))
  · rw [rcells_upd (r := r) (r' := ⟨r.s, fun i => if i = j then n else r.b i⟩) (j := j) (fun k _ => rfl) (fun k hk => by simp [hk]) e2] at e
    exact (cell_set_ne (by omega)).trans (hr i u e)
theorem BX.new (w : World) (ks : List Bool) (r : Rec) (t : TypeId) : BX (w.alloc (.cells (rcells ks r).toArray t)) w.heap.size ks :=
  ⟨by simp, ⟨r, fun j v e => new_cells w _ _ j v e⟩, fun j => by simp⟩
theorem BX.cellI {w : World} {g j : Nat} {ks : List Bool} (h : BX w g ks) (hk : ks[j]? = some true) : ∃ n : Int, w.cell? ⟨g, j, none⟩ = some (.int .i64 n) := by
  obtain ⟨hl, ⟨r, hr⟩, hf⟩ := h
  exact ⟨_, hr j _ (rcellsI r hk)⟩
theorem BX.cellB {w : World} {g j : Nat} {ks : List Bool} (h : BX w g ks) (hk : ks[j]? = some false) : ∃ n : Bool, w.cell? ⟨g, j, none⟩ = some (.bool n) := by
  obtain ⟨hl, ⟨r, hr⟩, hf⟩ := h
  exact ⟨_, hr j _ (rcellsB r hk)⟩
/-- a cursor, the result's box, the variable's box -/
structure It (ks : List Bool) (w0 w : World) (p g2 g3 : Nat) : Prop where
  cur : Cur w p
  cb : CB p w0 w
  lo2 : w0.heap.size ≤ g2
  lo3 : w0.heap.size ≤ g3
  plt : p < w0.heap.size
  ne : g2 ≠ g3
  b2 : BX w g2 ks
  b3 : BX w g3 ks
section
variable {ks : List Bool} {w0 w w' : World} {p g2 g3 j : Nat}
theorem It.keep (h : It ks w0 w p g2 g3) (hb : Bel w w') : It ks w0 w' p g2 g3 :=
  ⟨h.cur.keep hb, h.cb.bel hb, h.lo2, h.lo3, h.plt, h.ne, h.b2.keep hb, h.b3.keep hb⟩
theorem It.go (h : It ks w0 w p g2 g3) (hc : Cur w' p) (hb : CB p w w') : It ks w0 w' p g2 g3 := by
  have := h.lo2
  have := h.lo3
  have := h.plt
  exact ⟨hc, h.cb.trans hb, h.lo2, h.lo3, h.plt, h.ne, h.b2.cb hb (by omega), h.b3.cb hb (by omega)⟩
theorem It.setI (h : It ks w0 w p g2 g3) (hk : ks[j]? = some true) (n : Int) : It ks w0 (w.setCell ⟨g3, j, none⟩ (.int .i64 n)) p g2 g3 := by
  have := h.lo3
  have := h.plt
  have := h.ne
  exact ⟨h.cur.setNew (by omega) _ _, h.cb.setNew h.lo3 _ _, h.lo2, h.lo3, h.plt, h.ne, h.b2.setO (by omega) _ _, h.b3.setI hk n⟩
theorem It.setB (h : It ks w0 w p g2 g3) (hk : ks[j]? = some false) (n : Bool) : It ks w0 (w.setCell ⟨g3, j, none⟩ (.bool n)) p g2 g3 := by
  have := h.lo3
  have := h.plt
  have := h.ne
  exact ⟨h.cur.setNew (by omega) _ _, h.cb.setNew h.lo3 _ _, h.lo2, h.lo3, h.plt, h.ne, h.b2.setO (by omega) _ _, h.b3.setB hk n⟩
end
end Go.Proofs.Ytfmijkedhlnccaa
