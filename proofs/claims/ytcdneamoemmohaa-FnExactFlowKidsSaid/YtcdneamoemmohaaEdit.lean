/- Trees changed in place: plain laws, and what a store into a copy makes of it. -/
import Derived.Test.YtcdneamoemmohaaCopyTree
namespace Go.Proofs.Ytcdneamoemmohaa
open Go.RowKit Go.ChangeShapes Go.WideShapes
set_option linter.unusedVariables false
set_option linter.unusedSimpArgs false

theorem setRun_shift {xs L vs : List Value} {p off : Nat} (hL : L.length = 64) (hp : p + 64 ≤ xs.length) (h : ∀ q, q < 64 → xs[p + q]? = L[q]?) (ho : off + vs.length ≤ 64) : setRun xs (p + off) vs = setRun xs p (setRun L off vs) := by
  have hl : (setRun L off vs).length = 64 := by rw [setRun_length, hL]
  apply List.ext_getElem?
  intro i
  by_cases h1 : i < p
  · rw [setRun_before _ _ _ _ (by omega), setRun_before _ _ _ _ h1]
  · by_cases h2 : i < p + 64
    · obtain ⟨q, rfl⟩ : ∃ q, i = p + q := ⟨i - p, by omega⟩
      rw [setRun_in _ _ _ _ (by omega) (by omega)]
      by_cases h3 : q < off
      · rw [setRun_before _ _ _ _ (by omega), setRun_before _ _ _ _ h3, h q (by omega)]
      · by_cases h4 : q < off + vs.length
        · obtain ⟨t, rfl⟩ : ∃ t, q = off + t := ⟨q - off, by omega⟩
          rw [← Nat.add_assoc, setRun_in _ _ _ _ (by omega) (by omega), setRun_in _ _ _ _ (by omega) (by omega)]
        · rw [setRun_after _ _ _ _ (by omega), setRun_after _ _ _ _ (by omega), h q (by omega)]
    · rw [setRun_after _ _ _ _ (by omega), setRun_after _ _ _ _ (by omega)]
/-- a copy that is being changed -/
structure Ed (w : World) (base g n c : Nat) (T : List NodeD) (KS RS : List Value) : Prop where
  k : KS.length = T.length
  r : RS.length = T.length
  fam : Fam w base (treeF (.slice (some ⟨g, 0, none⟩) n c) T KS RS)
theorem Ed.tree {w : World} {base g n c : Nat} {T : List NodeD} {KS RS : List Value} (h : Ed w base g n c T KS RS) : TreeAt w base (.slice (some ⟨g, 0, none⟩) n c) T := ⟨KS, RS, h.k, h.r, h.fam⟩
theorem Ed.keep {w w' : World} {base g n c : Nat} {T : List NodeD} {KS RS : List Value} (h : Ed w base g n c T KS RS) (hb : Bel w w') : Ed w' base g n c T KS RS := ⟨h.k, h.r, h.fam.keep hb⟩
theorem Ed.own {w : World} {base g n c : Nat} {T : List NodeD} {KS RS : List Value} (h : Ed w base g n c T KS RS) : w.ownsRow base 77 64 (.slice (some ⟨g, 0, none⟩) n c) T.length (nodesL KS RS T) :=
  h.fam.1 ⟨77, 64, .slice (some ⟨g, 0, none⟩) n c, T.length, nodesL KS RS T⟩ (by simp [treeF])
theorem Ed.len {w : World} {base g n c : Nat} {T : List NodeD} {KS RS : List Value} (h : Ed w base g n c T KS RS) : n = T.length := by
  rcases h.own.2 with ⟨e, _⟩ | ⟨_, _, _, e, _⟩
  · cases e
  · cases e; rfl
theorem Ed.own' {w : World} {base g n c : Nat} {T : List NodeD} {KS RS : List Value} (h : Ed w base g n c T KS RS) : w.ownsRow base 77 64 (.slice (some ⟨g, 0, none⟩) n c) n (nodesL KS RS T) := by
  have := h.own
  rwa [← h.len] at this
theorem Ed.there {w : World} {base g n c o m : Nat} {T : List NodeD} {KS RS : List Value} (h : Ed w base g n c T KS RS) (hl : o + m ≤ T.length * 64) : w.there g o m := fun j hj =>
  ⟨by rw [h.own'.cellAt _ (by rw [h.len]; omega), List.getElem?_eq_getElem (by have := h.own.1; omega)]; rfl, h.own'.frozenAt _⟩
theorem Ed.lo {w : World} {base g n c : Nat} {T : List NodeD} {KS RS : List Value} (h : Ed w base g n c T KS RS) : base ≤ g ∧ g < w.heap.size := h.own.lt g rfl
/-- a run of cells of one node stored -/
theorem Ed.run {w : World} {base g n c j off : Nat} {T : List NodeD} {KS RS vs : List Value} (h : Ed w base g n c T KS RS) (hj : j < T.length) (x' : NodeD) (ho : off + vs.length ≤ 64)
    (hx : ∀ K R, setRun (nodeL (node_ T j) K R) off vs = nodeL x' K R) (hk : x'.kids = (node_ T j).kids) (hr : x'.rules = (node_ T j).rules) :
    Ed (w.setCells g (j * 64 + off) vs) base g n c (T.set j x') KS RS := by
  obtain ⟨K, R, e1, e2, -, -, e3⟩ := nodesL_at h.k h.r hj
  have hl := nodesL_length h.k h.r
  have e4 : setRun (nodesL KS RS T) (j * 64 + off) vs = nodesL KS RS (T.set j x') := by
    rw [nodesL_set x' h.k h.r hj e1 e2, setRun_shift (nodeL_length _ _ _) (by rw [hl]; omega) e3 ho, hx]
  have ho2 := own_run vs (j * 64 + off) _ w h.own'
  rw [e4, h.len] at ho2
  have h5 := Fam.write (i := 0) (r := ⟨77, 64, .slice (some ⟨g, 0, none⟩) n c, T.length, nodesL KS RS T⟩) h.fam rfl (setCells_gb g vs (j * 64 + off) w) ⟨77, 64, .slice (some ⟨g, 0, none⟩) n c, T.length, nodesL KS RS (T.set j x')⟩ (.inl rfl) (by rw [h.len]; exact ho2)
  refine ⟨by rw [List.length_set]; exact h.k, by rw [List.length_set]; exact h.r, ?_⟩
  unfold treeF
  rw [nodeRows_set x' e1 e2 hj, List.length_set, hk, hr]
  obtain ⟨g1, g2⟩ := nodeRows_get (T := T) e1 e2 hj
  have g3 : ((nodeRows KS RS T).set (2 * j) (kidsRow K (node_ T j).kids)).set (2 * j + 1) (rulesRow R (node_ T j).rules) = nodeRows KS RS T := by
    apply List.ext_getElem?
    intro i
    rw [List.getElem?_set, List.getElem?_set]
    by_cases a : 2 * j + 1 = i
    · subst a
      rw [if_pos rfl, g2, if_pos (by rw [List.length_set]; exact lt_of_get g2)]
    · rw [if_neg a]
      by_cases b : 2 * j = i
      · subst b
        rw [if_pos rfl, g1, if_pos (lt_of_get g1)]
      · rw [if_neg b]
  rw [g3]
  exact h5
theorem nodesL_setK : ∀ {KS RS : List Value} {T : List NodeD} {j : Nat} (v : Value) (l : List Int), KS.length = T.length → RS.length = T.length → j < T.length →
    nodesL (KS.set j v) RS (T.set j { node_ T j with kids := l }) = (nodesL KS RS T).set (j * 64 + 1) v ∧ nodeRows (KS.set j v) RS (T.set j { node_ T j with kids := l }) = (nodeRows KS RS T).set (2 * j) (kidsRow v l)
  | a :: KS, b :: RS, x :: T, 0, v, l, _, _, _ => by
    constructor
    · show nodeL { x with kids := l } v b ++ nodesL KS RS T = (nodeL x a b ++ nodesL KS RS T).set 1 v
      rw [List.set_append_left _ _ (by rw [nodeL_length]; decide)]
      rfl
    · rfl
  | a :: KS, b :: RS, x :: T, j + 1, v, l, h1, h2, h3 => by
    obtain ⟨i1, i2⟩ := nodesL_setK (j := j) v l (by simpa using h1) (by simpa using h2) (by simpa using h3)
    have hn : node_ (x :: T) (j + 1) = node_ T j := by simp [node_]
    rw [hn]
    constructor
    · show nodeL x a b ++ nodesL (KS.set j v) RS (T.set j { node_ T j with kids := l }) = (nodeL x a b ++ nodesL KS RS T).set ((j + 1) * 64 + 1) v
      rw [i1, List.set_append_right _ _ (by rw [nodeL_length]; omega), nodeL_length, show (j + 1) * 64 + 1 - 64 = j * 64 + 1 by omega]
    · show kidsRow a x.kids :: rulesRow b x.rules :: nodeRows (KS.set j v) RS (T.set j { node_ T j with kids := l }) = (kidsRow a x.kids :: rulesRow b x.rules :: nodeRows KS RS T).set (2 * (j + 1)) (kidsRow v l)
      rw [i2]
      rfl
  | [], _, _ :: _, _, _, _, h, _, _ => by simp at h
  | _, _, [], _, _, _, _, _, h => by simp at h
  | _, [], _ :: _, _, _, _, _, h, _ => by simp at h
theorem nodesL_setR : ∀ {KS RS : List Value} {T : List NodeD} {j : Nat} (v : Value) (l : List Rec), KS.length = T.length → RS.length = T.length → j < T.length →
    nodesL KS (RS.set j v) (T.set j { node_ T j with rules := l }) = (nodesL KS RS T).set (j * 64 + 63) v ∧ nodeRows KS (RS.set j v) (T.set j { node_ T j with rules := l }) = (nodeRows KS RS T).set (2 * j + 1) (rulesRow v l)
  | a :: KS, b :: RS, x :: T, 0, v, l, _, _, _ => by
    constructor
    · show nodeL { x with rules := l } a v ++ nodesL KS RS T = (nodeL x a b ++ nodesL KS RS T).set 63 v
      rw [List.set_append_left _ _ (by rw [nodeL_length]; decide), nodeL_set63]
      rfl
    · rfl
  | a :: KS, b :: RS, x :: T, j + 1, v, l, h1, h2, h3 => by
    obtain ⟨i1, i2⟩ := nodesL_setR (j := j) v l (by simpa using h1) (by simpa using h2) (by simpa using h3)
    have hn : node_ (x :: T) (j + 1) = node_ T j := by simp [node_]
    rw [hn]
    constructor
    · show nodeL x a b ++ nodesL KS (RS.set j v) (T.set j { node_ T j with rules := l }) = (nodeL x a b ++ nodesL KS RS T).set ((j + 1) * 64 + 63) v
      rw [i1, List.set_append_right _ _ (by rw [nodeL_length]; omega), nodeL_length, show (j + 1) * 64 + 63 - 64 = j * 64 + 63 by omega]
    · show kidsRow a x.kids :: rulesRow b x.rules :: nodeRows KS (RS.set j v) (T.set j { node_ T j with rules := l }) = (kidsRow a x.kids :: rulesRow b x.rules :: nodeRows KS RS T).set (2 * (j + 1) + 1) (rulesRow v l)
      rw [i2]
      rfl
  | [], _, _ :: _, _, _, _, h, _, _ => by simp at h
  | _, _, [], _, _, _, _, _, h => by simp at h
  | _, [], _ :: _, _, _, _, _, h, _ => by simp at h
/-- another slice of children stored -/
theorem Ed.kids {w : World} {base g n c j : Nat} {T : List NodeD} {KS RS : List Value} {v : Value} {l : List Int} (h : Ed w base g n c T KS RS) (hj : j < T.length) (hF : Fam w base (treeF (.slice (some ⟨g, 0, none⟩) n c) T KS RS ++ [kidsRow v l])) :
    Ed (w.setCell ⟨g, j * 64 + 1, none⟩ v) base g n c (T.set j { node_ T j with kids := l }) (KS.set j v) RS ∧ w.grownBy (w.setCell ⟨g, j * 64 + 1, none⟩ v) (some g) := by
  obtain ⟨i1, i2⟩ := nodesL_setK v l h.k h.r hj
  have hs := World.ownsRow.stored h.own' (j * 64 + 1) v
  have ho := hs.1
  rw [← i1] at ho
  have h5 := Fam.write (i := 0) (r := ⟨77, 64, .slice (some ⟨g, 0, none⟩) n c, T.length, nodesL KS RS T⟩) hF rfl hs.2 ⟨77, 64, .slice (some ⟨g, 0, none⟩) n c, n, nodesL (KS.set j v) RS (T.set j { node_ T j with kids := l })⟩ (.inl rfl) ho
  have h6 : Fam (w.setCell ⟨g, j * 64 + 1, none⟩ v) base ((⟨77, 64, .slice (some ⟨g, 0, none⟩) n c, n, nodesL (KS.set j v) RS (T.set j { node_ T j with kids := l })⟩ :: nodeRows KS RS T) ++ [kidsRow v l]) := h5
  have h7 := h6.repl (2 * j + 1)
  refine ⟨⟨by simp [h.k], by simp [h.r], ?_⟩, hs.2⟩
  unfold treeF
  rw [i2, List.length_set]
  rw [List.set_cons_succ, h.len] at h7
  rw [h.len]
  exact h7
/-- another slice of rules stored -/
theorem Ed.rules {w : World} {base g n c j : Nat} {T : List NodeD} {KS RS : List Value} {v : Value} {l : List Rec} (h : Ed w base g n c T KS RS) (hj : j < T.length) (hF : Fam w base (treeF (.slice (some ⟨g, 0, none⟩) n c) T KS RS ++ [rulesRow v l])) :
    Ed (w.setCell ⟨g, j * 64 + 63, none⟩ v) base g n c (T.set j { node_ T j with rules := l }) KS (RS.set j v) ∧ w.grownBy (w.setCell ⟨g, j * 64 + 63, none⟩ v) (some g) := by
  obtain ⟨i1, i2⟩ := nodesL_setR v l h.k h.r hj
  have hs := World.ownsRow.stored h.own' (j * 64 + 63) v
  have ho := hs.1
  rw [← i1] at ho
  have h5 := Fam.write (i := 0) (r := ⟨77, 64, .slice (some ⟨g, 0, none⟩) n c, T.length, nodesL KS RS T⟩) hF rfl hs.2 ⟨77, 64, .slice (some ⟨g, 0, none⟩) n c, n, nodesL KS (RS.set j v) (T.set j { node_ T j with rules := l })⟩ (.inl rfl) ho
  have h6 : Fam (w.setCell ⟨g, j * 64 + 63, none⟩ v) base ((⟨77, 64, .slice (some ⟨g, 0, none⟩) n c, n, nodesL KS (RS.set j v) (T.set j { node_ T j with rules := l })⟩ :: nodeRows KS RS T) ++ [rulesRow v l]) := h5
  have h7 := h6.repl (2 * j + 1 + 1)
  refine ⟨⟨by simp [h.k], by simp [h.r], ?_⟩, hs.2⟩
  unfold treeF
  rw [i2, List.length_set]
  rw [List.set_cons_succ, h.len] at h7
  rw [h.len]
  exact h7
/-- one cell of a node stored -/
theorem Ed.cell {w : World} {base g n c j off : Nat} {T : List NodeD} {KS RS : List Value} {v : Value} (h : Ed w base g n c T KS RS) (hj : j < T.length) (x' : NodeD) (ho : off < 64)
    (hx : ∀ K R, (nodeL (node_ T j) K R).set off v = nodeL x' K R) (hk : x'.kids = (node_ T j).kids) (hr : x'.rules = (node_ T j).rules) :
    Ed (w.setCell ⟨g, j * 64 + off, none⟩ v) base g n c (T.set j x') KS RS ∧ w.grownBy (w.setCell ⟨g, j * 64 + off, none⟩ v) (some g) := by
  have h1 := h.run (off := off) (vs := [v]) hj x' (by simp; omega) hx hk hr
  have h2 := setCells_gb g [v] (j * 64 + off) w
  exact ⟨h1, h2⟩
theorem nodeL_setUp (x : NodeD) (K R : Value) (u : Int) : (nodeL x K R).set 0 (.int .i64 u) = nodeL { x with up := u } K R := rfl
theorem nodeL_setMeas (x : NodeD) (K R : Value) (b : Bool) : (nodeL x K R).set 62 (.bool b) = nodeL { x with meas := b } K R := by
  unfold nodeL
  rw [List.set_cons_succ, List.set_cons_succ, List.set_append_right _ _ (by rw [styleL_length]; decide), styleL_length]
  rfl
theorem nodeL_setStyle (x : NodeD) (K R : Value) (s : Rec) : setRun (nodeL x K R) 2 (styleL s) = nodeL { x with style := s } K R := by
  apply List.ext_getElem?
  intro i
  have h1 := nodeL_length x K R
  have h2 := styleL_length s
  by_cases hi : i < 2
  · rw [setRun_before _ _ _ _ hi]
    match i, hi with
    | 0, _ => rfl
    | 1, _ => rfl
  · obtain ⟨q, rfl⟩ : ∃ q, i = 2 + q := ⟨i - 2, by omega⟩
    by_cases hq : q < 60
    · rw [setRun_in _ _ _ _ (by omega) (by omega)]
      unfold nodeL
      rw [show 2 + q = q + 1 + 1 by omega, List.getElem?_cons_succ, List.getElem?_cons_succ, List.getElem?_append_left (by rw [styleL_length]; exact hq)]
    · rw [setRun_after _ _ _ _ (by omega)]
      unfold nodeL
      rw [show 2 + q = q + 1 + 1 by omega, List.getElem?_cons_succ, List.getElem?_cons_succ, List.getElem?_cons_succ, List.getElem?_cons_succ, List.getElem?_append_right (by rw [styleL_length]; omega), List.getElem?_append_right (by rw [styleL_length]; omega), styleL_length, styleL_length]

/-! ### sizes -/
theorem sum_le {f : NodeD → Nat} {B : Nat} : ∀ {T : List NodeD}, (∀ x ∈ T, f x ≤ B) → (T.map f).sum ≤ T.length * B
  | [], _ => by simp
  | x :: T, h => by
    have h1 := h x (by simp)
    have h2 := sum_le (T := T) (fun y hy => h y (by simp [hy]))
    simp only [List.map_cons, List.sum_cons, List.length_cons, Nat.add_mul]
    omega
theorem small_sz {T : List NodeD} (h12 : T.length ≤ 13) (h : ∀ j, j < T.length → (node_ T j).kids.length ≤ 13 ∧ (node_ T j).rules.length ≤ 6) : treeSz T ≤ 300 := by
  have := sum_le (f := nodeSz) (B := 19) (T := T) (fun x hx => by
    obtain ⟨j, hj, rfl⟩ := List.mem_iff_getElem.1 hx
    have h1 := h j hj
    rw [show node_ T j = T[j] by simp [node_, List.getD, List.getElem?_eq_getElem hj]] at h1
    unfold nodeSz
    omega)
  unfold treeSz
  omega
theorem rules_few {T : List NodeD} (h : treeOk T = true) {j : Nat} (hj : j < T.length) : (node_ T j).rules.length ≤ 6 := by
  have := treeOk_at h hj
  unfold nodeOk at this
  simp only [Bool.and_eq_true] at this
  have h1 := this.2
  unfold measOk at h1
  split at h1
  · simp only [Bool.and_eq_true] at h1
    have h2 := h1.1
    unfold tableOk inB at h2
    simp only [Bool.and_eq_true, decide_eq_true_eq] at h2
    omega
  · simp only [decide_eq_true_eq] at h1
    omega
theorem treeOk_small {T : List NodeD} (h : treeOk T = true) : ∀ j, j < T.length → (node_ T j).kids.length ≤ 12 ∧ (node_ T j).rules.length ≤ 6 := fun j hj => ⟨kids_few h hj, rules_few h hj⟩
end Go.Proofs.Ytcdneamoemmohaa
