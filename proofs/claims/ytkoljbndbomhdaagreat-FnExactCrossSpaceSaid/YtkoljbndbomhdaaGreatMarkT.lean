/- The numbers written into a tree of the law's own: plain part, and one node on the way. -/
import Derived.Test.YtkoljbndbomhdaaGreatTreeS
namespace Go.Proofs.YtkoljbndbomhdaaGreat
open Go.RowKit Go.ChangeShapes Go.WideShapes
set_option linter.unusedVariables false
set_option linter.unusedSimpArgs false

/-! ### plain -/
def markS (m : Int) : Rec := ⟨fun j => m + (j : Int), fun j => decide ((m + (j : Int)) % 3 = 0)⟩
def markNode (m : Int) (x : NodeD) : NodeD :=
  ⟨m, marks (m + 1) x.kids.length, markS (m + 1 + (x.kids.length : Int)), decide ((m + 1 + (x.kids.length : Int) + 60) % 3 = 0), marksR 3 (m + 1 + (x.kids.length : Int) + 61) x.rules.length⟩
def markSz (x : NodeD) : Nat := 62 + x.kids.length + 3 * x.rules.length
def markTo (T : List NodeD) (k : Nat) : Nat := ((T.take k).map markSz).sum
def markAll (T : List NodeD) : Nat := (T.map markSz).sum
theorem markTo_succ {T : List NodeD} {k : Nat} (h : k < T.length) : markTo T (k + 1) = markTo T k + markSz (node_ T k) := by
  unfold markTo
  rw [List.take_add_one, node_eq h]
  simp
theorem markTo_all (T : List NodeD) : markTo T T.length = markAll T := by simp [markTo, markAll]
theorem markTo_le (T : List NodeD) (k : Nat) : markTo T k ≤ markAll T := by
  have : (T.map markSz).sum = ((T.take k).map markSz).sum + ((T.drop k).map markSz).sum := by
    rw [← List.sum_append, ← List.map_append, List.take_append_drop]
  unfold markTo markAll
  omega
theorem markAll_le (T : List NodeD) : markAll T ≤ 62 * T.length + 3 * (T.map nodeSz).sum := by
  unfold markAll
  induction T with
  | nil => simp
  | cons x T ih =>
    simp only [List.map_cons, List.sum_cons, List.length_cons]
    have : markSz x ≤ 62 + 3 * nodeSz x := by unfold markSz nodeSz; omega
    omega
theorem markAll_small {T : List NodeD} (h : treeSz T ≤ 1048576) : markAll T ≤ 68157440 := by
  have := markAll_le T
  unfold treeSz at h
  omega
def markT (m : Int) (T : List NodeD) : List NodeD := (List.range T.length).map fun k => markNode (m + (markTo T k : Int)) (node_ T k)
theorem markT_length (m : Int) (T : List NodeD) : (markT m T).length = T.length := by simp [markT]
theorem markT_at (m : Int) {T : List NodeD} {k : Nat} (h : k < T.length) : node_ (markT m T) k = markNode (m + (markTo T k : Int)) (node_ T k) := by simp [node_, markT, List.getD, h]
/-- the first k nodes marked -/
def markX (m : Int) (T : List NodeD) (k : Nat) : List NodeD := (markT m T).take k ++ T.drop k
theorem markX_zero (m : Int) (T : List NodeD) : markX m T 0 = T := by simp [markX]
theorem markX_all (m : Int) (T : List NodeD) : markX m T T.length = markT m T := by
  unfold markX
  rw [List.take_of_length_le (by rw [markT_length]; exact Nat.le_refl _)]
  simp
theorem markX_length (m : Int) {T : List NodeD} {k : Nat} (h : k ≤ T.length) : (markX m T k).length = T.length := by
  simp [markX, markT_length]; omega
theorem markX_at (m : Int) {T : List NodeD} {k : Nat} (h : k < T.length) : node_ (markX m T k) k = node_ T k := by
  have h4 : ((markT m T).take k).length = k := by rw [List.length_take, markT_length]; omega
  unfold markX node_
  simp only [List.getD]
  rw [List.getElem?_append_right (by omega), h4, Nat.sub_self, List.getElem?_drop]
  simp
theorem markX_succ (m : Int) {T : List NodeD} {k : Nat} (h : k < T.length) : markX m T (k + 1) = (markX m T k).set k (markNode (m + (markTo T k : Int)) (node_ T k)) := by
  unfold markX
  have h1 : (markT m T)[k]? = some (markNode (m + (markTo T k : Int)) (node_ T k)) := by simp [markT, h]
  have h2 : T.drop k = node_ T k :: T.drop (k + 1) := by
    rw [List.drop_eq_getElem_cons h]
    congr 1
    simp [node_, List.getD, h]
  have h4 : ((markT m T).take k).length = k := by rw [List.length_take, markT_length]; omega
  rw [List.take_add_one, h1, h2, List.set_append_right _ _ (by omega), h4, Nat.sub_self]
  simp
/-! ### rows of nodes, one node set -/
theorem setRun_after : ∀ (vs : List Value) (xs : List Value) (p j : Nat), p + vs.length ≤ j → (setRun xs p vs)[j]? = xs[j]?
  | [], _, _, _, _ => rfl
  | v :: vs, xs, p, j, h => by
    simp only [List.length_cons] at h
    rw [setRun, setRun_after vs _ _ _ (by omega), List.getElem?_set, if_neg (by omega)]
theorem setRun_snoc : ∀ (vs : List Value) (xs : List Value) (p : Nat) (u : Value), setRun xs p (vs ++ [u]) = (setRun xs p vs).set (p + vs.length) u
  | [], _, _, _ => rfl
  | v :: vs, xs, p, u => by
    simp only [List.cons_append, setRun, List.length_cons]
    rw [setRun_snoc vs, show p + 1 + vs.length = p + (vs.length + 1) by omega]
theorem setRun_put {xs L : List Value} {p j : Nat} {u : Value} (h : L[j]? = some u) : setRun xs p (L.take (j + 1)) = (setRun xs p (L.take j)).set (p + j) u := by
  have hj : j < L.length := lt_of_get h
  rw [List.take_add_one, h]
  show setRun xs p (L.take j ++ [u]) = _
  rw [setRun_snoc, List.length_take, Nat.min_eq_left (by omega)]
theorem set_same {xs : List Value} {i : Nat} {u : Value} (h : xs[i]? = some u) : xs.set i u = xs := by
  apply List.ext_getElem?
  intro j
  rw [List.getElem?_set]
  by_cases e : i = j
  · subst e
    rw [if_pos rfl, if_pos (lt_of_get h), h]
  · rw [if_neg e]
theorem setRun_skip {xs L : List Value} {p j : Nat} {u : Value} (h : L[j]? = some u) (hx : xs[p + j]? = some u) : setRun xs p (L.take (j + 1)) = setRun xs p (L.take j) := by
  rw [setRun_put h]
  refine set_same ?_
  rw [setRun_after _ _ _ _ (by rw [List.length_take]; omega), hx]
theorem nodesL_none {KS RS : List Value} {T : List NodeD} (h1 : KS.length = T.length) (h2 : RS.length = T.length) {i : Nat} (h : T.length * 64 ≤ i) : (nodesL KS RS T)[i]? = none :=
  List.getElem?_eq_none (by rw [nodesL_length h1 h2]; exact h)
theorem node_set {T : List NodeD} {k j : Nat} (y : NodeD) (hk : k < T.length) : node_ (T.set k y) j = if j = k then y else node_ T j := by
  unfold node_
  simp only [List.getD, List.getElem?_set]
  by_cases e : k = j
  · subst e
    simp [hk]
  · rw [if_neg e, if_neg (fun h => e h.symm)]
theorem nodesL_set {KS RS : List Value} {T : List NodeD} {k : Nat} {K R : Value} (y : NodeD) (h1 : KS.length = T.length) (h2 : RS.length = T.length) (hk : k < T.length) (hK : KS[k]? = some K) (hR : RS[k]? = some R) :
    nodesL KS RS (T.set k y) = setRun (nodesL KS RS T) (k * 64) (nodeL y K R) := by
  have hl := nodeL_length y K R
  have hL := nodesL_length h1 h2
  apply List.ext_getElem?
  intro i
  by_cases hi : i < T.length * 64
  · obtain ⟨j, q, rfl, hq⟩ : ∃ j q, i = j * 64 + q ∧ q < 64 := ⟨i / 64, i % 64, by omega, Nat.mod_lt _ (by decide)⟩
    have hj : j < T.length := by omega
    obtain ⟨K1, R1, a1, a2, -, -, a3⟩ := nodesL_at (KS := KS) (RS := RS) (T := T) h1 h2 hj
    obtain ⟨K2, R2, b1, b2, -, -, b3⟩ := nodesL_at (KS := KS) (RS := RS) (T := T.set k y) (j := j) (by simp [h1]) (by simp [h2]) (by simpa using hj)
    rw [b3 q hq, node_set y hk]
    by_cases e : j = k
    · subst e
      rw [if_pos rfl, setRun_in _ _ _ _ (by rw [hl, hL]; omega) (by rw [hl]; exact hq)]
      rw [hK] at b1; rw [hR] at b2
      injection b1 with b1; injection b2 with b2
      rw [b1, b2]
    · rw [if_neg e]
      rw [a1] at b1; rw [a2] at b2
      injection b1 with b1; injection b2 with b2
      subst b1 b2
      by_cases hlt : j < k
      · rw [setRun_before _ _ _ _ (by omega), a3 q hq]
      · rw [setRun_after _ _ _ _ (by rw [hl]; omega), a3 q hq]
  · rw [nodesL_none (by simp [h1]) (by simp [h2]) (by simp; omega), List.getElem?_eq_none (by rw [setRun_length, hL]; omega)]
theorem nodeRows_get : ∀ {KS RS : List Value} {T : List NodeD} {k : Nat} {K R : Value}, KS[k]? = some K → RS[k]? = some R → k < T.length → (nodeRows KS RS T)[2 * k]? = some (kidsRow K (node_ T k).kids) ∧ (nodeRows KS RS T)[2 * k + 1]? = some (rulesRow R (node_ T k).rules)
  | a :: KS, b :: RS, x :: T, 0, K, R, h1, h2, _ => by
    simp at h1 h2
    subst h1 h2
    exact ⟨rfl, rfl⟩
  | a :: KS, b :: RS, x :: T, k + 1, K, R, h1, h2, h3 => by
    have := nodeRows_get (KS := KS) (RS := RS) (T := T) (k := k) (by simpa using h1) (by simpa using h2) (by simpa using h3)
    have hn : node_ (x :: T) (k + 1) = node_ T k := by simp [node_]
    rw [hn]
    exact this
  | [], _, _, _, _, _, h, _, _ => by simp at h
  | _ :: _, [], _, _, _, _, _, h, _ => by simp at h
  | _ :: _, _ :: _, [], _, _, _, _, _, h => by simp at h
theorem nodeRows_set : ∀ {KS RS : List Value} {T : List NodeD} {k : Nat} {K R : Value} (y : NodeD), KS[k]? = some K → RS[k]? = some R → k < T.length → nodeRows KS RS (T.set k y) = ((nodeRows KS RS T).set (2 * k) (kidsRow K y.kids)).set (2 * k + 1) (rulesRow R y.rules)
  | a :: KS, b :: RS, x :: T, 0, K, R, y, h1, h2, _ => by
    simp at h1 h2
    subst h1 h2
    rfl
  | a :: KS, b :: RS, x :: T, k + 1, K, R, y, h1, h2, h3 => by
    have := nodeRows_set (KS := KS) (RS := RS) (T := T) (k := k) y (by simpa using h1) (by simpa using h2) (by simpa using h3)
    show kidsRow a x.kids :: rulesRow b x.rules :: nodeRows KS RS (T.set k y) = _
    rw [this]
    rfl
  | [], _, _, _, _, _, _, h, _, _ => by simp at h
  | _ :: _, [], _, _, _, _, _, _, h, _ => by simp at h
  | _ :: _, _ :: _, [], _, _, _, _, _, _, h => by simp at h
theorem nodeRows_length : ∀ {KS RS : List Value} {T : List NodeD}, KS.length = T.length → RS.length = T.length → (nodeRows KS RS T).length = 2 * T.length
  | [], [], [], _, _ => rfl
  | a :: KS, b :: RS, y :: T, h1, h2 => by
    simp only [nodeRows, List.length_cons]
    rw [nodeRows_length (by simpa using h1) (by simpa using h2)]
    omega
  | [], _, _ :: _, h, _ => by simp at h
  | _ :: _, _, [], h, _ => by simp at h
  | _, [], _ :: _, _, h => by simp at h

/-! ### one node being marked -/
structure Mk (w0 w : World) (base g n c o : Nat) (xs0 L : List Value) (F : List Row) (j : Nat) : Prop where
  fam : Fam w base (⟨79, 64, .slice (some ⟨g, 0, none⟩) n c, n, setRun xs0 o (L.take j)⟩ :: F)
  bel : Below base w0 w
  sz : base ≤ w.heap.size
theorem Mk.own {w0 w : World} {base g n c o : Nat} {xs0 L : List Value} {F : List Row} {j : Nat} (h : Mk w0 w base g n c o xs0 L F j) : w.ownsRow base 79 64 (.slice (some ⟨g, 0, none⟩) n c) n (setRun xs0 o (L.take j)) :=
  h.fam.1 ⟨79, 64, .slice (some ⟨g, 0, none⟩) n c, n, setRun xs0 o (L.take j)⟩ List.mem_cons_self
theorem Mk.put {w0 w : World} {base g n c o : Nat} {xs0 L : List Value} {F : List Row} {j : Nat} (h : Mk w0 w base g n c o xs0 L F j) {u : Value} (hu : L[j]? = some u) : Mk w0 (w.setCells g (o + j) [u]) base g n c o xs0 L F (j + 1) := by
  have ho := h.own.stored (o + j) u
  have e : w.setCells g (o + j) [u] = w.setCell ⟨g, o + j, none⟩ u := rfl
  rw [e]
  refine ⟨?_, h.bel.trans (h.fam.below (i := 0) (r := ⟨79, 64, .slice (some ⟨g, 0, none⟩) n c, n, setRun xs0 o (L.take j)⟩) rfl ho.2 h.sz), Nat.le_trans h.sz ho.2.size⟩
  rw [setRun_put hu]
  exact Fam.write (i := 0) (r := ⟨79, 64, .slice (some ⟨g, 0, none⟩) n c, n, setRun xs0 o (L.take j)⟩) h.fam rfl ho.2 ⟨79, 64, .slice (some ⟨g, 0, none⟩) n c, n, (setRun xs0 o (L.take j)).set (o + j) u⟩ (.inl rfl) ho.1
theorem Mk.skip {w0 w : World} {base g n c o : Nat} {xs0 L : List Value} {F : List Row} {j : Nat} (h : Mk w0 w base g n c o xs0 L F j) {u : Value} (hu : L[j]? = some u) (hx : xs0[o + j]? = some u) : Mk w0 w base g n c o xs0 L F (j + 1) := by
  refine ⟨?_, h.bel, h.sz⟩
  rw [setRun_skip hu hx]
  exact h.fam
theorem Mk.cell {w0 w : World} {base g n c o : Nat} {xs0 L : List Value} {F : List Row} {j : Nat} (h : Mk w0 w base g n c o xs0 L F j) {i : Nat} {u : Value} (hx : xs0[o + i]? = some u) (hi : j ≤ i) (hn : o + i < n * 64) : w.cell? ⟨g, o + i, none⟩ = some u := by
  rw [h.own.cellAt _ hn, setRun_after _ _ _ _ (by rw [List.length_take]; omega), hx]
theorem Mk.store {w0 w : World} {base g n c o : Nat} {xs0 L : List Value} {F : List Row} {j : Nat} {ops : Array Oper} {rest : List Oper} {op : Oper} {a : Act} {Q : Exit → Act → World → Prop} (H : Hid (Mk w0 w base g n c o xs0 L F j)) (hgd : op.guard = none) (ty : TypeId) (x y : Operand) (ho : op.op = .store ty x y)
    (u : Value) (hx : a.eval x = .pointer (some ⟨g, o + j, none⟩)) (hy : a.eval y = u) (hi : (Tryz.prog.info? ty).map (·.size) = some 1) (hc : u.cells = #[u]) (h1 : u.oneCell' = true) (hn : o + 64 ≤ n * 64) (hj : j < 64) (hu : L[j]? = some u)
    (h : ∀ w', Hid (Mk w0 w' base g n c o xs0 L F (j + 1)) → wpList Tryz.prog ops Q rest (a.put op.dst undef) w') : wpList Tryz.prog ops Q (op :: rest) a w := by
  refine wpList_store_any hgd ty x y ho g (o + j) u hx hy (fun i hi' => ?_) (by rw [hc]; exact hi) (by rw [hc]; simpa using h1) ?_
  · rw [hc] at hi'
    exact own_there (m := 1) H.out.own (by omega) i (by simpa using hi')
  · rw [hc]
    exact h _ (hid' (H.out.put hu))
theorem Mk.row {w0 w w' : World} {base g n c o : Nat} {xs0 L : List Value} {F : List Row} {j : Nat} (h : Mk w0 w base g n c o xs0 L F j) {i : Nat} {r : Row} (hi : F[i]? = some r) (xs : List Value) (ho : w'.ownsRow base r.e r.size r.v r.n xs) (hg : w.grownBy w' r.v.ownBlock) :
    Mk w0 w' base g n c o xs0 L (F.set i ⟨r.e, r.size, r.v, r.n, xs⟩) j :=
  ⟨Fam.write (i := i + 1) h.fam hi hg ⟨r.e, r.size, r.v, r.n, xs⟩ (.inl rfl) ho, h.bel.trans (h.fam.below (i := i + 1) hi hg h.sz), Nat.le_trans h.sz hg.size⟩
theorem styleL_int {r : Rec} {j : Nat} (h : k_style[j]? = some true) : (styleL r)[j]? = some (.int .i64 (r.s j)) := rcells_int r h
theorem styleL_bool {r : Rec} {j : Nat} (h : k_style[j]? = some false) : (styleL r)[j]? = some (.bool (r.b j)) := rcells_bool r h
theorem nodeL_get_style {x : NodeD} {K R : Value} {j : Nat} (h : j < 60) : (nodeL x K R)[2 + j]? = (styleL x.style)[j]? := by
  rw [show 2 + j = j + 1 + 1 by omega]
  simp only [nodeL, List.getElem?_cons_succ]
  rw [List.getElem?_append_left (by rw [styleL_length]; exact h)]
theorem nodeL_get62 (x : NodeD) (K R : Value) : (nodeL x K R)[62]? = some (.bool x.meas) := rfl
theorem nodeL_get63 (x : NodeD) (K R : Value) : (nodeL x K R)[63]? = some R := rfl
theorem markL_int {x : NodeD} {K R : Value} {M z : Int} {j : Nat} (hs : x.style = markS M) (hj : 2 ≤ j ∧ j < 62) (hk : k_style[j - 2]? = some true) (hz : z = M + ((j - 2 : Nat) : Int)) : (nodeL x K R)[j]? = some (.int .i64 z) := by
  obtain ⟨i, rfl⟩ : ∃ i, j = 2 + i := ⟨j - 2, by omega⟩
  rw [show 2 + i - 2 = i by omega] at hk hz
  rw [nodeL_get_style (by omega), styleL_int hk, hs, hz]
  rfl
theorem markL_bool {x : NodeD} {K R : Value} {M : Int} {b : Bool} {j : Nat} (hs : x.style = markS M) (hj : 2 ≤ j ∧ j < 62) (hk : k_style[j - 2]? = some false) (hb : b = decide ((M + ((j - 2 : Nat) : Int)) % 3 = 0)) : (nodeL x K R)[j]? = some (.bool b) := by
  obtain ⟨i, rfl⟩ : ∃ i, j = 2 + i := ⟨j - 2, by omega⟩
  rw [show 2 + i - 2 = i by omega] at hk hb
  rw [nodeL_get_style (by omega), styleL_bool hk, hs, hb]
  rfl
theorem Fam.setApp {w : World} {base : Nat} {A B : List Row} {r : Row} {i : Nat} (hi : i < A.length) (h : Fam w base ((A ++ B).set i r)) : Fam w base (A.set i r ++ B) := by
  rwa [List.set_append_left _ _ hi] at h
end Go.Proofs.YtkoljbndbomhdaaGreat
