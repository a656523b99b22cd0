/- InsertKid: what it answers, and why the program's check of depths is the whole check. Plain Lean. -/
import Derived.Test.YtcdneamoemmohaaEdit
namespace Go.Proofs.Ytcdneamoemmohaa
set_option linter.unusedVariables false
set_option linter.unusedSimpArgs false

def insL (l : List Int) (a : Nat) (x : Int) : List Int := l.take a ++ [x] ++ l.drop a
def insT (T : List NodeD) (j k a : Nat) : List NodeD :=
  let T1 := T.set j { node_ T j with kids := insL (node_ T j).kids a ((k : Int) + 1) }
  T1.set k { node_ T1 k with up := (j : Int) + 1 }
def depthsOk (T : List NodeD) : Bool := (List.range T.length).all (fun i => decide (depthOf T ((i : Int) + 1) ≤ 4))
def insertKidT (T : List NodeD) (n kid p : Int) : List NodeD × Int :=
  if treeOk T = true ∧ isNodeB T n = true ∧ isNodeB T kid = true then
    if kid = n ∨ isUnder T n kid = true then (T, 2)
    else if upOf T kid ≠ 0 ∨ inB p 0 ((nd T n).kids.length : Int) = false then (T, 3)
    else if (nd T n).meas = true then (T, 6)
    else if depthsOk (insT T (n - 1).toNat (kid - 1).toNat p.toNat) = true then (insT T (n - 1).toNat (kid - 1).toNat p.toNat, 0) else (T, 7)
  else (T, 1)
theorem insL_length (l : List Int) (a : Nat) (x : Int) (h : a ≤ l.length) : (insL l a x).length = l.length + 1 := by
  simp [insL]; omega
theorem insL_mem {l : List Int} {a : Nat} {x z : Int} : z ∈ insL l a x ↔ z ∈ l ∨ z = x := by
  unfold insL
  conv => rhs; rw [← List.take_append_drop a l]
  simp only [List.mem_append, List.mem_cons, List.not_mem_nil, or_false]
  constructor
  · rintro ((h | h) | h)
    · exact .inl (.inl h)
    · exact .inr h
    · exact .inl (.inr h)
  · rintro ((h | h) | h)
    · exact .inl (.inl h)
    · exact .inr h
    · exact .inl (.inr h)
theorem insL_count (l : List Int) (a : Nat) (x z : Int) : countI (insL l a x) z = countI l z + if x = z then 1 else 0 := by
  unfold insL countI
  conv => rhs; rw [← List.take_append_drop a l]
  simp only [List.countP_append, List.countP_cons, List.countP_nil, Nat.zero_add]
  by_cases e : x = z <;> simp [e] <;> omega
theorem insT_length (T : List NodeD) (j k a : Nat) : (insT T j k a).length = T.length := by simp [insT]
theorem node_setI (T : List NodeD) (j i : Nat) (x : NodeD) (hj : j < T.length) : node_ (T.set j x) i = if i = j then x else node_ T i := by
  unfold node_ List.getD
  rw [List.getElem?_set]
  by_cases e : j = i
  · subst e
    simp [hj]
  · rw [if_neg e, if_neg (fun h => e h.symm)]
theorem insT_node {T : List NodeD} {j k a : Nat} (hj : j < T.length) (hk : k < T.length) (hjk : j ≠ k) (i : Nat) :
    node_ (insT T j k a) i = { node_ T i with kids := (if i = j then insL (node_ T j).kids a ((k : Int) + 1) else (node_ T i).kids), up := (if i = k then (j : Int) + 1 else (node_ T i).up) } := by
  unfold insT
  rw [node_setI _ _ _ _ (by rw [List.length_set]; exact hk)]
  by_cases h1 : i = k
  · subst h1
    have h2 : ¬ i = j := fun h => hjk h.symm
    rw [if_pos rfl, node_setI _ _ _ _ hj, if_neg h2]
    simp [h2]
  · rw [if_neg h1, if_neg h1, node_setI _ _ _ _ hj]
    by_cases h2 : i = j
    · subst h2
      simp
    · simp [h2]
theorem insT_up {T : List NodeD} {j k a : Nat} (hj : j < T.length) (hk : k < T.length) (hjk : j ≠ k) (i : Nat) : upOf (insT T j k a) ((i : Int) + 1) = if i = k then (j : Int) + 1 else (node_ T i).up := by
  rw [upOf_eq, insT_node hj hk hjk]
theorem isNode_len {T T' : List NodeD} (h : T'.length = T.length) (m : Int) : isNodeB T' m = isNodeB T m := by unfold isNodeB; rw [h]

/-! ### chains -/
theorem chain_at {T : List NodeD} : ∀ {d : Nat} {m : Int} (i : Nat), Chain T d m → i ≤ d → Chain T (d - i) (ups T m i)
  | d, m, 0, h, _ => h
  | d + 1, m, i + 1, h, hi => by
    rw [ups_succ', show d + 1 - (i + 1) = d - i by omega]
    exact chain_at i h.2 (by omega)
theorem chain_short {T : List NodeD} {d : Nat} {m : Int} (h : Chain T d m) : d ≤ T.length := by
  rcases Nat.lt_or_ge T.length d with hlt | hle
  · exfalso
    have hN : ∀ i, i < d → isNodeB T (ups T m i) = true := fun i hi => by
      have := chain_at i h (by omega)
      obtain ⟨e, he⟩ : ∃ e, d - i = e + 1 := ⟨d - i - 1, by omega⟩
      rw [he] at this
      exact this.1
    obtain ⟨i, j, hij, hj, he⟩ := pigeon T.length (fun i => (ups T m i - 1).toNat) (fun i hi => by
      have := isNode_iff.1 (hN i (by omega))
      (try dsimp only)
      omega)
    have hi' := isNode_iff.1 (hN i (by omega))
    have hj' := isNode_iff.1 (hN j (by omega))
    have he' : ups T m i = ups T m j := by (try dsimp only at he); omega
    have h1 := chain_at i h (by omega)
    have h2 := chain_at j h (by omega)
    rw [he'] at h1
    have := chain_same h1 h2
    omega
  · exact hle
theorem chain_keep {T : List NodeD} {j k a : Nat} (hj : j < T.length) (hk : k < T.length) (hjk : j ≠ k) : ∀ {d : Nat} {m : Int}, Chain T d m → (∀ i, i < d → ups T m i ≠ (k : Int) + 1) → Chain (insT T j k a) d m
  | 0, m, h, _ => h
  | d + 1, m, h, hx => by
    refine ⟨by rw [isNode_len (insT_length T j k a)]; exact h.1, ?_⟩
    obtain ⟨i, rfl, hi⟩ := isNode_split h.1
    have h0 : i ≠ k := fun e => hx 0 (by omega) (by show (i : Int) + 1 = _; rw [e])
    rw [insT_up hj hk hjk, if_neg h0, ← upOf_eq]
    exact chain_keep hj hk hjk h.2 (fun q hq => by rw [← ups_succ']; exact hx (q + 1) (by omega))
theorem chain_ins {T : List NodeD} {j k a : Nat} (hj : j < T.length) (hk : k < T.length) (hjk : j ≠ k) {e : Nat} (hK : Chain (insT T j k a) e ((k : Int) + 1)) : ∀ {d : Nat} {m : Int}, Chain T d m → ∃ d', Chain (insT T j k a) d' m
  | 0, m, h => ⟨0, h⟩
  | d + 1, m, h => by
    obtain ⟨i, rfl, hi⟩ := isNode_split h.1
    by_cases h0 : i = k
    · subst h0
      exact ⟨e, hK⟩
    · obtain ⟨d', hd⟩ := chain_ins hj hk hjk hK h.2
      refine ⟨d' + 1, by rw [isNode_len (insT_length T j k a)]; exact h.1, ?_⟩
      rw [insT_up hj hk hjk, if_neg h0, ← upOf_eq]
      exact hd
theorem insT_depth {T : List NodeD} {j k a : Nat} (ht : treeOk T = true) (hj : j < T.length) (hk : k < T.length) (hjk : j ≠ k) (hu : isUnder T ((j : Int) + 1) ((k : Int) + 1) = false) {i : Nat} (hi : i < T.length) : 1 ≤ depthOf (insT T j k a) ((i : Int) + 1) := by
  have hJ : isNodeB T ((j : Int) + 1) = true := isNode_iff.2 (by omega)
  have hK : isNodeB T ((k : Int) + 1) = true := isNode_iff.2 (by omega)
  have hI : isNodeB T ((i : Int) + 1) = true := isNode_iff.2 (by omega)
  obtain ⟨d, _, hdl, hc, _⟩ := treeOk_chain ht hJ
  have hx : ∀ q, q < d → ups T ((j : Int) + 1) q ≠ (k : Int) + 1 := by
    intro q hq he
    cases q with
    | zero => exact hjk (by have : (j : Int) + 1 = (k : Int) + 1 := he; omega)
    | succ q =>
      have : isUnder T ((j : Int) + 1) ((k : Int) + 1) = true := by
        unfold isUnder
        rw [hJ, hK, (underFrom_iff T _ _ _).2 ⟨q, by omega, he, fun p hp => by
          have h1 := chain_at (p + 1) hc (by omega)
          obtain ⟨e, hee⟩ : ∃ e, d - (p + 1) = e + 1 := ⟨d - (p + 1) - 1, by omega⟩
          rw [hee] at h1
          exact h1.1⟩]
        rfl
      rw [hu] at this
      cases this
  have h1 : Chain (insT T j k a) d ((j : Int) + 1) := chain_keep hj hk hjk hc hx
  have h2 : Chain (insT T j k a) (d + 1) ((k : Int) + 1) := ⟨by rw [isNode_len (insT_length T j k a)]; exact hK, by rw [insT_up hj hk hjk, if_pos rfl]; exact h1⟩
  obtain ⟨di, _, _, hci, _⟩ := treeOk_chain ht hI
  obtain ⟨d', hd'⟩ := chain_ins hj hk hjk h2 hci
  rw [chain_depthOf hd' (chain_short hd')]
  cases d' with
  | zero => exact absurd hd' (node_ne hI)
  | succ d' => omega
theorem at_of_mem {l : List Int} {z : Int} (h : z ∈ l) : ∃ q, q < l.length ∧ at_ l q = z := by
  obtain ⟨q, hq, rfl⟩ := List.getElem_of_mem h
  exact ⟨q, hq, by rw [at_, List.getD, List.getElem?_eq_getElem hq]; rfl⟩
theorem insT_nodeOk {T : List NodeD} {j k a : Nat} (ht : treeOk T = true) (hj : j < T.length) (hk : k < T.length) (hjk : j ≠ k) (hu : isUnder T ((j : Int) + 1) ((k : Int) + 1) = false)
    (hup : (node_ T k).up = 0) (hm : (node_ T j).meas = false) {i : Nat} (hi : i < T.length) : nodeOk (insT T j k a) i = decide (depthOf (insT T j k a) ((i : Int) + 1) ≤ 4) := by
  have h1 := insT_depth (a := a) ht hj hk hjk hu hi
  have hd : depthOk (insT T j k a) i = decide (depthOf (insT T j k a) ((i : Int) + 1) ≤ 4) := by
    unfold depthOk inB
    simp only [h1, true_and]
  have hb := treeOk_at ht hi
  unfold nodeOk at hb ⊢
  simp only [Bool.and_eq_true] at hb
  obtain ⟨⟨⟨⟨b1, b2⟩, b3⟩, b4⟩, b5⟩ := hb
  have hnj : ∀ z ∈ (node_ T j).kids, z ≠ (k : Int) + 1 := by
    intro z hz e
    obtain ⟨q, hq, rfl⟩ := at_of_mem hz
    have := (kid_facts ht hj hq).2
    rw [e, upOf_eq, hup] at this
    omega
  have c1 : styleOk (node_ (insT T j k a) i).style = true := by rw [insT_node hj hk hjk]; exact b1
  have c3 : (node_ (insT T j k a) i).kids.all (kidOk (insT T j k a) i) = true := by
    rw [List.all_eq_true]
    intro z hz
    rw [insT_node hj hk hjk] at hz
    have hz : z ∈ (if i = j then insL (node_ T j).kids a ((k : Int) + 1) else (node_ T i).kids) := hz
    have hold : ∀ z ∈ (node_ T i).kids, kidOk (insT T j k a) i z = true := by
      intro z hz
      obtain ⟨q, hq, rfl⟩ := at_of_mem hz
      obtain ⟨f1, f2⟩ := kid_facts ht hi hq
      obtain ⟨p, hp, hpl⟩ := isNode_split f1
      unfold kidOk
      rw [isNode_len (insT_length T j k a), f1, Bool.true_and]
      rw [hp, upOf_eq] at f2
      have hpk : p ≠ k := fun e => by rw [e, hup] at f2; omega
      rw [hp, insT_up hj hk hjk, if_neg hpk, f2]
      simp
    by_cases e : i = j
    · rw [if_pos e, insL_mem] at hz
      rcases hz with hz | hz
      · exact hold z (by rw [e]; exact hz)
      · unfold kidOk
        rw [isNode_len (insT_length T j k a), hz, insT_up hj hk hjk, if_pos rfl, e]
        simp [isNode_iff]
        omega
    · rw [if_neg e] at hz
      exact hold z hz
  have c4 : upOk (insT T j k a) i = true := by
    unfold upOk
    have hupi : (node_ (insT T j k a) i).up = if i = k then (j : Int) + 1 else (node_ T i).up := by rw [insT_node hj hk hjk]
    rw [hupi]
    by_cases e : i = k
    · subst e
      rw [if_pos rfl, nd_eq, insT_node hj hk hjk]
      have : countI (if j = j then insL (node_ T j).kids a ((i : Int) + 1) else (node_ T j).kids) ((i : Int) + 1) = 1 := by
        rw [if_pos rfl, insL_count, if_pos rfl]
        have : countI (node_ T j).kids ((i : Int) + 1) = 0 := by
          unfold countI
          rw [List.countP_eq_zero]
          intro z hz
          have := hnj z hz
          simpa using this
        omega
      show ((j : Int) + 1 == 0 || countI (if j = j then insL (node_ T j).kids a ((i : Int) + 1) else (node_ T j).kids) ((i : Int) + 1) == 1) = true
      rw [this]
      simp
    · rw [if_neg e]
      unfold upOk at b4
      by_cases h0 : (node_ T i).up = 0
      · rw [h0]; rfl
      · have hb : isNodeB T (node_ T i).up = true := by
          rcases depth_up hi b2 with h | h
          · exact absurd h h0
          · exact h
        obtain ⟨p, hp, hpl⟩ := isNode_split hb
        rw [hp, nd_eq] at b4
        rw [hp, nd_eq, insT_node hj hk hjk]
        have : countI (if p = j then insL (node_ T j).kids a ((k : Int) + 1) else (node_ T p).kids) ((i : Int) + 1) = countI (node_ T p).kids ((i : Int) + 1) := by
          by_cases ep : p = j
          · subst ep
            rw [if_pos rfl, insL_count, if_neg (by omega)]
            rfl
          · rw [if_neg ep]
        show ((p : Int) + 1 == 0 || countI (if p = j then insL (node_ T j).kids a ((k : Int) + 1) else (node_ T p).kids) ((i : Int) + 1) == 1) = true
        rw [this]
        exact b4
  have c5 : measOk (node_ (insT T j k a) i) = true := by
    rw [insT_node hj hk hjk]
    unfold measOk at b5 ⊢
    by_cases e : i = j
    · subst e
      rw [if_neg (by rw [hm]; decide)] at b5
      show (if (node_ T i).meas = true then _ else decide ((node_ T i).rules.length = 0)) = true
      rw [if_neg (by rw [hm]; decide)]
      exact b5
    · show (if (node_ T i).meas = true then tableOk (node_ T i).rules && decide ((if i = j then insL (node_ T j).kids a ((k : Int) + 1) else (node_ T i).kids).length = 0) else decide ((node_ T i).rules.length = 0)) = true
      rw [if_neg e]
      exact b5
  rw [c1, hd, c3, c4, c5]
  simp
theorem insT_ok {T : List NodeD} {j k a : Nat} (ht : treeOk T = true) (hj : j < T.length) (hk : k < T.length) (hjk : j ≠ k) (hu : isUnder T ((j : Int) + 1) ((k : Int) + 1) = false)
    (hup : (node_ T k).up = 0) (hm : (node_ T j).meas = false) : treeOk (insT T j k a) = depthsOk (insT T j k a) := by
  unfold treeOk depthsOk
  rw [insT_length, decide_eq_true (treeOk_len ht), Bool.true_and]
  rw [Bool.eq_iff_iff, List.all_eq_true, List.all_eq_true]
  constructor
  · intro h i hi
    have := h i hi
    rwa [insT_nodeOk ht hj hk hjk hu hup hm (List.mem_range.1 hi)] at this
  · intro h i hi
    rw [insT_nodeOk ht hj hk hjk hu hup hm (List.mem_range.1 hi)]
    exact h i hi
/-! ### sizes -/
theorem insT_small {T : List NodeD} {j k a : Nat} (ht : treeOk T = true) (hj : j < T.length) (hk : k < T.length) (hjk : j ≠ k) (ha : a ≤ (node_ T j).kids.length) :
    ∀ i, i < (insT T j k a).length → (node_ (insT T j k a) i).kids.length ≤ 13 ∧ (node_ (insT T j k a) i).rules.length ≤ 6 := by
  intro i hi
  rw [insT_length] at hi
  have h1 := treeOk_small ht i hi
  have h2 := treeOk_small ht j hj
  rw [insT_node hj hk hjk]
  refine ⟨?_, h1.2⟩
  show (if i = j then insL (node_ T j).kids a ((k : Int) + 1) else (node_ T i).kids).length ≤ 13
  split
  · rw [insL_length _ _ _ ha]; omega
  · omega
theorem insT_sz {T : List NodeD} {j k a : Nat} (ht : treeOk T = true) (hj : j < T.length) (hk : k < T.length) (hjk : j ≠ k) (ha : a ≤ (node_ T j).kids.length) : treeSz (insT T j k a) ≤ 300 :=
  small_sz (by rw [insT_length]; have := treeOk_len ht; omega) (insT_small ht hj hk hjk ha)
theorem insertKidT_sz {T : List NodeD} {n kid p : Int} (h : treeSz T ≤ 1048576) : treeSz (insertKidT T n kid p).1 ≤ 1048576 := by
  unfold insertKidT
  split
  · rename_i hh
    split
    · exact h
    · rename_i hc
      split
      · exact h
      · rename_i hp
        split
        · exact h
        · split
          · obtain ⟨j, rfl, hj⟩ := isNode_split hh.2.1
            obtain ⟨k, rfl, hk⟩ := isNode_split hh.2.2
            have hpi : inB p 0 ((nd T ((j : Int) + 1)).kids.length : Int) = true := by
              cases hq : inB p 0 ((nd T ((j : Int) + 1)).kids.length : Int)
              · exact absurd (.inr hq) hp
              · rfl
            rw [nd_eq] at hpi
            unfold inB at hpi
            simp only [Bool.and_eq_true, decide_eq_true_eq] at hpi
            have := insT_sz (a := p.toNat) hh.1 hj hk (fun e => hc (.inl (by rw [e]))) (by omega)
            rw [show ((j : Int) + 1 - 1).toNat = j by omega, show ((k : Int) + 1 - 1).toNat = k by omega]
            show treeSz (insT T j k p.toNat) ≤ 1048576
            omega
          · exact h
  · exact h
theorem depthsOk_no {T : List NodeD} {i : Nat} (hi : i < T.length) (h : ¬ depthOf T ((i : Int) + 1) ≤ 4) : depthsOk T = false := by
  unfold depthsOk
  rw [List.all_eq_false]
  exact ⟨i, List.mem_range.2 hi, by simpa using h⟩
theorem depthsOk_yes {T : List NodeD} (h : ∀ i, i < T.length → depthOf T ((i : Int) + 1) ≤ 4) : depthsOk T = true := by
  unfold depthsOk
  rw [List.all_eq_true]
  intro i hi
  simpa using h i (List.mem_range.1 hi)
end Go.Proofs.Ytcdneamoemmohaa
