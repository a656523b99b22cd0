/- Copying a tree: laws on appending rules, on a slice of one node, on a node's own block; copyTable. -/
import Derived.Test.YtcdneamoemmohaaPlace
import Derived.Test.YtcdneamoemmohaaUnder
import Derived.Test.YtcdneamoemmohaaFamTree
namespace Go.Proofs.Ytcdneamoemmohaa
open Go.RowKit Go.ChangeShapes Go.WideShapes
set_option linter.unusedVariables false
set_option linter.unusedSimpArgs false

/-- the nodes at A read as T; a slice without a block has no room -/
def NodesC (w : World) (A : Option Addr) (T : List NodeD) : Prop :=
  ∀ i, i < T.length → ∃ b o, A = some ⟨b, o, none⟩ ∧ b < w.heap.size ∧ ∀ j, j < T.length → ∃ K ck R cr, w.rangeAt b (o + j * 64) (nodeL (node_ T j) (.slice K (node_ T j).kids.length ck) (.slice R (node_ T j).rules.length cr)) ∧
    Ints w K (node_ T j).kids ∧ Recs w R k_rule (node_ T j).rules ∧ (K = none → ck = 0) ∧ (R = none → cr = 0) ∧ (node_ T j).kids.length ≤ 9223372036854775807 ∧ (node_ T j).rules.length ≤ 9223372036854775807
theorem NodesC.keep {w w' : World} {A : Option Addr} {T : List NodeD} (h : NodesC w A T) (hb : Bel w w') : NodesC w' A T := fun i hi => by
  obtain ⟨b, o, h1, h2, h3⟩ := h i hi
  refine ⟨b, o, h1, Nat.lt_of_lt_of_le h2 hb.sz, fun j hj => ?_⟩
  obtain ⟨K, ck, R, cr, h4, h5, h6, h7⟩ := h3 j hj
  exact ⟨K, ck, R, cr, range_bel h4 hb h2, h5.keep hb, h6.keep hb, h7⟩
theorem NodesC.nodes {w : World} {A : Option Addr} {T : List NodeD} (h : NodesC w A T) : Nodes w A T := fun i hi => by
  obtain ⟨b, o, h1, h2, h3⟩ := h i hi
  refine ⟨b, o, h1, h2, fun j hj => ?_⟩
  obtain ⟨K, ck, R, cr, h4, h5, h6, _, _, h7, h8⟩ := h3 j hj
  exact ⟨_, ⟨K, ck, R, cr, rfl, h5, h6, h7, h8⟩, h4⟩
theorem TreeAt.nodesC {w : World} {base g n c : Nat} {T : List NodeD} (h : TreeAt w base (.slice (some ⟨g, 0, none⟩) n c) T) : NodesC w (some ⟨g, 0, none⟩) T := fun i hi => by
  have hh := h
  obtain ⟨KS, RS, h1, h2, hF⟩ := h
  have h0 : w.ownsRow base 77 64 (.slice (some ⟨g, 0, none⟩) n c) T.length (nodesL KS RS T) := hF.1 ⟨77, 64, .slice (some ⟨g, 0, none⟩) n c, T.length, nodesL KS RS T⟩ (by simp [treeF])
  have hn : n = T.length := by
    rcases h0.2 with ⟨e, _⟩ | ⟨_, _, _, e, _⟩
    · cases e
    · cases e; rfl
  subst hn
  refine ⟨g, 0, rfl, (h0.lt g rfl).2, fun j hj => ?_⟩
  obtain ⟨K, ck, R, cr, e1, e2, c1, c2, d1, d2, d3, d4, d5, d6, e3⟩ := TreeAt.node h1 h2 hF hj
  have hm := maxLen_i63
  refine ⟨K, ck, R, cr, fun q v hq => ?_, c1, c2, d3, d6, by omega, by omega⟩
  have hq' := lt_of_get hq
  rw [nodeL_length] at hq'
  rw [Nat.zero_add, h0.cellAt _ (by have := Nat.mul_le_mul_right 64 hj; omega), e3 q hq']
  exact hq
theorem own_far {w w' : World} {base g n size : Nat} {e : TypeId} {v : Value} {xs : List Value} (h : w.ownsRow base e size v n xs) (hg : w.grownBy w' (some g)) (hb : g < base) : w'.ownsRow base e size v n xs :=
  h.kept hg (by
    cases hv : v.ownBlock with
    | none => exact .inl rfl
    | some q =>
      right
      intro e
      injection e with e
      have := (h.lt q hv).1
      omega)
theorem Recs.news {w : World} {b o : Nat} {ks : List Bool} {L : List Rec} (h : Recs w (some ⟨b, o, none⟩) ks L) : ∀ j u, (RV ks L)[j]? = some u → w.cell? ((⟨b, o, none⟩ : Addr).add j) = some u := fun j u hj => by
  have hjl := lt_of_get hj
  rw [RV_length] at hjl
  have hC : 0 < ks.length := by
    rcases Nat.eq_zero_or_pos ks.length with h0 | h0
    · rw [h0, Nat.mul_zero] at hjl; omega
    · exact h0
  have hi : j / ks.length < L.length := Nat.div_lt_of_lt_mul (by rw [Nat.mul_comm]; exact hjl)
  obtain ⟨b', o', e, _, hc⟩ := h _ hi
  cases e
  have hjm : j = j / ks.length * ks.length + j % ks.length := by have := Nat.div_add_mod j ks.length; rw [Nat.mul_comm]; omega
  have hm := Nat.mod_lt j hC
  have e2 := RV_at (ks := ks) hi hm
  rw [← hjm] at e2
  have h3 := hc _ hi (j % ks.length) u (by rw [← e2]; exact hj)
  rw [Nat.add_assoc, ← hjm] at h3
  have e : (⟨b, o, none⟩ : Addr).add j = ⟨b, o + j, none⟩ := by
    unfold Addr.add
    split
    · rename_i h; subst h; rfl
    · rfl
  rw [e]
  exact h3
theorem Try.info_rule2 : (Try.prog.info? 106).map (fun i => (i.zero, i.size, i.bytes)) = some (some (.agg #[.int .i64 0, .int .i64 0, .int .i64 0]), 3, 24) := by kernel_rfl
set_option maxRecDepth 100000 in
/-- a slice of rules appended to a row of the call's own -/
theorem appR {w : World} {ops : Array Oper} {rest : List Oper} {o : Oper} {a : Act} {Q : Exit → Act → World → Prop} (hgd : o.guard = none) (s x : Operand)
    (ho : o.op = .call { callee := .builtin .append, args := #[s, x], argTypes := #[43, 43] })
    (base : Nat) (v : Value) (n : Nat) (xs : List Value) (hs : a.eval s = v) (hown : w.ownsRow base 106 3 v n xs) (A : Option Addr) (c : Nat) (L : List Rec) (hx : a.eval x = .slice A L.length c)
    (hI : Recs w A k_rule L) (hA : A = none → c = 0) (hn : n + L.length ≤ 4194304) (hbase : base ≤ w.heap.size)
    (h : ∀ v' w', w'.ownsRow base 106 3 v' (n + L.length) (xs ++ RV k_rule L) → w.grownBy w' v.ownBlock → wpList Try.prog ops Q rest (a.put o.dst v') w') : wpList Try.prog ops Q (o :: rest) a w := by
  obtain ⟨i0, hi, hz0, hz1, hz2⟩ := info_parts Try.info_rule2
  rcases A with _ | ad
  · have hz : L = [] := by
      rcases L with _ | ⟨z, zs⟩
      · rfl
      · obtain ⟨_, _, h0, _⟩ := hI 0 (by simp)
        cases h0
    subst hz
    have hc := hA rfl
    subst hc
    refine wpList_plain hgd fun K hK => ?_
    have hr := run_append_owned_none (P := Try.prog) w base 43 o.type 106 i0 3 Try.underlying43 hi v n xs hown
    unfold Oper.wp execOp
    simp only [ho, resolve, invoke, builtin, Sem.run_bind, Sem.run_pure, Result.andThen_ok, List.map_toArray, List.map_cons, List.map_nil, hs, hx, List.length_nil, hr]
    exact hK _ _ (h v w (by simpa [RV] using hown) (World.grownBy.refl w _))
  · refine wpList_append_own w hgd s x 43 ho base 106 i0 (.agg #[.int .i64 0, .int .i64 0, .int .i64 0]) 3 24 Try.underlying43 hi hz0 hz1 hz2 rfl (by decide) v n xs hs hown ad L.length c (RV k_rule L) hx (by rw [RV_length]; rfl) (fun j u hj => ?_) (fun u hu => ?_) (by unfold maxLen; omega) (by omega) hbase (fun v' w' h1 h2 _ => h v' w' h1 h2)
    · have hj' := lt_of_get hj
      rw [RV_length] at hj'
      have hL : 0 < L.length := by
        rcases Nat.eq_zero_or_pos L.length with h0 | h0
        · rw [h0, Nat.zero_mul] at hj'; omega
        · exact h0
      obtain ⟨b, o', h1, _, _⟩ := hI 0 hL
      injection h1 with h1
      subst h1
      exact hI.news j u hj
    · simp only [RV, List.mem_flatMap] at hu
      obtain ⟨r, _, hu⟩ := hu
      exact rcells_one _ _ _ hu

set_option maxRecDepth 100000 in
set_option maxHeartbeats 1000000 in
theorem copyTable_c (A : Option Addr) (c : Nat) (L : List Rec) (w : World) (h : Recs w A k_rule L) (hA : A = none → c = 0) (hn : L.length ≤ 1048576) :
    Calls Try.prog 59 #[tableV A L.length c] w fun r w' => ∃ v, r = .returned (.agg #[v]) ∧ w'.ownsRow w.heap.size 106 3 v L.length (RV k_rule L) ∧ Bel w w' := by
  have HB := hid' (((Bel.refl w).alloc (.cells #[.slice A L.length c] 45)).alloc (.cells #[.slice none 0 0] 45))
  have HA := Lib.hid hA
  clear hA
  go_enter Try.func59, Try.ntmps59
  go_wp2_with (at_builtin; refine appR rfl _ _ rfl (w.heap.size + 1 + 1) (.slice none 0 0) 0 [] rfl ⟨rfl, .inl ⟨rfl, rfl⟩⟩ A c L rfl (h.keep HB.out) HA.out (by omega) (by simp) ?_; intro v' w' ho' hg'; have hb' : Bel ((w.alloc (.cells #[.slice A L.length c] 45)).alloc (.cells #[.slice none 0 0] 45)) w' := (Bel.refl _).grown hg' (by simp [Value.ownBlock]); obtain ⟨hc1, hf1, hz1⟩ := hb'.open_; have hl1 : w.heap.size + 1 < w'.heap.size := by { (try simp at hz1); omega }; have HB2 := Lib.hid (HB.out.trans hb'); rw [Nat.zero_add, List.nil_append] at ho'; obtain ⟨A', c', rfl, -, -, -⟩ := own_openR (ks := k_rule) rfl ho'; have HO := Lib.hid ho'; clear ho' hg' hb')
  refine bodyPost_ret (v := .agg #[.slice A' L.length c']) (by simp [results, Try.results59, go_sem, hc1]) rfl ⟨_, rfl, ?_, ?_⟩
  · have h1 := HO.out
    exact own_low (own_far h1 (g := w.heap.size + 1) ⟨rfl, rfl, rfl, by simp [World.setCell], fun k hk hne => Below.heap_setCell _ _ _ _ (fun e => hne (by rw [e]))⟩ (by omega)) (by omega)
  · exact HB2.out.setCell (by simp) _
end Go.Proofs.Ytcdneamoemmohaa
