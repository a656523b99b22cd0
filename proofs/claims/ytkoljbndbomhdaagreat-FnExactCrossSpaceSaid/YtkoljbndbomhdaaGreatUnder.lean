/- A node and all below it, both sides: plain part, the node contract that names what it reads, and the two functions. -/
import Derived.Test.YtkoljbndbomhdaaGreatGone
namespace Go.Proofs.YtkoljbndbomhdaaGreat
open Go.RowKit Go.ChangeShapes Go.WideShapes
set_option linter.unusedVariables false
set_option linter.unusedSimpArgs false

def underL (T : List NodeD) : Nat → Int → List Int
  | 0, _ => []
  | f + 1, n => n :: (nd T n).kids.flatMap (underL T f)
def allUnder (T : List NodeD) (n : Int) : List Int := if treeOk T = true ∧ isNodeB T n = true then underL T (5 - (depthOf T n).toNat) n else []
theorem chain_same {T : List NodeD} : ∀ {d d' : Nat} {m : Int}, Chain T d m → Chain T d' m → d = d'
  | 0, 0, _, _, _ => rfl
  | 0, d' + 1, m, h, h' => absurd h (node_ne h'.1)
  | d + 1, 0, m, h, h' => absurd h' (node_ne h.1)
  | d + 1, d' + 1, m, h, h' => by rw [chain_same h.2 h'.2]
theorem chain_le {T : List NodeD} (h : treeOk T = true) {m : Int} {d : Nat} (hm : isNodeB T m = true) (hc : Chain T d m) : 1 ≤ d ∧ d ≤ 4 ∧ depthOf T m = (d : Int) := by
  obtain ⟨d', h4, _, hc', hd⟩ := treeOk_chain h hm
  obtain rfl := chain_same hc hc'
  refine ⟨?_, h4, hd⟩
  cases d with
  | zero => exact absurd hc (node_ne hm)
  | succ d => omega
theorem kid_facts {T : List NodeD} (h : treeOk T = true) {j q : Nat} (hj : j < T.length) (hq : q < (node_ T j).kids.length) :
    isNodeB T (at_ (node_ T j).kids q) = true ∧ upOf T (at_ (node_ T j).kids q) = (j : Int) + 1 := by
  have hm : at_ (node_ T j).kids q ∈ (node_ T j).kids := by
    have := at_eq hq
    exact List.mem_of_getElem? this
  have := treeOk_kids h hj _ hm
  unfold kidOk at this
  simpa using this
theorem kid_chain {T : List NodeD} (h : treeOk T = true) {j q d : Nat} (hj : j < T.length) (hq : q < (node_ T j).kids.length) (hc : Chain T d ((j : Int) + 1)) : Chain T (d + 1) (at_ (node_ T j).kids q) := by
  obtain ⟨h1, h2⟩ := kid_facts h hj hq
  exact ⟨h1, by rw [h2]; exact hc⟩
theorem countI_two {l : List Int} {z : Int} {i j : Nat} (hij : i < j) (hj : j < l.length) (h1 : at_ l i = z) (h2 : at_ l j = z) : 2 ≤ countI l z := by
  unfold countI
  have e : l = l.take j ++ l.drop j := (List.take_append_drop j l).symm
  rw [e, List.countP_append]
  have a1 : 0 < (l.take j).countP (· == z) := List.countP_pos_iff.2 ⟨z, List.mem_iff_getElem?.2 ⟨i, by rw [List.getElem?_take_of_lt hij, at_eq (by omega), h1]⟩, by simp⟩
  have a2 : 0 < (l.drop j).countP (· == z) := List.countP_pos_iff.2 ⟨z, List.mem_iff_getElem?.2 ⟨0, by rw [List.getElem?_drop, Nat.add_zero, at_eq hj, h2]⟩, by simp⟩
  omega
/-- a valid tree's node has at most twelve children -/
theorem kids_few {T : List NodeD} (h : treeOk T = true) {j : Nat} (hj : j < T.length) : (node_ T j).kids.length ≤ 12 := by
  have h12 := treeOk_len h
  rcases Nat.lt_or_ge 12 (node_ T j).kids.length with hgt | hle
  · exfalso
    obtain ⟨a, b, hab, hb, he⟩ := pigeon 12 (fun i => (at_ (node_ T j).kids i - 1).toNat) (fun i hi => by
      have := isNode_iff.1 (kid_facts h hj (q := i) (by omega)).1
      (try dsimp only)
      omega)
    obtain ⟨fa1, fa2⟩ := kid_facts h hj (q := a) (by omega)
    obtain ⟨fb1, fb2⟩ := kid_facts h hj (q := b) (by omega)
    have ha' := isNode_iff.1 fa1
    have hb' := isNode_iff.1 fb1
    have hee : at_ (node_ T j).kids a = at_ (node_ T j).kids b := by (try dsimp only at he); omega
    have h2 := countI_two hab (by omega) hee rfl
    obtain ⟨m, hm, hmj⟩ := isNode_split fb1
    have hup := treeOk_at h hmj
    unfold nodeOk at hup
    simp only [Bool.and_eq_true] at hup
    have hup := hup.1.2
    rw [hm, upOf_eq] at fb2
    unfold upOk at hup
    rw [fb2, nd_eq, ← hm] at hup
    simp at hup
    omega
  · exact hle
theorem flatMap_len {f : Int → List Int} {B : Nat} : ∀ {l : List Int}, (∀ x ∈ l, (f x).length ≤ B) → (l.flatMap f).length ≤ l.length * B
  | [], _ => by simp
  | x :: l, h => by
    have h1 := h x (by simp)
    have h2 := flatMap_len (l := l) (fun y hy => h y (by simp [hy]))
    simp only [List.flatMap_cons, List.length_append, List.length_cons, Nat.add_mul]
    omega
theorem underL_len {T : List NodeD} (h : treeOk T = true) : ∀ (f : Nat) (n : Int), isNodeB T n = true → (underL T f n).length ≤ 13 ^ f
  | 0, n, _ => by simp [underL]
  | f + 1, n, hn => by
    obtain ⟨j, rfl, hj⟩ := isNode_split hn
    simp only [underL, List.length_cons, nd_eq]
    have h1 := flatMap_len (f := underL T f) (B := 13 ^ f) (l := (node_ T j).kids) (fun x hx => by
      obtain ⟨q, hq, hx⟩ := List.mem_iff_getElem.1 hx
      have := kid_facts h hj hq
      rw [show at_ (node_ T j).kids q = x by simp [at_, List.getD, List.getElem?_eq_getElem hq, hx]] at this
      exact underL_len h f x this.1)
    have h2 := Nat.mul_le_mul_right (13 ^ f) (kids_few h hj)
    have h3 : 1 ≤ 13 ^ f := Nat.one_le_pow _ _ (by decide)
    rw [Nat.pow_succ]
    omega
/-- what is in hand after q children -/
def underTo (T : List NodeD) (f : Nat) (j q : Nat) : List Int := ((j : Int) + 1) :: ((node_ T j).kids.take q).flatMap (underL T f)
theorem underTo_succ {T : List NodeD} {f j q : Nat} (hq : q < (node_ T j).kids.length) : underTo T f j (q + 1) = underTo T f j q ++ underL T f (at_ (node_ T j).kids q) := by
  unfold underTo
  rw [List.take_add_one, at_eq hq]
  simp
theorem underTo_all (T : List NodeD) (f j : Nat) : underTo T f j (node_ T j).kids.length = underL T (f + 1) ((j : Int) + 1) := by
  simp [underTo, underL, nd_eq]
theorem underTo_len {T : List NodeD} (h : treeOk T = true) {f j q : Nat} (hj : j < T.length) (hq : q ≤ (node_ T j).kids.length) (hf : f ≤ 4) : (underTo T f j q).length ≤ 400000 := by
  unfold underTo
  have h1 := flatMap_len (f := underL T f) (B := 28561) (l := (node_ T j).kids.take q) (fun x hx => by
    obtain ⟨p, hp, hx⟩ := List.mem_iff_getElem.1 (List.mem_of_mem_take hx)
    have := kid_facts h hj hp
    rw [show at_ (node_ T j).kids p = x by simp [at_, List.getD, List.getElem?_eq_getElem hp, hx]] at this
    have h1 := underL_len h f x this.1
    have h2 : 13 ^ f ≤ 13 ^ 4 := Nat.pow_le_pow_right (by decide) hf
    omega)
  have h2 := kids_few h hj
  rw [List.length_take] at h1
  have h3 : min q (node_ T j).kids.length ≤ 12 := by omega
  have h4 := Nat.mul_le_mul_right 28561 h3
  simp only [List.length_cons]
  omega
theorem allUnder_eq {T : List NodeD} (h : treeOk T = true) {n : Int} {f d : Nat} (hn : isNodeB T n = true) (hc : Chain T d n) (hf : f + d = 5) : allUnder T n = underL T f n := by
  unfold allUnder
  rw [if_pos ⟨h, hn⟩, (chain_le h hn hc).2.2]
  congr 1
  omega
theorem allUnder_len (T : List NodeD) (n : Int) : (allUnder T n).length ≤ 1048576 := by
  unfold allUnder
  split
  · rename_i h
    obtain ⟨d, _, _, hc, hd⟩ := treeOk_chain h.1 h.2
    have h1 := underL_len h.1 (5 - (depthOf T n).toNat) n h.2
    have h2 : 13 ^ (5 - (depthOf T n).toNat) ≤ 13 ^ 5 := Nat.pow_le_pow_right (by decide) (by omega)
    omega
  · simp
theorem VI_app (a b : List Int) : VI a ++ VI b = VI (a ++ b) := by simp [VI]

theorem own_low {w : World} {base base' : Nat} {e : TypeId} {size : Nat} {v : Value} {n : Nat} {xs : List Value} (h : w.ownsRow base e size v n xs) (hb : base' ≤ base) : w.ownsRow base' e size v n xs :=
  ⟨h.1, h.2.elim .inl fun ⟨g, cap, cur, h1, h2, h3⟩ => .inr ⟨g, cap, cur, h1, Nat.le_trans hb h2, h3⟩⟩
set_option maxRecDepth 100000 in
/-- what appending a slice of ints to a row of the call's own answers -/
theorem appS_run (w : World) (ty : TypeId) (base : Nat) (v : Value) (n : Nat) (xs : List Value) (hown : w.ownsRow base 3 1 v n xs) (A : Option Addr) (c : Nat) (zs : List Int)
    (hI : Ints w A zs) (hA : A = none → c = 0) (hn : n + zs.length ≤ 4194304) (hbase : base ≤ w.heap.size) :
    ∃ v' w', (Builtin.append_ #[48, 48] ty #[v, .slice A zs.length c]).run Tryz.prog w = .ok v' w' ∧ w'.ownsRow base 3 1 v' (n + zs.length) (xs ++ VI zs) ∧ w.grownBy w' v.ownBlock := by
  obtain ⟨i0, hi, hz0, hz1, hz2⟩ := info_parts Tryz.info_int
  rcases A with _ | ad
  · have hz : zs = [] := by
      rcases zs with _ | ⟨z, zs⟩
      · rfl
      · obtain ⟨_, _, h0, _⟩ := hI 0 (by simp)
        cases h0
    subst hz
    have hc := hA rfl
    subst hc
    exact ⟨v, w, run_append_owned_none (P := Tryz.prog) w base 48 ty 3 i0 1 Tryz.underlying48 hi v n xs hown, by simpa [VI] using hown, World.grownBy.refl w _⟩
  · obtain ⟨v', w', hrun, h2, h3, _, _⟩ := run_append_own_at (P := Tryz.prog) w base 48 ty 3 i0 (.int .i64 0) 1 8 Tryz.underlying48 hi hz0 hz1 hz2 rfl (by decide) v n xs hown ad zs.length c (VI zs) (by rw [VI_length, Nat.mul_one]) (fun j u hj => by
      have hj' := lt_of_VI hj
      obtain ⟨b, o', h1, _, h3⟩ := hI j hj'
      injection h1 with h1
      subst h1
      rw [VI_at hj'] at hj
      injection hj with hj
      subst hj
      have e : (⟨b, o', none⟩ : Addr).add j = ⟨b, o' + j, none⟩ := by
        unfold Addr.add
        split
        · rename_i h; subst h; rfl
        · rfl
      rw [e]
      exact h3 j hj') (fun u hu => by
      simp only [VI, List.mem_map] at hu
      obtain ⟨z, _, rfl⟩ := hu
      rfl) (by unfold maxLen; omega) (by omega) hbase
    exact ⟨v', w', hrun, h2, h3⟩
/-- the same as an operation of a region whose order is open -/
theorem step_appS {w : World} {ops : Array Oper} {o : Oper} {a : Act} {K : Act → World → Prop} {Q : Exit → Act → World → Prop} {E : Prop} (hgd : o.guard = none) (s x : Operand)
    (ho : o.op = .call { callee := .builtin .append, args := #[s, x], argTypes := #[48, 48] })
    (base : Nat) (v : Value) (n : Nat) (xs : List Value) (hs : a.eval s = v) (hown : w.ownsRow base 3 1 v n xs) (A : Option Addr) (c : Nat) (zs : List Int) (hx : a.eval x = .slice A zs.length c)
    (hI : Ints w A zs) (hA : A = none → c = 0) (hn : n + zs.length ≤ 4194304) (hbase : base ≤ w.heap.size)
    (h : ∀ v' w', w'.ownsRow base 3 1 v' (n + zs.length) (xs ++ VI zs) → w.grownBy w' v.ownBlock → K (a.put o.dst v') w') :
    if Region.wanted o (yielded ops a.tmps) = true then Oper.wp Tryz.prog o a w K Q else E := by
  have hw : Region.wanted o (yielded ops a.tmps) = true := by simp [Region.wanted, hgd]
  rw [if_pos hw]
  obtain ⟨v', w', hrun, h2, h3⟩ := appS_run w o.type base v n xs hown A c zs hI hA hn hbase
  unfold Oper.wp execOp
  simp only [ho, resolve, invoke, builtin, Sem.run_bind, Sem.run_pure, Result.andThen_ok, List.map_toArray, List.map_cons, List.map_nil, hs, hx, hrun]
  exact h v' w' h2 h3

/-- one node of a tree in memory, its two slices named -/
theorem Nodes.open1 {w : World} {A : Option Addr} {T : List NodeD} (h : Nodes w A T) {j : Nat} (hj : j < T.length) :
    ∃ b o K ck R cr, A = some ⟨b, o, none⟩ ∧ b < w.heap.size ∧ w.rangeAt b (o + j * 64) (nodeL (node_ T j) (.slice K (node_ T j).kids.length ck) (.slice R (node_ T j).rules.length cr)) ∧ Ints w K (node_ T j).kids := by
  obtain ⟨b, o, rfl, hbl, hR⟩ := h j hj
  obtain ⟨L, ⟨K, ck, R, cr, rfl, hK, -⟩, hrg⟩ := hR j hj
  exact ⟨b, o, K, ck, R, cr, rfl, hbl, hrg, hK⟩
set_option maxRecDepth 100000 in
set_option maxHeartbeats 2000000 in
theorem iNode_at (b o c : Nat) (T : List NodeD) (k : Nat) (K : Option Addr) (nk ck : Nat) (R : Option Addr) (nr cr : Nat) (w : World) (hbl : b < w.heap.size) (hrg : w.rangeAt b (o + k * 64) (nodeL (node_ T k) (.slice K nk ck) (.slice R nr cr))) (hk : k < T.length) (hn : T.length ≤ 1048576) :
    Calls Tryz.prog 35 #[treeV (some ⟨b, o, none⟩) T.length c, .int .i64 ((k : Int) + 1)] w fun e w' => e = .returned (.agg (nodeL (node_ T k) (.slice K nk ck) (.slice R nr cr)).toArray) ∧ Bel w w' := by
  have h64 : (nodeL (node_ T k) (.slice K nk ck) (.slice R nr cr)).length = 64 := nodeL_length _ _ _
  have HT := hid' (hid' (show ((w.alloc (.cells #[.slice (some ⟨b, o, none⟩) T.length c] 32)).alloc (.cells znode.toArray 79)).there (w.heap.size + 1) 0 64 from by
    have := there_new (w.alloc (.cells #[.slice (some ⟨b, o, none⟩) T.length c] 32)) znode.toArray 79
    rwa [show (w.alloc (.cells #[.slice (some ⟨b, o, none⟩) T.length c] 32)).heap.size = w.heap.size + 1 by simp] at this))
  have HB := hid' (((Bel.refl w).alloc (.cells #[.slice (some ⟨b, o, none⟩) T.length c] 32)).alloc (.cells znode.toArray 79))
  have HG := hid' (range_bel hrg HB.out hbl)
  have hkt : (k : Int) < (T.length : Int) := by omega
  have TK := hid' True.intro
  clear hrg
  go_enter Tryz.func35, Tryz.ntmps35
  go_wp2_with (first
    | ((with_reducible show wpList _ _ _ (Oper.mk _ (Op.fieldAddr _ _ _) _ _ _ _ :: _) _ _); clear TK; refine gen_world ?_; intro w1 HW
       have hc1 : w1.cell? ⟨w.heap.size, 0, none⟩ = some (.slice (some ⟨b, o, none⟩) T.length c) := by rw [HW.out]; simp
       have HG1 : Hid (w1.rangeAt b (o + k * 64) (nodeL (node_ T k) (.slice K nk ck) (.slice R nr cr))) := hid' (by rw [HW.out]; exact HG.out)
       have HT1 : Hid (w1.there (w.heap.size + 1) 0 64) := hid' (by rw [HW.out]; exact HT.out.out)
       have HB1 : Hid (Bel w w1) := hid' (by rw [HW.out]; exact HB.out)
       clear HG HT HB HW)
    | ((with_reducible show wpList _ _ _ (Oper.mk _ (Op.load _ _) _ _ _ _ :: _) _ _); refine wpList_load_mid rfl 79 _ rfl b (o + k * 64) rfl (nodeL (node_ T k) (.slice K nk ck) (.slice R nr cr)) _ HG1.out Tryz.underlying79 rfl (by rw [h64]; kernel_rfl) ?_)
    | ((with_reducible show wpList _ _ _ (Oper.mk _ (Op.store _ _ _) _ _ _ _ :: _) _ _); refine storeNode rfl _ _ rfl (w.heap.size + 1) 0 rfl (node_ T k) (.slice K nk ck) (.slice R nr cr) rfl rfl rfl HT1 ?_))
  have hg := setCells_gb (w.heap.size + 1) (nodeL (node_ T k) (.slice K nk ck) (.slice R nr cr)) 0 w1
  have hb2 : Bel w _ := HB1.out.grown hg (fun q e => by injection e with e; omega)
  have hr : World.rangeAt _ (w.heap.size + 1) 0 (nodeL (node_ T k) (.slice K nk ck) (.slice R nr cr)) := World.rangeAt_setCells_same w1 _ _ _ (by rw [h64]; exact HT1.out)
  exact bodyPost_ret_by (results_cell_any Tryz.results35 _ _ (w.heap.size + 1) _ _ rfl hr Tryz.underlying79 rfl (by rw [h64]; kernel_rfl)) rfl ⟨rfl, hb2⟩
set_option maxRecDepth 100000 in
set_option maxHeartbeats 2000000 in
theorem sNode_at (b o c : Nat) (T : List NodeD) (k : Nat) (K : Option Addr) (nk ck : Nat) (R : Option Addr) (nr cr : Nat) (w : World) (hbl : b < w.heap.size) (hrg : w.rangeAt b (o + k * 64) (nodeL (node_ T k) (.slice K nk ck) (.slice R nr cr))) (hk : k < T.length) (hn : T.length ≤ 1048576) :
    Calls Tryz.prog 25 #[treeV (some ⟨b, o, none⟩) T.length c, .int .i64 ((k : Int) + 1)] w fun e w' => e = .returned (.agg (nodeL (node_ T k) (.slice K nk ck) (.slice R nr cr)).toArray) ∧ Bel w w' := by
  have h64 : (nodeL (node_ T k) (.slice K nk ck) (.slice R nr cr)).length = 64 := nodeL_length _ _ _
  have HT := hid' (hid' (show ((w.alloc (.cells #[.slice (some ⟨b, o, none⟩) T.length c] 32)).alloc (.cells znode.toArray 79)).there (w.heap.size + 1) 0 64 from by
    have := there_new (w.alloc (.cells #[.slice (some ⟨b, o, none⟩) T.length c] 32)) znode.toArray 79
    rwa [show (w.alloc (.cells #[.slice (some ⟨b, o, none⟩) T.length c] 32)).heap.size = w.heap.size + 1 by simp] at this))
  have HB := hid' (((Bel.refl w).alloc (.cells #[.slice (some ⟨b, o, none⟩) T.length c] 32)).alloc (.cells znode.toArray 79))
  have HG := hid' (range_bel hrg HB.out hbl)
  have hkt : (k : Int) < (T.length : Int) := by omega
  have TK := hid' True.intro
  clear hrg
  go_enter Tryz.func25, Tryz.ntmps25
  go_wp2_with (first
    | ((with_reducible show wpList _ _ _ (Oper.mk _ (Op.fieldAddr _ _ _) _ _ _ _ :: _) _ _); clear TK; refine gen_world ?_; intro w1 HW
       have hc1 : w1.cell? ⟨w.heap.size, 0, none⟩ = some (.slice (some ⟨b, o, none⟩) T.length c) := by rw [HW.out]; simp
       have HG1 : Hid (w1.rangeAt b (o + k * 64) (nodeL (node_ T k) (.slice K nk ck) (.slice R nr cr))) := hid' (by rw [HW.out]; exact HG.out)
       have HT1 : Hid (w1.there (w.heap.size + 1) 0 64) := hid' (by rw [HW.out]; exact HT.out.out)
       have HB1 : Hid (Bel w w1) := hid' (by rw [HW.out]; exact HB.out)
       clear HG HT HB HW)
    | ((with_reducible show wpList _ _ _ (Oper.mk _ (Op.load _ _) _ _ _ _ :: _) _ _); refine wpList_load_mid rfl 79 _ rfl b (o + k * 64) rfl (nodeL (node_ T k) (.slice K nk ck) (.slice R nr cr)) _ HG1.out Tryz.underlying79 rfl (by rw [h64]; kernel_rfl) ?_)
    | ((with_reducible show wpList _ _ _ (Oper.mk _ (Op.store _ _ _) _ _ _ _ :: _) _ _); refine storeNode rfl _ _ rfl (w.heap.size + 1) 0 rfl (node_ T k) (.slice K nk ck) (.slice R nr cr) rfl rfl rfl HT1 ?_))
  have hg := setCells_gb (w.heap.size + 1) (nodeL (node_ T k) (.slice K nk ck) (.slice R nr cr)) 0 w1
  have hb2 : Bel w _ := HB1.out.grown hg (fun q e => by injection e with e; omega)
  have hr : World.rangeAt _ (w.heap.size + 1) 0 (nodeL (node_ T k) (.slice K nk ck) (.slice R nr cr)) := World.rangeAt_setCells_same w1 _ _ _ (by rw [h64]; exact HT1.out)
  exact bodyPost_ret_by (results_cell_any Tryz.results25 _ _ (w.heap.size + 1) _ _ rfl hr Tryz.underlying79 rfl (by rw [h64]; kernel_rfl)) rfl ⟨rfl, hb2⟩
end Go.Proofs.YtkoljbndbomhdaaGreat
