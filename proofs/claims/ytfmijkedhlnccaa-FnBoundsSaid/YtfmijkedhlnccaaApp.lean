/- Appending one struct to a row of the call's own, whatever the struct; rows of slices. -/
import Derived.Test.YtfmijkedhlnccaaFam
namespace Go.Proofs.Ytfmijkedhlnccaa
open Go.RowKit Go.ChangeShapes Go.WideShapes
set_option linter.unusedVariables false
set_option linter.unusedSimpArgs false

/-- m elements appended to a row of the call's own, and where the row lies then -/
theorem appM {w : World} {ops : Array Oper} {rest : List Oper} {o : Oper} {a : Act} {Q : Exit → Act → World → Prop} (hgd : o.guard = none) (s x : Operand) (t e : TypeId)
    (ho : o.op = .call { callee := .builtin .append, args := #[s, x], argTypes := #[t, t] }) (z : Value) (size bytes : Nat) (hu : Try.prog.underlying t = some (.slice e))
    (hinfo : (Try.prog.info? e).map (fun i => (i.zero, i.size, i.bytes)) = some (some z, size, bytes)) (hzs : z.cells.size = size) (hpos : 0 < size) (hby : bytes ≤ 1024)
    (base : Nat) (v : Value) (n : Nat) (xs : List Value) (hs : a.eval s = v) (hown : w.ownsRow base e size v n xs) (ad : Addr) (m c : Nat) (hx : a.eval x = .slice (some ad) m c)
    (news : List Value) (hl : news.length = m * size) (hcells : ∀ j u, news[j]? = some u → w.cell? (ad.add j) = some u) (hone : ∀ u ∈ news, u.oneCell' = true) (hn : n ≤ 4194304) (hm : m ≤ 4194304) (hbase : base ≤ w.heap.size)
    (h : ∀ v' w', w'.ownsRow base e size v' (n + m) (xs ++ news) → w.grownBy w' v.ownBlock → (v'.ownBlock = v.ownBlock ∨ v'.ownBlock = some w.heap.size) → wpList Try.prog ops Q rest (a.put o.dst v') w') : wpList Try.prog ops Q (o :: rest) a w := by
  obtain ⟨i0, hi, hz0, hz1, hz2⟩ := info_parts hinfo
  have hb47 : (n + m) * bytes ≤ 140737488355328 := by
    have := Nat.mul_le_mul (show n + m ≤ 8388608 by omega) hby
    omega
  obtain ⟨v', w', hrun, h2, h3, _, h5⟩ := run_append_own_at (P := Try.prog) w base t o.type e i0 z size bytes hu hi hz0 hz1 hz2 hzs hpos v n xs hown ad m c news hl hcells hone (by unfold maxLen; omega) hb47 hbase
  refine wpList_plain hgd fun K hK => ?_
  unfold Oper.wp execOp
  simp only [ho, resolve, invoke, builtin, Sem.run_bind, Sem.run_pure, Result.andThen_ok, List.map_toArray, List.map_cons, List.map_nil, hs, hx, hrun]
  exact hK _ _ (h v' w' h2 h3 h5)

theorem appG {w : World} {ops : Array Oper} {rest : List Oper} {o : Oper} {a : Act} {Q : Exit → Act → World → Prop} (hgd : o.guard = none) (s x : Operand) (t e : TypeId)
    (ho : o.op = .call { callee := .builtin .append, args := #[s, x], argTypes := #[t, t] }) (z : Value) (size bytes : Nat) (hu : Try.prog.underlying t = some (.slice e))
    (hinfo : (Try.prog.info? e).map (fun i => (i.zero, i.size, i.bytes)) = some (some z, size, bytes)) (hzs : z.cells.size = size) (hpos : 0 < size) (hby : bytes ≤ 1024)
    (base : Nat) (v : Value) (n : Nat) (xs : List Value) (hs : a.eval s = v) (hown : w.ownsRow base e size v n xs) (g : Nat) (hx : a.eval x = .slice (some ⟨g, 0, none⟩) 1 1)
    (news : List Value) (hl : news.length = size) (hcells : ∀ j u, news[j]? = some u → w.cell? ⟨g, j, none⟩ = some u) (hone : ∀ u ∈ news, u.oneCell' = true) (hn : n ≤ 4194304) (hbase : base ≤ w.heap.size)
    (h : ∀ v' w', w'.ownsRow base e size v' (n + 1) (xs ++ news) → w.grownBy w' v.ownBlock → (v'.ownBlock = v.ownBlock ∨ v'.ownBlock = some w.heap.size) → wpList Try.prog ops Q rest (a.put o.dst v') w') : wpList Try.prog ops Q (o :: rest) a w :=
  appM hgd s x t e ho z size bytes hu hinfo hzs hpos hby base v n xs hs hown ⟨g, 0, none⟩ 1 1 hx news (by omega)
    (fun j u hj => by
      have := hcells j u hj
      rwa [show ((⟨g, 0, none⟩ : Addr).add j) = ⟨g, j, none⟩ by unfold Addr.add; split <;> simp_all]) hone hn (by omega) hbase h

/-- the cells of a block that was just laid -/
theorem new_cells (w : World) (cs : List Value) (t : TypeId) : ∀ j u, cs[j]? = some u → (w.alloc (.cells cs.toArray t)).cell? ⟨w.heap.size, j, none⟩ = some u := fun j u h => by
  rw [World.cell?_alloc_new]; simpa using h
theorem mk_one (s : Nat → Int) (b : Nat → Bool) : ∀ (ks : List Bool) (i : Nat), ∀ u ∈ mk s b i ks, u.oneCell' = true
  | [], _, u, h => by simp [mk] at h
  | true :: ks, i, u, h => by
    simp only [mk, List.mem_cons] at h
    rcases h with rfl | h
    · rfl
    · exact mk_one s b ks _ u h
  | false :: ks, i, u, h => by
    simp only [mk, List.mem_cons] at h
    rcases h with rfl | h
    · rfl
    · exact mk_one s b ks _ u h
theorem rcells_one (ks : List Bool) (r : Rec) : ∀ u ∈ rcells ks r, u.oneCell' = true := mk_one _ _ _ _

/-! ### rows of slices of ints -/
def rowsOf : List Value → List (List Int) → List Row
  | v :: vs, l :: ls => ⟨3, 1, v, l.length, VI l⟩ :: rowsOf vs ls
  | _, _ => []
theorem rowsOf_get : ∀ {VS : List Value} {LL : List (List Int)} {i : Nat} {v : Value} {l : List Int}, VS[i]? = some v → LL[i]? = some l → (rowsOf VS LL)[i]? = some ⟨3, 1, v, l.length, VI l⟩
  | v :: vs, l :: ls, 0, _, _, h1, h2 => by simp at h1 h2; subst h1 h2; rfl
  | v :: vs, l :: ls, i + 1, _, _, h1, h2 => by simp only [rowsOf, List.getElem?_cons_succ] at *; exact rowsOf_get h1 h2
  | [], _, _, _, _, h1, _ => by simp at h1
  | _ :: _, [], _, _, _, _, h2 => by simp at h2
theorem rowsOf_length : ∀ {VS : List Value} {LL : List (List Int)}, VS.length = LL.length → (rowsOf VS LL).length = LL.length
  | [], [], _ => rfl
  | v :: vs, l :: ls, h => by simp only [rowsOf, List.length_cons] at *; rw [rowsOf_length (by omega)]
  | [], _ :: _, h => by simp at h
  | _ :: _, [], h => by simp at h
theorem rowsOf_set : ∀ {VS : List Value} {LL : List (List Int)} (i : Nat) (v : Value) (l : List Int), VS.length = LL.length → rowsOf (VS.set i v) (LL.set i l) = (rowsOf VS LL).set i ⟨3, 1, v, l.length, VI l⟩
  | [], [], _, _, _, _ => rfl
  | v :: vs, l :: ls, 0, _, _, _ => rfl
  | v :: vs, l :: ls, i + 1, v', l', h => by simp only [rowsOf, List.set_cons_succ, List.length_cons] at *; rw [rowsOf_set i v' l' (by omega)]
  | [], _ :: _, _, _, _, h => by simp at h
  | _ :: _, [], _, _, _, h => by simp at h
theorem rowsOf_append : ∀ {VS VT : List Value} {LL MM : List (List Int)}, VS.length = LL.length → rowsOf (VS ++ VT) (LL ++ MM) = rowsOf VS LL ++ rowsOf VT MM
  | [], _, [], _, _ => rfl
  | v :: vs, _, l :: ls, _, h => by simp only [List.cons_append, rowsOf, List.length_cons] at *; rw [rowsOf_append (by omega)]
  | [], _, _ :: _, _, h => by simp at h
  | _ :: _, _, [], _, h => by simp at h

/-- one row of the family replaced by the last one -/
theorem Fam.repl {w : World} {base : Nat} {F : List Row} {r : Row} (h : Fam w base (F ++ [r])) (i : Nat) : Fam w base (F.set i r) := by
  have hP := List.pairwise_append.1 h.2
  have hF := List.pairwise_iff_getElem.1 hP.1
  have hr : ∀ j (hj : j < F.length), (F[j]).apart r := fun j hj => hP.2.2 _ (List.getElem_mem hj) r (by simp)
  refine ⟨fun a ha => ?_, ?_⟩
  · rcases List.mem_or_eq_of_mem_set ha with ha | rfl
    · exact h.1 a (by simp [ha])
    · exact h.1 a (by simp)
  · rw [List.pairwise_iff_getElem]
    intro a b ha hb hab
    rw [List.length_set] at ha hb
    rw [List.getElem_set, List.getElem_set]
    by_cases ea : i = a
    · rw [if_pos ea, if_neg (by omega)]
      exact (hr b hb).symm
    · rw [if_neg ea]
      by_cases eb : i = b
      · rw [if_pos eb]; exact hr a ha
      · rw [if_neg eb]; exact hF a b ha hb hab

/-- the slice of slices v of the call's own reads as LL -/
def LinesAt (w : World) (base : Nat) (v : Value) (LL : List (List Int)) : Prop :=
  ∃ VS : List Value, VS.length = LL.length ∧ Fam w base (⟨54, 1, v, LL.length, VS⟩ :: rowsOf VS LL)
/-- the slice of slices at A reads as LL -/
def Rows2 (w : World) (A : Option Addr) (LL : List (List Int)) : Prop :=
  ∀ i, i < LL.length → ∃ b o, A = some ⟨b, o, none⟩ ∧ b < w.heap.size ∧ ∀ j, j < LL.length → ∃ B d, w.cell? ⟨b, o + j, none⟩ = some (.slice B (LL.getD j []).length d) ∧ (LL.getD j []).length ≤ d ∧ d ≤ maxLen ∧ (B = none → d = 0) ∧ Ints w B (LL.getD j [])
theorem Rows2.keep {w w' : World} {A : Option Addr} {LL : List (List Int)} (h : Rows2 w A LL) (hb : Bel w w') : Rows2 w' A LL := fun i hi => by
  obtain ⟨b, o, h1, h2, h3⟩ := h i hi
  refine ⟨b, o, h1, Nat.lt_of_lt_of_le h2 hb.sz, fun j hj => ?_⟩
  obtain ⟨B, d, c1, c2, c3, c4, c5⟩ := h3 j hj
  exact ⟨B, d, (hb.cell _ _ h2).trans c1, c2, c3, c4, c5.keep hb⟩
theorem own_openC {w : World} {base : Nat} {e : TypeId} {v : Value} {n : Nat} {zs : List Int} (h : w.ownsRow base e 1 v n (VI zs)) : ∃ A c, v = .slice A zs.length c ∧ zs.length ≤ c ∧ c ≤ maxLen ∧ (A = none → c = 0) ∧ Ints w A zs := by
  have hl := h.1
  rw [VI_length, Nat.mul_one] at hl
  subst hl
  have h' := h
  rcases h.2 with ⟨rfl, h0⟩ | ⟨g, cap, cur, rfl, _, _, hnc, hcm, _⟩
  · have : zs = [] := List.eq_nil_of_length_eq_zero h0
    subst this
    exact ⟨none, 0, rfl, by simp, by simp, fun _ => rfl, Ints.nil _ _⟩
  · exact ⟨_, _, rfl, hnc, hcm, (fun h => by cases h), Ints.of_own h'⟩
theorem getD_eq {LL : List (List Int)} {j : Nat} (h : j < LL.length) : LL[j]? = some (LL.getD j []) := by simp [List.getD, List.getElem?_eq_getElem h]
theorem LinesAt.rows {w : World} {base : Nat} {v : Value} {LL : List (List Int)} (h : LinesAt w base v LL) : ∃ A c, v = .slice A LL.length c ∧ LL.length ≤ c ∧ c ≤ maxLen ∧ Rows2 w A LL := by
  obtain ⟨VS, hl, hF⟩ := h
  have h0 : w.ownsRow base 54 1 v LL.length VS := hF.1 ⟨54, 1, v, LL.length, VS⟩ (by simp)
  rcases h0.2 with ⟨rfl, h00⟩ | ⟨g, cap, cur, rfl, _, _, hnc, hcm, _⟩
  · have : LL = [] := List.eq_nil_of_length_eq_zero h00
    subst this
    exact ⟨none, 0, rfl, by simp, by simp, fun i hi => absurd hi (Nat.not_lt_zero _)⟩
  · refine ⟨_, _, rfl, hnc, hcm, fun i hi => ⟨g, 0, rfl, (h0.lt g rfl).2, fun j hj => ?_⟩⟩
    have hv : VS[j]? = some (VS[j]'(by omega)) := List.getElem?_eq_getElem (by omega)
    have ho : w.ownsRow base 3 1 (VS[j]'(by omega)) (LL.getD j []).length (VI (LL.getD j [])) := hF.1 ⟨3, 1, (VS[j]'(by omega)), (LL.getD j []).length, VI (LL.getD j [])⟩ (List.mem_cons_of_mem _ (List.mem_of_getElem? (rowsOf_get hv (getD_eq hj))))
    obtain ⟨B, d, hB, c1, c2, c3, c4⟩ := own_openC ho
    exact ⟨B, d, by rw [Nat.zero_add, h0.cellAt j (by omega), hv, hB], c1, c2, c3, c4⟩
theorem LinesAt.keep {w w' : World} {base : Nat} {v : Value} {LL : List (List Int)} (h : LinesAt w base v LL) (hb : Bel w w') : LinesAt w' base v LL := by
  obtain ⟨VS, h1, h2⟩ := h
  exact ⟨VS, h1, h2.keep hb⟩
theorem LinesAt.outer {w : World} {base : Nat} {v : Value} {LL : List (List Int)} {VS : List Value} (hF : Fam w base (⟨54, 1, v, LL.length, VS⟩ :: rowsOf VS LL)) : w.ownsRow base 54 1 v LL.length VS :=
  hF.1 ⟨54, 1, v, LL.length, VS⟩ (by simp)
/-- one of the slices replaced by a new one -/
theorem LinesAt.store {wr w3 w4 : World} {base : Nat} {v u : Value} {LL : List (List Int)} {VS : List Value} {l : List Int} {k n : Nat} (hl : VS.length = LL.length)
    (hF : Fam wr base (⟨54, 1, v, LL.length, VS⟩ :: rowsOf VS LL)) (hb : Bel wr w3) (hs : base ≤ wr.heap.size) (hr : w3.ownsRow wr.heap.size 3 1 u n (VI l)) (hk : k < LL.length)
    (ho : w4.ownsRow base 54 1 v LL.length (VS.set k u)) (hg : w3.grownBy w4 v.ownBlock) : LinesAt w4 base v (LL.set k l) := by
  have hn : n = l.length := by have := hr.1; rw [VI_length] at this; omega
  subst hn
  have h1 := Fam.add1 (r := ⟨3, 1, u, l.length, VI l⟩) hF hb hr hs
  have h2 := Fam.write (i := 0) (r := ⟨54, 1, v, LL.length, VS⟩) h1 rfl hg ⟨54, 1, v, LL.length, VS.set k u⟩ (.inl rfl) ho
  have h3 : Fam w4 base ((⟨54, 1, v, LL.length, VS.set k u⟩ :: rowsOf VS LL) ++ [⟨3, 1, u, l.length, VI l⟩]) := h2
  have h4 := h3.repl (k + 1)
  refine ⟨VS.set k u, by simp [hl], ?_⟩
  rw [rowsOf_set k u l hl, List.length_set]
  exact h4
/-- one slice more -/
theorem LinesAt.push {wr w3 w4 : World} {base : Nat} {v v' u : Value} {LL : List (List Int)} {VS : List Value} {l : List Int} (hl : VS.length = LL.length)
    (hF : Fam wr base (⟨54, 1, v, LL.length, VS⟩ :: rowsOf VS LL)) (hb : Bel wr w3) (hs : base ≤ wr.heap.size) (hr : w3.ownsRow wr.heap.size 3 1 u l.length (VI l))
    (ho : w4.ownsRow base 54 1 v' (LL.length + 1) (VS ++ [u])) (hg : w3.grownBy w4 v.ownBlock) (hloc : v'.ownBlock = v.ownBlock ∨ v'.ownBlock = some w3.heap.size) : LinesAt w4 base v' (LL ++ [l]) := by
  have h1 := Fam.add1 (r := ⟨3, 1, u, l.length, VI l⟩) hF hb hr hs
  have h2 := Fam.write (i := 0) (r := ⟨54, 1, v, LL.length, VS⟩) h1 rfl hg ⟨54, 1, v', LL.length + 1, VS ++ [u]⟩ hloc ho
  refine ⟨VS ++ [u], by simp [hl], ?_⟩
  rw [rowsOf_append hl, List.length_append]
  exact h2
end Go.Proofs.Ytfmijkedhlnccaa
