/- Slices of ints: the plain predicates, the law's own helpers. -/
import Derived.Test.YtfmijkedhlnccaaNum
import Derived.Deep.QuietTactic
import Derived.BigQuiet
import Derived.Lib.Hide
namespace Go.Proofs.Ytfmijkedhlnccaa
open Go.RowKit Go.ChangeShapes Go.WideShapes
set_option linter.unusedVariables false
set_option linter.unusedSimpArgs false

theorem Try.info_int : (Try.prog.info? 3).map (fun i => (i.zero, i.size, i.bytes)) = some (some (.int .i64 0), 1, 8) := by kernel_rfl

def VI (zs : List Int) : List Value := zs.map (Value.int .i64)
def at_ (zs : List Int) (i : Nat) : Int := zs.getD i 0
/-- the slice at A reads xs0 the numbers zs -/
def Ints (w : World) (A : Option Addr) (zs : List Int) : Prop :=
  ∀ i, i < zs.length → ∃ b o, A = some ⟨b, o, none⟩ ∧ b < w.heap.size ∧ ∀ j, j < zs.length → w.cell? ⟨b, o + j, none⟩ = some (.int .i64 (at_ zs j))

theorem at_eq {zs : List Int} {i : Nat} (h : i < zs.length) : zs[i]? = some (at_ zs i) := by
  simp [at_, List.getD, List.getElem?_eq_getElem h]
theorem VI_length (zs : List Int) : (VI zs).length = zs.length := by simp [VI]
theorem VI_at {zs : List Int} {i : Nat} (h : i < zs.length) : (VI zs)[i]? = some (.int .i64 (at_ zs i)) := by
  simp [VI, at_eq h]
theorem lt_of_VI {zs : List Int} {j : Nat} {u : Value} (h : (VI zs)[j]? = some u) : j < zs.length := by
  rcases Nat.lt_or_ge j zs.length with h1 | h1
  · exact h1
  · rw [List.getElem?_eq_none (by rw [VI_length]; exact h1)] at h; cases h
theorem VI_ext {xs : List Value} {zs : List Int} (hl : xs.length = zs.length) (h : ∀ j, j < zs.length → xs[j]? = some (.int .i64 (at_ zs j))) : xs = VI zs := by
  apply List.ext_getElem?
  intro i
  by_cases hi : i < zs.length
  · rw [h i hi, VI_at hi]
  · rw [List.getElem?_eq_none (by omega), List.getElem?_eq_none (by rw [VI_length]; omega)]
theorem at_mem {zs : List Int} {i : Nat} (h : i < zs.length) : at_ zs i ∈ zs := List.mem_of_getElem? (at_eq h)
theorem ints_ext {xs0 ys0 : List Int} (hl : xs0.length = ys0.length) (h : ∀ j, j < xs0.length → at_ xs0 j = at_ ys0 j) : xs0 = ys0 := by
  apply List.ext_getElem?
  intro i
  by_cases hi : i < xs0.length
  · rw [at_eq hi, at_eq (by omega), h i hi]
  · rw [List.getElem?_eq_none (by omega), List.getElem?_eq_none (by omega)]

theorem Ints.keep {w w' : World} {A : Option Addr} {zs : List Int} (h : Ints w A zs) (hb : Bel w w') : Ints w' A zs := fun i hi => by
  obtain ⟨b, o, h1, h2, h3⟩ := h i hi
  exact ⟨b, o, h1, Nat.lt_of_lt_of_le h2 hb.sz, fun j hj => (hb.cell _ _ h2).trans (h3 j hj)⟩

theorem Ints.of_own {w : World} {base : Nat} {e : TypeId} {g n c : Nat} {zs : List Int} (h : w.ownsRow base e 1 (.slice (some ⟨g, 0, none⟩) n c) n (VI zs)) : Ints w (some ⟨g, 0, none⟩) zs := fun _ _ => by
  have hl := h.1
  rw [VI_length] at hl
  refine ⟨g, 0, rfl, (h.lt g rfl).2, fun j hj => ?_⟩
  rw [Nat.zero_add, h.cellAt j (by omega), VI_at hj]

theorem Ints.nil (w : World) (A : Option Addr) : Ints w A [] := fun _ hi => absurd hi (Nat.not_lt_zero _)

/-- a row of the call's own, nil or not -/
theorem own_open {w : World} {base : Nat} {e : TypeId} {v : Value} {n : Nat} {zs : List Int} (h : w.ownsRow base e 1 v n (VI zs)) :
    ∃ A c, v = .slice A zs.length c ∧ n = zs.length ∧ zs.length ≤ c ∧ c ≤ maxLen ∧ Ints w A zs := by
  have hl := h.1
  rw [VI_length, Nat.mul_one] at hl
  subst hl
  have h' := h
  rcases h.2 with ⟨rfl, h0⟩ | ⟨g, cap, cur, rfl, _, _, hnc, hcm, _⟩
  · have : zs = [] := List.eq_nil_of_length_eq_zero h0
    subst this
    exact ⟨none, 0, rfl, rfl, by simp, by simp, Ints.nil _ _⟩
  · exact ⟨_, _, rfl, rfl, hnc, hcm, Ints.of_own h'⟩

theorem open_intS {H : Type} {enc : TypeId × Value → H} {P : Program} {w : World} {base : Nat} {spare : Nat → Bool} {held : Bool} {r : Reach} {b0 : Nat} {t e : TypeId} {v : Value} {d : DataW H} {p : List MemPlace}
    (hs : P.underlying t = some (.slice e)) (he : P.underlying e = some (.int .i64)) (hC : P.cellsOf e = 1) (hv : Value.okWide P w r b0 t v) (h : DataW.Trod enc P w base spare held t v d p) :
    ∃ A c zs, v = .slice A zs.length c ∧ zs.length ≤ c ∧ c ≤ maxLen ∧ (∀ i, In64 (at_ zs i)) ∧ Ints w A zs := by
  obtain ⟨a, len, cap, rfl⟩ := okWide_slice hs hv
  obtain ⟨n, hn⟩ := h
  rcases Go.Deep.open_slice1 hs hC hn with ⟨h0, _⟩ | ⟨a', len', cap', m, n', V, D, Pl, h0, _, hl, hm, hmm, _, hx⟩
  · simp [Value.cells] at h0
    obtain ⟨rfl, rfl, rfl⟩ := h0
    exact ⟨none, 0, [], rfl, by simp, by simp, fun i => by simp [at_, In64], Ints.nil _ _⟩
  · simp [Value.cells] at h0
    obtain ⟨rfl, rfl, rfl⟩ := h0
    have hle : len ≤ m := by rw [hmm]; split <;> omega
    have hint : ∀ i, i < len → ∃ z : Int, V i = .int .i64 z ∧ In64 z := fun i hi => by
      obtain ⟨z, hz, _, hw⟩ := DataW.trod_int he (hx i (by omega)).2
      simp only [List.cons.injEq, and_true] at hz
      exact ⟨z, hz, in64_of_wf hw⟩
    obtain ⟨Z, hZ⟩ := Go.Deep.choose_lt (α := Int) hint
    have hat : ∀ j, j < len → at_ ((List.range len).map Z) j = Z j := fun j hj => by simp [at_, List.getD, hj]
    refine ⟨some a', cap, (List.range len).map Z, by simp, by simpa using hl, hm, fun i => ?_, fun i hi => ?_⟩
    · by_cases hi : i < len
      · rw [hat i hi]; exact (hZ i hi).2
      · simp [at_, List.getD, hi, In64]
    · simp at hi
      obtain ⟨b, o, s⟩ := a'
      have h0 := (hx 0 (by omega)).1
      have hsp : s = none := by simpa [Addr.add] using World.cell?_spot h0
      subst hsp
      refine ⟨b, o, rfl, by simpa [Addr.add] using World.block_lt_of_cell? w _ h0, fun j hj => ?_⟩
      simp at hj
      rw [hat j hj, ← (hZ j hj).1]
      have hj' := (hx j (by omega)).1
      have e : (⟨b, o, none⟩ : Addr).add j = ⟨b, o + j, none⟩ := by
        unfold Addr.add
        split
        · rename_i h; subst h; rfl
        · rfl
      rw [← e]
      exact hj'

theorem VI_snoc (zs : List Int) (z : Int) : VI zs ++ [Value.int .i64 z] = VI (zs ++ [z]) := by simp [VI]
theorem own_nil (w : World) (base : Nat) (e : TypeId) : w.ownsRow base e 1 (.slice none 0 0) 0 (VI []) := ⟨rfl, .inl ⟨rfl, rfl⟩⟩
theorem own_off {w : World} {base : Nat} {e : TypeId} {size b o n c : Nat} {xs : List Value} (h : w.ownsRow base e size (.slice (some ⟨b, o, none⟩) n c) n xs) (_hn : 0 < n) : o = 0 := by
  rcases h.2 with ⟨h1, _⟩ | ⟨g, cap, cur, h1, _⟩
  · cases h1
  · injection h1 with h2 _ _
    injection h2 with h3
    injection h3
/-- one int appended to a row of the call's own -/
theorem app1 {w : World} {ops : Array Oper} {rest : List Oper} {o : Oper} {a : Act} {Q : Exit → Act → World → Prop} (hgd : o.guard = none) (s x : Operand)
    (ho : o.op = .call { callee := .builtin .append, args := #[s, x], argTypes := #[54, 54] })
    (base : Nat) (v : Value) (n : Nat) (xs : List Value) (hs : a.eval s = v) (hown : w.ownsRow base 3 1 v n xs) (g : Nat) (z : Int) (hx : a.eval x = .slice (some ⟨g, 0, none⟩) 1 1)
    (hcell : w.cell? ⟨g, 0, none⟩ = some (.int .i64 z)) (hn : n ≤ 4194304) (hbase : base ≤ w.heap.size)
    (h : ∀ v' w', w'.ownsRow base 3 1 v' (n + 1) (xs ++ [.int .i64 z]) → w.grownBy w' v.ownBlock → wpList Try.prog ops Q rest (a.put o.dst v') w') : wpList Try.prog ops Q (o :: rest) a w := by
  obtain ⟨i0, hi, hz0, hz1, hz2⟩ := info_parts Try.info_int
  refine wpList_append_own w hgd s x 54 ho base 3 i0 (.int .i64 0) 1 8 Try.underlying54 hi hz0 hz1 hz2 rfl (by decide) v n xs hs hown ⟨g, 0, none⟩ 1 1 [.int .i64 z] hx rfl (fun j u hj => ?_) (fun u hu => ?_) (by unfold maxLen; omega) (by omega) hbase (fun v' w' h1 h2 _ => h v' w' h1 h2)
  · match j, hj with
    | 0, hj => simp at hj; subst hj; simpa [Addr.add] using hcell
  · simp at hu; subst hu; rfl

theorem own_openN {w : World} {base : Nat} {e : TypeId} {v : Value} {n : Nat} {zs : List Int} (h : w.ownsRow base e 1 v n (VI zs)) : ∃ A c, v = .slice A n c ∧ n ≤ c ∧ c ≤ maxLen ∧ Ints w A zs ∧ n = zs.length := by
  obtain ⟨A, c, h1, h2, h3, h4, h5⟩ := own_open h
  subst h2
  exact ⟨A, c, h1, h3, h4, h5, rfl⟩
/-- a row of the call's own that reads as ints: its view at the slice's address -/
theorem own_ints {w : World} {base : Nat} {e : TypeId} {A : Option Addr} {n c : Nat} {zs : List Int} (h : w.ownsRow base e 1 (.slice A n c) n (VI zs)) : Ints w A zs := by
  obtain ⟨A', c', hv, _, _, _, hI⟩ := own_open h
  injection hv with h1 _ _
  subst h1
  exact hI
set_option maxRecDepth 100000 in
/-- a slice of ints appended to a row of the call's own -/
theorem appS {w : World} {ops : Array Oper} {rest : List Oper} {o : Oper} {a : Act} {Q : Exit → Act → World → Prop} (hgd : o.guard = none) (s x : Operand)
    (ho : o.op = .call { callee := .builtin .append, args := #[s, x], argTypes := #[54, 54] })
    (base : Nat) (v : Value) (n : Nat) (xs : List Value) (hs : a.eval s = v) (hown : w.ownsRow base 3 1 v n xs) (A : Option Addr) (c : Nat) (zs : List Int) (hx : a.eval x = .slice A zs.length c)
    (hI : Ints w A zs) (hA : A = none → c = 0) (hn : n + zs.length ≤ 4194304) (hbase : base ≤ w.heap.size)
    (h : ∀ v' w', w'.ownsRow base 3 1 v' (n + zs.length) (xs ++ VI zs) → w.grownBy w' v.ownBlock → wpList Try.prog ops Q rest (a.put o.dst v') w') : wpList Try.prog ops Q (o :: rest) a w := by
  obtain ⟨i0, hi, hz0, hz1, hz2⟩ := info_parts Try.info_int
  rcases A with _ | ad
  · have hz : zs = [] := by
      rcases zs with _ | ⟨z, zs⟩
      · rfl
      · obtain ⟨_, _, h0, _⟩ := hI 0 (by simp)
        cases h0
    subst hz
    have hc := hA rfl
    subst hc
    refine wpList_plain hgd fun K hK => ?_
    have hr := run_append_owned_none (P := Try.prog) w base 54 o.type 3 i0 1 Try.underlying54 hi v n xs hown
    unfold Oper.wp execOp
    simp only [ho, resolve, invoke, builtin, Sem.run_bind, Sem.run_pure, Result.andThen_ok, List.map_toArray, List.map_cons, List.map_nil, hs, hx, List.length_nil, hr]
    exact hK _ _ (h v w (by simpa [VI] using hown) (World.grownBy.refl w _))
  · refine wpList_append_own w hgd s x 54 ho base 3 i0 (.int .i64 0) 1 8 Try.underlying54 hi hz0 hz1 hz2 rfl (by decide) v n xs hs hown ad zs.length c (VI zs) hx (by rw [VI_length, Nat.mul_one]) (fun j u hj => ?_) (fun u hu => ?_) (by unfold maxLen; omega) (by omega) hbase (fun v' w' h1 h2 _ => h v' w' h1 h2)
    · have hj' := lt_of_VI hj
      obtain ⟨b, o', h1, _, h3⟩ := hI j hj'
      injection h1 with h1
      subst h1
      rw [VI_at hj'] at hj
      injection hj with hj
      subst hj
      have e : (⟨b, o', none⟩ : Addr).add j = ⟨b, o' + j, none⟩ := by
        unfold Addr.add
        split
        · rename_i h; subst h; rfl
        · rfl
      rw [e]
      exact h3 j hj'
    · simp only [VI, List.mem_map] at hu
      obtain ⟨z, _, rfl⟩ := hu
      rfl

theorem Bel.own {a b c : World} {v : Value} {n : Nat} {xs : List Value} {e : TypeId} {size base : Nat} (h : Bel a b) (hb : a.heap.size ≤ base) (ho : b.ownsRow base e size v n xs) (hg : b.grownBy c v.ownBlock) : Bel a c :=
  h.grown hg fun k hk => Nat.le_trans hb (ho.lt k hk).1

end Go.Proofs.Ytfmijkedhlnccaa
