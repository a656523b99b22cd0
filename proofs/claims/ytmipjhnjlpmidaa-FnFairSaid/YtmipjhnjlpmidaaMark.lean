/- markIntS, heldIntS: the numbers written, and read back. -/
import Derived.Test.YtmipjhnjlpmidaaInts
import Derived.Maps.AppendAt
namespace Go.Proofs.Ytmipjhnjlpmidaa
open Go.RowKit Go.ChangeShapes Go.WideShapes
set_option linter.unusedVariables false
set_option linter.unusedSimpArgs false

def marks (k : Int) (n : Nat) : List Int := (List.range n).map fun i : Nat => k + (i : Int)
theorem marks_length (k : Int) (n : Nat) : (marks k n).length = n := by simp [marks]
theorem marks_at (k : Int) {n i : Nat} (h : i < n) : at_ (marks k n) i = k + (i : Int) := by simp [at_, marks, List.getD, h]

theorem own_ne {a b : World} {base1 base2 n1 n2 s1 s2 : Nat} {e1 e2 : TypeId} {v1 v2 : Value} {xs1 xs2 : List Value} (h1 : a.ownsRow base1 e1 s1 v1 n1 xs1) (h2 : b.ownsRow base2 e2 s2 v2 n2 xs2) (h : a.heap.size ≤ base2) :
    v1.ownBlock = none ∨ v1.ownBlock ≠ v2.ownBlock := by
  cases hv : v1.ownBlock with
  | none => exact .inl rfl
  | some k =>
    right
    intro e
    have l1 := h1.lt k hv
    have l2 := h2.lt k e.symm
    omega
theorem own_ne' {a b : World} {base1 base2 n1 n2 s1 s2 : Nat} {e1 e2 : TypeId} {v1 v2 : Value} {xs1 xs2 : List Value} (h1 : a.ownsRow base1 e1 s1 v1 n1 xs1) (h2 : b.ownsRow base2 e2 s2 v2 n2 xs2) (h : a.heap.size ≤ base2) :
    v2.ownBlock = none ∨ v2.ownBlock ≠ v1.ownBlock := by
  cases hv : v2.ownBlock with
  | none => exact .inl rfl
  | some k =>
    right
    intro e
    have l1 := h1.lt k e.symm
    have l2 := h2.lt k hv
    omega

/-- one int appended to a row of the call's own, and where the row lies then -/
theorem app1w {w : World} {ops : Array Oper} {rest : List Oper} {o : Oper} {a : Act} {Q : Exit → Act → World → Prop} (hgd : o.guard = none) (s x : Operand)
    (ho : o.op = .call { callee := .builtin .append, args := #[s, x], argTypes := #[29, 29] })
    (base : Nat) (v : Value) (n : Nat) (xs : List Value) (hs : a.eval s = v) (hown : w.ownsRow base 3 1 v n xs) (g : Nat) (z : Int) (hx : a.eval x = .slice (some ⟨g, 0, none⟩) 1 1)
    (hcell : w.cell? ⟨g, 0, none⟩ = some (.int .i64 z)) (hn : n ≤ 4194304) (hbase : base ≤ w.heap.size)
    (h : ∀ v' w', w'.ownsRow base 3 1 v' (n + 1) (xs ++ [.int .i64 z]) → w.grownBy w' v.ownBlock → (v'.ownBlock = v.ownBlock ∨ v'.ownBlock = some w.heap.size) → wpList Try.prog ops Q rest (a.put o.dst v') w') : wpList Try.prog ops Q (o :: rest) a w := by
  obtain ⟨i0, hi, hz0, hz1, hz2⟩ := info_parts Try.info_int
  obtain ⟨v', w', hrun, h2, h3, _, h5⟩ := run_append_own_at (P := Try.prog) w base 29 o.type 3 i0 (.int .i64 0) 1 8 Try.underlying29 hi hz0 hz1 hz2 rfl (by decide) v n xs hown ⟨g, 0, none⟩ 1 1 [.int .i64 z] rfl (fun j u hj => by
    match j, hj with
    | 0, hj => simp at hj; subst hj; simpa [Addr.add] using hcell) (fun u hu => by simp at hu; subst hu; rfl) (by unfold maxLen; omega) (by omega) hbase
  refine wpList_plain hgd fun K hK => ?_
  unfold Oper.wp execOp
  simp only [ho, resolve, invoke, builtin, Sem.run_bind, Sem.run_pure, Result.andThen_ok, List.map_toArray, List.map_cons, List.map_nil, hs, hx, hrun]
  exact hK _ _ (h v' w' h2 h3 h5)

/-- the slice at S does not lie in the row v -/
def Apart (v : Value) (S : Option Addr) : Prop := ∀ g b o, v.ownBlock = some g → S = some ⟨b, o, none⟩ → g ≠ b
theorem Ints.grown {w w' : World} {v : Value} {S : Option Addr} {zs : List Int} (h : Ints w S zs) (hg : w.grownBy w' v.ownBlock) (ha : Apart v S) : Ints w' S zs := fun i hi => by
  obtain ⟨b, o, h1, h2, h3⟩ := h i hi
  exact ⟨b, o, h1, Nat.lt_of_lt_of_le h2 hg.size, fun j hj => hg.cell (a := ⟨b, o + j, none⟩) (h3 j hj) (fun e => ha b b o e.symm h1 rfl)⟩
theorem Apart.step {w : World} {v v' : Value} {S : Option Addr} {zs : List Int} (ha : Apart v S) (h : v'.ownBlock = v.ownBlock ∨ v'.ownBlock = some w.heap.size) (hI : Ints w S zs) (hz : 0 < zs.length) : Apart v' S := by
  intro g b o h1 h2
  rcases h with h | h
  · exact ha g b o (by rw [← h]; exact h1) h2
  · rw [h] at h1
    injection h1 with h1
    obtain ⟨b', o', e, hl, _⟩ := hI 0 hz
    rw [h2] at e
    injection e with e
    injection e with e
    omega

set_option maxRecDepth 100000 in
set_option maxHeartbeats 1000000 in
theorem markIntS_c (base : Nat) (v : Value) (n : Nat) (zs : List Int) (m : Int) (w : World) (ho : w.ownsRow base 3 1 v n (VI zs)) (hn : zs.length ≤ 4194304) (hm : 0 ≤ m ∧ m ≤ 4611686018427387904) :
    Calls Try.prog 19 #[v, .int .i64 m] w fun r w' => r = .returned (.int .i64 (m + (zs.length : Int))) ∧ w'.ownsRow base 3 1 v n (VI (marks m zs.length)) ∧ w.grownBy w' v.ownBlock := by
  obtain ⟨A, c, rfl, rfl, hc1, hc2, hI⟩ := own_open ho
  go_enter Try.func19, Try.ntmps19
  go_wp2_with fail
  go_loopw [1, 5] (fun s i wr => ∃ (k : Nat) (xs : List Value), k ≤ zs.length ∧ i = .int .i64 k ∧ s = .int .i64 (m + (k : Int)) ∧ wr.ownsRow base 3 1 (.slice A zs.length c) zs.length xs ∧ (∀ j, j < k → xs[j]? = some (.int .i64 (m + (j : Int)))) ∧ w.grownBy wr (Value.slice A zs.length c).ownBlock) (fun _ i _ => zs.length - (intOf i).toNat)
  case atStart => exact ⟨0, _, Nat.zero_le _, by go_num, by go_num, ho, fun j hj => absurd hj (Nat.not_lt_zero _), World.grownBy.refl w _⟩
  case round =>
    obtain ⟨k, xs, hk, rfl, rfl, ho1, hx, hg⟩ := hrel
    have hX := Lib.hid hx
    clear hx
    by_cases hlt : k < zs.length
    · obtain ⟨b, o, rfl, hbl, -⟩ := hI k hlt
      obtain rfl : o = 0 := own_off ho1 (by omega)
      obtain ⟨u, hu⟩ : ∃ u, wr.cell? ⟨b, k, none⟩ = some u := ⟨_, by rw [ho1.cellAt k (by omega)]; exact List.getElem?_eq_getElem (by have := ho1.1; omega)⟩
      have hfz : wr.frozen? ⟨b, k, none⟩ = false := ho1.frozenAt k
      have HS := Lib.hid (ho1.stored k (.int .i64 (m + (k : Int))))
      have HG := Lib.hid hg
      clear hg
      go_wp2
      go_roundw
      case rel =>
        refine ⟨k + 1, _, by omega, by go_num, by go_num, HS.out.1, fun j hj => ?_, HG.out.trans HS.out.2⟩
        rw [List.getElem?_set]
        by_cases e : k = j
        · rw [if_pos e, if_pos (by have := ho1.1; omega), e]
        · rw [if_neg e]; exact hX.out j (by omega)
      case measure => simp [intOf]; omega
    · obtain rfl : k = zs.length := by omega
      go_wp2
      go_ret
      refine ⟨rfl, ?_, hg⟩
      rw [← VI_ext (xs := xs) (by rw [marks_length]; have := ho1.1; omega) (fun j hj => by rw [marks_length] at hj; rw [marks_at _ hj]; exact hX.out j hj)]
      exact ho1
set_option maxRecDepth 100000 in
set_option maxHeartbeats 1000000 in
theorem heldIntS_c (A : Option Addr) (c n : Nat) (m : Int) (w : World) (h : Ints w A (marks m n)) (hn : n ≤ 4194304) (hm : 0 ≤ m ∧ m ≤ 4611686018427387904) :
    Calls Try.prog 20 #[.slice A n c, .int .i64 m] w fun r w' => r = .returned (.int .i64 (m + (n : Int))) ∧ Bel w w' := by
  go_enter Try.func20, Try.ntmps20
  go_wp2_with fail
  go_loopw [1, 5] (fun s i wr => ∃ (k : Nat), k ≤ n ∧ i = .int .i64 k ∧ s = .int .i64 (m + (k : Int)) ∧ Bel w wr) (fun _ i _ => n - (intOf i).toNat)
  case atStart => exact ⟨0, Nat.zero_le _, by go_num, by go_num, Bel.refl w⟩
  case round =>
    obtain ⟨k, hk, rfl, rfl, hb⟩ := hrel
    by_cases hlt : k < n
    · obtain ⟨b, o, rfl, hbl, hc⟩ := h k (by rw [marks_length]; exact hlt)
      have hcA : wr.cell? ⟨b, o + k, none⟩ = some (.int .i64 (m + (k : Int))) := by rw [← marks_at m hlt]; exact (hb.cell _ _ hbl).trans (hc k (by rw [marks_length]; exact hlt))
      clear hc
      go_wp2
      go_roundw
      case rel => exact ⟨k + 1, by omega, by go_num, by go_num, hb⟩
      case measure => simp [intOf]; omega
    · obtain rfl : k = n := by omega
      go_wp2
      go_ret
      exact ⟨rfl, hb⟩
theorem eqIntS_same (A B : Option Addr) (c d n : Nat) (zs : List Int) (w : World) (ha : Ints w A zs) (hb : Ints w B zs) (hl : n = zs.length) (hn : n ≤ 1048576) :
    Calls Try.prog 17 #[.slice A n c, .slice B n d] w fun r w' => r = .returned (.bool true) ∧ Bel w w' := by
  subst hl
  refine (eqIntS_c _ _ _ _ _ _ _ ha hb hn hn).mono ?_
  rintro e w' ⟨rfl, h⟩
  exact ⟨by simp, h⟩
theorem markIntS_n (base : Nat) (v : Value) (n : Nat) (zs : List Int) (m : Int) (w : World) (ho : w.ownsRow base 3 1 v n (VI zs)) (hn : n ≤ 4194304) (hm : 0 ≤ m ∧ m ≤ 4611686018427387904) :
    Calls Try.prog 19 #[v, .int .i64 m] w fun r w' => r = .returned (.int .i64 (m + (n : Int))) ∧ w'.ownsRow base 3 1 v n (VI (marks m n)) ∧ w.grownBy w' v.ownBlock := by
  have hl : n = zs.length := by have := ho.1; rw [VI_length] at this; omega
  subst hl
  exact markIntS_c base v _ zs m w ho hn hm
end Go.Proofs.Ytmipjhnjlpmidaa
