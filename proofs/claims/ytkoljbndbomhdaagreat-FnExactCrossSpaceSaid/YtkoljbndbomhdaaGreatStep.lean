/- Walking a long body whose frame is left abstract: three slots are known, the others are anything. -/
import Derived.Test.YtkoljbndbomhdaaGreatMarkT
namespace Go.Proofs.YtkoljbndbomhdaaGreat
open Go.RowKit Go.ChangeShapes Go.WideShapes
set_option linter.unusedVariables false
set_option linter.unusedSimpArgs false

/-- slot d was set -/
structure Put (a' a : Act) (d : Nat) (u : Value) : Prop where
  sz : a'.tmps.size = a.tmps.size
  new : d < a.tmps.size → a'.eval (.tmp d) = u
  old : ∀ e, d ≠ e → a'.eval (.tmp e) = a.eval (.tmp e)
  df : a'.defers = a.defers
theorem put_put (a : Act) (d : Nat) (u : Value) : Put (a.put (some d) u) a d u :=
  ⟨by simp [Act.put], fun h => by simp [Act.put, Act.eval, Array.getD, h], fun e h => by simp [Act.put, Act.eval, Array.getElem?_setIfInBounds, h], rfl⟩
structure AS (a : Act) (N : Nat) (v i z : Value) : Prop where
  sz : a.tmps.size = N
  t0 : a.eval (.tmp 0) = v
  t5 : a.eval (.tmp 5) = i
  t1 : a.eval (.tmp 1) = z
  df : a.defers = []
theorem AS.put {a a' : Act} {N : Nat} {v i z u : Value} {d : Nat} (h : AS a N v i z) (p : Put a' a d u) (hd : 5 < d) : AS a' N v i z :=
  ⟨p.sz.trans h.sz, (p.old _ (by omega)).trans h.t0, (p.old _ (by omega)).trans h.t5, (p.old _ (by omega)).trans h.t1, p.df.trans h.df⟩
theorem AS.put1 {a a' : Act} {N : Nat} {v i z u : Value} (h : AS a N v i z) (p : Put a' a 1 u) (hN : 5 < N) : AS a' N v i u :=
  ⟨p.sz.trans h.sz, (p.old _ (by omega)).trans h.t0, (p.old _ (by omega)).trans h.t5, p.new (by rw [h.sz]; omega), p.df.trans h.df⟩
theorem AS.put5 {a a' : Act} {N : Nat} {v i z u : Value} (h : AS a N v i z) (p : Put a' a 5 u) (hN : 5 < N) : AS a' N v u z :=
  ⟨p.sz.trans h.sz, (p.old _ (by omega)).trans h.t0, p.new (by rw [h.sz]; omega), (p.old _ (by omega)).trans h.t1, p.df.trans h.df⟩
theorem AS.put4 {a a' : Act} {N : Nat} {v i z u : Value} (h : AS a N v i z) (p : Put a' a 4 u) (hN : 5 < N) : AS a' N v i z :=
  ⟨p.sz.trans h.sz, (p.old _ (by omega)).trans h.t0, (p.old _ (by omega)).trans h.t5, (p.old _ (by omega)).trans h.t1, p.df.trans h.df⟩

section
variable {P : Program} {ops : Array Oper} {rest : List Oper} {a : Act} {w w' : World} {Q : Exit → Act → World → Prop} {d : Nat} {ty : TypeId} {pos : String} {edges : Array Edge}
theorem wl_val {o : Op} (u : Value) (hr : (execOp a.eval ⟨some d, o, ty, pos, edges, none⟩).run P w = .ok (.value u) w) (h : ∀ a', Put a' a d u → wpList P ops Q rest a' w) : wpList P ops Q (⟨some d, o, ty, pos, edges, none⟩ :: rest) a w :=
  wpList_plain rfl fun _ hK => by
    unfold Oper.wp
    rw [hr]
    exact hK _ _ (h _ (put_put a d u))
theorem wl_move {x : Operand} {u : Value} (hx : a.eval x = u) (h : ∀ a', Put a' a d u → wpList P ops Q rest a' w) : wpList P ops Q (⟨some d, .move x, ty, pos, edges, none⟩ :: rest) a w :=
  wl_val u (by unfold execOp; simp [hx]) h
theorem wl_assign {x : Operand} {u : Value} (hx : a.eval x = u) (h : ∀ a', Put a' a d u → wpList P ops Q rest a' w) : wpList P ops Q (⟨some d, .assign x, ty, pos, edges, none⟩ :: rest) a w :=
  wl_val u (by unfold execOp; simp [hx]) h
theorem run_indexAt {t e : TypeId} {g n c k sz : Nat} (hu : P.underlying t = some (.slice e)) (hs : (P.info? e).map (·.size) = some sz) (hk : k < n) :
    (Instr.indexAt t (.slice (some ⟨g, 0, none⟩) n c) (.int .i64 (k : Int))).run P w = .ok (.pointer (some ⟨g, k * sz, none⟩)) w := by
  have h1 := run_underlying hu w
  obtain ⟨i, hi, hz⟩ : ∃ i, P.info? e = some i ∧ i.size = sz := by
    cases hq : P.info? e with
    | none => rw [hq] at hs; simp at hs
    | some i => exact ⟨i, rfl, by rw [hq] at hs; simpa using hs⟩
  have hk0 : (0 : Int) ≤ (k : Int) := by omega
  have hk1 : (k : Int) < (n : Int) := by omega
  simp [Instr.indexAt, asIntOf, Sem.run_bind, h1, hk, sizeOf, typeInfo, hi, hz, Addr.add]
  intro h0
  omega
theorem wl_index {t : TypeId} {x y : Operand} {e : TypeId} {g n c k sz : Nat} (hu : P.underlying t = some (.slice e)) (hs : (P.info? e).map (·.size) = some sz) (hk : k < n)
    (hx : a.eval x = .slice (some ⟨g, 0, none⟩) n c) (hy : a.eval y = .int .i64 (k : Int)) (h : ∀ a', Put a' a d (.pointer (some ⟨g, k * sz, none⟩)) → wpList P ops Q rest a' w) : wpList P ops Q (⟨some d, .indexAddr t x y, ty, pos, edges, none⟩ :: rest) a w :=
  wl_val _ (by unfold execOp; simp only [hx, hy, Sem.run_bind, run_indexAt hu hs hk]; rfl) h
def fieldOff (P : Program) (s f : Nat) : Option Nat :=
  match P.underlying s with
  | some (.struct fs) => match fs[f]? with
    | some d => match P.info? d.type with
      | some i => if i.size = 0 then none else some d.offset
      | none => none
    | none => none
  | _ => none
theorem run_fieldAt {s f off g o : Nat} (h : fieldOff P s f = some off) : (Instr.fieldAt s (.pointer (some ⟨g, o, none⟩)) f).run P w = .ok (.pointer (some ⟨g, o + off, none⟩)) w := by
  unfold fieldOff at h
  split at h
  · rename_i fs hu
    have h1 := run_underlying hu w
    split at h
    · rename_i d hd
      split at h
      · rename_i i hi
        split at h
        · simp at h
        · rename_i hz
          injection h with h
          subst h
          simp [Instr.fieldAt, Sem.run_bind, h1, hd, Instr.sureAddr, fieldPlace, sizeOf, typeInfo, hi, hz, Addr.add]
          try (intro h0; exact h0.symm ▸ rfl)
      · simp at h
    · simp at h
  · simp at h
theorem wl_field {s f : Nat} {x : Operand} {g o off : Nat} (h0 : fieldOff P s f = some off) (hx : a.eval x = .pointer (some ⟨g, o, none⟩)) (h : ∀ a', Put a' a d (.pointer (some ⟨g, o + off, none⟩)) → wpList P ops Q rest a' w) : wpList P ops Q (⟨some d, .fieldAddr s x f, ty, pos, edges, none⟩ :: rest) a w :=
  wl_val _ (by unfold execOp; simp only [hx, Sem.run_bind, run_fieldAt h0]; rfl) h
theorem wl_add1 {t t' : TypeId} {x : Operand} {z : Int} (hz : 0 ≤ z ∧ z ≤ 9223372036854775806) (hx : a.eval x = .int .i64 z) (h : ∀ a', Put a' a d (.int .i64 (z + 1)) → wpList P ops Q rest a' w) : wpList P ops Q (⟨some d, .binOp .add t x (.const (.int .i64 1)) t', ty, pos, edges, none⟩ :: rest) a w :=
  wl_val _ (by
    have hw := IntWalk.i64_in (z + 1) (by omega)
    unfold execOp
    simp only [hx]
    simp [go_sem, Act.eval, eqGuard, binOp, hw]) h
theorem wl_rem3 {t t' : TypeId} {x : Operand} {z : Int} (hz : 0 ≤ z ∧ z ≤ 9223372036854775806) (hx : a.eval x = .int .i64 z) (h : ∀ a', Put a' a d (.int .i64 (z % 3)) → wpList P ops Q rest a' w) : wpList P ops Q (⟨some d, .binOp .rem t x (.const (.int .i64 3)) t', ty, pos, edges, none⟩ :: rest) a w :=
  wl_val _ (by
    have hm : z.tmod 3 = z % 3 := Int.tmod_eq_emod_of_nonneg hz.1
    have hw := IntWalk.i64_in (z % 3) (by omega)
    unfold execOp
    simp only [hx]
    simp [go_sem, Act.eval, eqGuard, binOp, Op.intDiv, hm, hw]) h
theorem wl_eql0 {t t' : TypeId} {x : Operand} {z : Int} (hx : a.eval x = .int .i64 z) (h : ∀ a', Put a' a d (.bool (decide (z = 0))) → wpList P ops Q rest a' w) : wpList P ops Q (⟨some d, .binOp .eql t x (.const (.int .i64 0)) t', ty, pos, edges, none⟩ :: rest) a w :=
  wl_val _ (by
    unfold execOp
    simp only [hx]
    simp [go_sem, Act.eval, eqGuard, binOp, Op.intCmp]
    try (by_cases hq : z = 0 <;> simp [hq])) h
theorem wl_lss {t t' : TypeId} {x y : Operand} {k n : Nat} (hx : a.eval x = .int .i64 (k : Int)) (hy : a.eval y = .int .i64 (n : Int)) (h : ∀ a', Put a' a d (.bool (decide (k < n))) → wpList P ops Q rest a' w) : wpList P ops Q (⟨some d, .binOp .lss t x y t', ty, pos, edges, none⟩ :: rest) a w :=
  wl_val _ (by
    unfold execOp
    simp only [hx, hy]
    simp [go_sem, eqGuard, binOp, Op.intCmp]) h
theorem wl_len {x : Operand} {t e : TypeId} {A : Option Addr} {n c : Nat} (hu : P.underlying t = some (.slice e)) (hx : a.eval x = .slice A n c) (h : ∀ a', Put a' a d (.int .i64 (n : Int)) → wpList P ops Q rest a' w) : wpList P ops Q (⟨some d, .call { callee := .builtin .len, args := #[x], argTypes := #[t] }, ty, pos, edges, none⟩ :: rest) a w :=
  wl_val _ (by
    obtain ⟨ρ, hρ⟩ : ∃ ρ, a.eval = ρ := ⟨_, rfl⟩
    rw [hρ] at hx ⊢
    unfold execOp
    have h1 := run_underlying hu w
    simp [go_sem, resolve, invoke, builtin, hx, Builtin.len_, Sem.run_bind, h1, goInt]) h
theorem run_callFunc {f : FuncId} {fn : Func} {c : Code} (hf : P.funcs[f]? = some fn) (hn : (fn.name == "runtime.NumGoroutine") = false) (hb : fn.body = some c) (args : Array Value) (w : World) : (callFunc f args).run P w = .ok (.enter f args) w := by
  have hn' : ¬ fn.name = "runtime.NumGoroutine" := by simpa using hn
  simp [callFunc, hf, hn', hb]
theorem wl_load1 {t : TypeId} {x : Operand} {g o : Nat} {S : Value} {de : TypeDesc} (hx : a.eval x = .pointer (some ⟨g, o, none⟩)) (hc : w.cell? ⟨g, o, none⟩ = some S)
    (hu : P.underlying t = some de) (hi : (P.info? t).map (·.size) = some 1) (hd : de.isRow = false) (h : ∀ a', Put a' a d S → wpList P ops Q rest a' w) : wpList P ops Q (⟨some d, .load t x, ty, pos, edges, none⟩ :: rest) a w :=
  wpList_load_any rfl t x rfl g o hx [S] de (fun j v hv => by
    cases j with
    | zero => simp at hv; subst hv; exact hc
    | succ j => simp at hv) hu hi (.inr rfl) (by unfold valOf; rw [if_neg (by rw [hd]; decide)]; exact h _ (put_put a d S))
theorem wl_call {f : FuncId} (hrun : ∀ args w, (callFunc f args).run P w = .ok (.enter f args) w) {x y : Operand} {ts : Array TypeId} {u1 u2 : Value} (hx : a.eval x = u1) (hy : a.eval y = u2)
    (h : Calls P f #[u1, u2] w fun e w' => ∃ r, e = .returned r ∧ ∀ a', Put a' a d r → wpList P ops Q rest a' w') : wpList P ops Q (⟨some d, .call { callee := .value (.func f), args := #[x, y], argTypes := ts }, ty, pos, edges, none⟩ :: rest) a w :=
  wpList_plain rfl fun _ hK => by
    unfold Oper.wp
    have hr : (execOp a.eval ⟨some d, .call { callee := .value (.func f), args := #[x, y], argTypes := ts }, ty, pos, edges, none⟩).run P w = .ok (.enter f #[u1, u2]) w := by
      have hf : a.eval (.func f) = .func (.func f) #[] #[] := rfl
      obtain ⟨ρ, hρ⟩ : ∃ ρ, a.eval = ρ := ⟨_, rfl⟩
      rw [hρ] at hx hy hf ⊢
      unfold execOp
      simp [go_sem, resolve, invoke, hx, hy, hf, hrun]
    rw [hr, Oper.upon_enter]
    refine h.mono ?_
    rintro e w' ⟨r, rfl, h'⟩
    exact hK _ _ (h' _ (put_put a d r))
end
theorem st1i {w0 w : World} {base g n c k j NN id : Nat} {xs0 L : List Value} {F : List Row} {z : Int} {a : Act} {Q : Exit → Act → World → Prop} {d1 d2 d3 d4 d5 : Nat} {t1 t2 t3 t4 t5 t6 : TypeId} {p'1 p'2 p'3 p'4 p'5 p'6 : String} {e1 e2 e3 e4 e5 e6 : Array Edge} {f1 o1 : Nat} {s1 ty : TypeId}
    (A : AS a NN (.slice (some ⟨g, 0, none⟩) n c) (.int .i64 (k : Int)) (.int .i64 z)) (H : Hid (Mk w0 w base g n c (k * 64) xs0 L F j)) (hk : k < n)
    (hd : 5 < d1 ∧ d1 < d2 ∧ d2 < d3 ∧ d3 < d4 ∧ d4 < d5 ∧ d5 < NN)
    (h1 : fieldOff Tryz.prog s1 f1 = some o1) (hj : o1 = j) (hj64 : j < 64)
    (hty : (Tryz.prog.info? ty).map (·.size) = some 1) (hL : L[j]? = some (.int .i64 z))
    (next : ∀ a' w', AS a' NN (.slice (some ⟨g, 0, none⟩) n c) (.int .i64 (k : Int)) (.int .i64 z) → Hid (Mk w0 w' base g n c (k * 64) xs0 L F (j + 1)) → Q .normal a' w') :
    (Code.region id [⟨some d1, .move (.tmp 0), t1, p'1, e1, none⟩, ⟨some d2, .move (.tmp 5), t2, p'2, e2, none⟩, ⟨some d3, .move (.tmp 1), t3, p'3, e3, none⟩, ⟨some d4, .indexAddr 30 (.tmp d1) (.tmp d2), t4, p'4, e4, none⟩, ⟨some d5, .fieldAddr s1 (.tmp d4) f1, t5, p'5, e5, none⟩, ⟨none, .store ty (.tmp d5) (.tmp d3), t6, p'6, e6, none⟩].toArray false).wp Tryz.prog Q a w := by
  refine wp_region_lit ?_
  refine wl_move A.t0 ?_; intro a1 p1
  refine wl_move ((p1.old _ (by omega)).trans A.t5) ?_; intro a2 p2
  refine wl_move ((p2.old _ (by omega)).trans ((p1.old _ (by omega)).trans A.t1)) ?_; intro a3 p3
  refine wl_index Tryz.underlying30 (sz := 64) (by kernel_rfl) hk ((p3.old _ (by omega)).trans ((p2.old _ (by omega)).trans (p1.new (by rw [A.sz]; omega)))) ((p3.old _ (by omega)).trans (p2.new (by rw [(p1.sz.trans A.sz)]; omega))) ?_; intro a4 p4
  refine wl_field h1 (p4.new (by rw [(p3.sz.trans (p2.sz.trans (p1.sz.trans A.sz)))]; omega)) ?_; intro a5 p5
  refine Mk.store H rfl ty _ _ rfl (.int .i64 z) ((p5.new (by rw [(p4.sz.trans (p3.sz.trans (p2.sz.trans (p1.sz.trans A.sz))))]; omega)).trans (by subst hj; first | rfl | (simp only [Nat.add_assoc]; done))) ((p5.old _ (by omega)).trans ((p4.old _ (by omega)).trans (p3.new (by rw [(p2.sz.trans (p1.sz.trans A.sz))]; omega)))) hty rfl rfl (by omega) hj64 hL ?_
  intro w' H'
  exact next _ _ (((((A.put p1 (by omega)).put p2 (by omega)).put p3 (by omega)).put p4 (by omega)).put p5 (by omega)) H'
theorem st2i {w0 w : World} {base g n c k j NN id : Nat} {xs0 L : List Value} {F : List Row} {z : Int} {a : Act} {Q : Exit → Act → World → Prop} {d1 d2 d3 d4 d5 d6 : Nat} {t1 t2 t3 t4 t5 t6 t7 : TypeId} {p'1 p'2 p'3 p'4 p'5 p'6 p'7 : String} {e1 e2 e3 e4 e5 e6 e7 : Array Edge} {f1 o1 f2 o2 : Nat} {s1 s2 ty : TypeId}
    (A : AS a NN (.slice (some ⟨g, 0, none⟩) n c) (.int .i64 (k : Int)) (.int .i64 z)) (H : Hid (Mk w0 w base g n c (k * 64) xs0 L F j)) (hk : k < n)
    (hd : 5 < d1 ∧ d1 < d2 ∧ d2 < d3 ∧ d3 < d4 ∧ d4 < d5 ∧ d5 < d6 ∧ d6 < NN)
    (h1 : fieldOff Tryz.prog s1 f1 = some o1) (h2 : fieldOff Tryz.prog s2 f2 = some o2) (hj : o1 + o2 = j) (hj64 : j < 64)
    (hty : (Tryz.prog.info? ty).map (·.size) = some 1) (hL : L[j]? = some (.int .i64 z))
    (next : ∀ a' w', AS a' NN (.slice (some ⟨g, 0, none⟩) n c) (.int .i64 (k : Int)) (.int .i64 z) → Hid (Mk w0 w' base g n c (k * 64) xs0 L F (j + 1)) → Q .normal a' w') :
    (Code.region id [⟨some d1, .move (.tmp 0), t1, p'1, e1, none⟩, ⟨some d2, .move (.tmp 5), t2, p'2, e2, none⟩, ⟨some d3, .move (.tmp 1), t3, p'3, e3, none⟩, ⟨some d4, .indexAddr 30 (.tmp d1) (.tmp d2), t4, p'4, e4, none⟩, ⟨some d5, .fieldAddr s1 (.tmp d4) f1, t5, p'5, e5, none⟩, ⟨some d6, .fieldAddr s2 (.tmp d5) f2, t6, p'6, e6, none⟩, ⟨none, .store ty (.tmp d6) (.tmp d3), t7, p'7, e7, none⟩].toArray false).wp Tryz.prog Q a w := by
  refine wp_region_lit ?_
  refine wl_move A.t0 ?_; intro a1 p1
  refine wl_move ((p1.old _ (by omega)).trans A.t5) ?_; intro a2 p2
  refine wl_move ((p2.old _ (by omega)).trans ((p1.old _ (by omega)).trans A.t1)) ?_; intro a3 p3
  refine wl_index Tryz.underlying30 (sz := 64) (by kernel_rfl) hk ((p3.old _ (by omega)).trans ((p2.old _ (by omega)).trans (p1.new (by rw [A.sz]; omega)))) ((p3.old _ (by omega)).trans (p2.new (by rw [(p1.sz.trans A.sz)]; omega))) ?_; intro a4 p4
  refine wl_field h1 (p4.new (by rw [(p3.sz.trans (p2.sz.trans (p1.sz.trans A.sz)))]; omega)) ?_; intro a5 p5
  refine wl_field h2 (p5.new (by rw [(p4.sz.trans (p3.sz.trans (p2.sz.trans (p1.sz.trans A.sz))))]; omega)) ?_; intro a6 p6
  refine Mk.store H rfl ty _ _ rfl (.int .i64 z) ((p6.new (by rw [(p5.sz.trans (p4.sz.trans (p3.sz.trans (p2.sz.trans (p1.sz.trans A.sz)))))]; omega)).trans (by subst hj; first | rfl | (simp only [Nat.add_assoc]; done))) ((p6.old _ (by omega)).trans ((p5.old _ (by omega)).trans ((p4.old _ (by omega)).trans (p3.new (by rw [(p2.sz.trans (p1.sz.trans A.sz))]; omega))))) hty rfl rfl (by omega) hj64 hL ?_
  intro w' H'
  exact next _ _ ((((((A.put p1 (by omega)).put p2 (by omega)).put p3 (by omega)).put p4 (by omega)).put p5 (by omega)).put p6 (by omega)) H'
theorem st3i {w0 w : World} {base g n c k j NN id : Nat} {xs0 L : List Value} {F : List Row} {z : Int} {a : Act} {Q : Exit → Act → World → Prop} {d1 d2 d3 d4 d5 d6 d7 : Nat} {t1 t2 t3 t4 t5 t6 t7 t8 : TypeId} {p'1 p'2 p'3 p'4 p'5 p'6 p'7 p'8 : String} {e1 e2 e3 e4 e5 e6 e7 e8 : Array Edge} {f1 o1 f2 o2 f3 o3 : Nat} {s1 s2 s3 ty : TypeId}
    (A : AS a NN (.slice (some ⟨g, 0, none⟩) n c) (.int .i64 (k : Int)) (.int .i64 z)) (H : Hid (Mk w0 w base g n c (k * 64) xs0 L F j)) (hk : k < n)
    (hd : 5 < d1 ∧ d1 < d2 ∧ d2 < d3 ∧ d3 < d4 ∧ d4 < d5 ∧ d5 < d6 ∧ d6 < d7 ∧ d7 < NN)
    (h1 : fieldOff Tryz.prog s1 f1 = some o1) (h2 : fieldOff Tryz.prog s2 f2 = some o2) (h3 : fieldOff Tryz.prog s3 f3 = some o3) (hj : o1 + o2 + o3 = j) (hj64 : j < 64)
    (hty : (Tryz.prog.info? ty).map (·.size) = some 1) (hL : L[j]? = some (.int .i64 z))
    (next : ∀ a' w', AS a' NN (.slice (some ⟨g, 0, none⟩) n c) (.int .i64 (k : Int)) (.int .i64 z) → Hid (Mk w0 w' base g n c (k * 64) xs0 L F (j + 1)) → Q .normal a' w') :
    (Code.region id [⟨some d1, .move (.tmp 0), t1, p'1, e1, none⟩, ⟨some d2, .move (.tmp 5), t2, p'2, e2, none⟩, ⟨some d3, .move (.tmp 1), t3, p'3, e3, none⟩, ⟨some d4, .indexAddr 30 (.tmp d1) (.tmp d2), t4, p'4, e4, none⟩, ⟨some d5, .fieldAddr s1 (.tmp d4) f1, t5, p'5, e5, none⟩, ⟨some d6, .fieldAddr s2 (.tmp d5) f2, t6, p'6, e6, none⟩, ⟨some d7, .fieldAddr s3 (.tmp d6) f3, t7, p'7, e7, none⟩, ⟨none, .store ty (.tmp d7) (.tmp d3), t8, p'8, e8, none⟩].toArray false).wp Tryz.prog Q a w := by
  refine wp_region_lit ?_
  refine wl_move A.t0 ?_; intro a1 p1
  refine wl_move ((p1.old _ (by omega)).trans A.t5) ?_; intro a2 p2
  refine wl_move ((p2.old _ (by omega)).trans ((p1.old _ (by omega)).trans A.t1)) ?_; intro a3 p3
  refine wl_index Tryz.underlying30 (sz := 64) (by kernel_rfl) hk ((p3.old _ (by omega)).trans ((p2.old _ (by omega)).trans (p1.new (by rw [A.sz]; omega)))) ((p3.old _ (by omega)).trans (p2.new (by rw [(p1.sz.trans A.sz)]; omega))) ?_; intro a4 p4
  refine wl_field h1 (p4.new (by rw [(p3.sz.trans (p2.sz.trans (p1.sz.trans A.sz)))]; omega)) ?_; intro a5 p5
  refine wl_field h2 (p5.new (by rw [(p4.sz.trans (p3.sz.trans (p2.sz.trans (p1.sz.trans A.sz))))]; omega)) ?_; intro a6 p6
  refine wl_field h3 (p6.new (by rw [(p5.sz.trans (p4.sz.trans (p3.sz.trans (p2.sz.trans (p1.sz.trans A.sz)))))]; omega)) ?_; intro a7 p7
  refine Mk.store H rfl ty _ _ rfl (.int .i64 z) ((p7.new (by rw [(p6.sz.trans (p5.sz.trans (p4.sz.trans (p3.sz.trans (p2.sz.trans (p1.sz.trans A.sz))))))]; omega)).trans (by subst hj; first | rfl | (simp only [Nat.add_assoc]; done))) ((p7.old _ (by omega)).trans ((p6.old _ (by omega)).trans ((p5.old _ (by omega)).trans ((p4.old _ (by omega)).trans (p3.new (by rw [(p2.sz.trans (p1.sz.trans A.sz))]; omega)))))) hty rfl rfl (by omega) hj64 hL ?_
  intro w' H'
  exact next _ _ (((((((A.put p1 (by omega)).put p2 (by omega)).put p3 (by omega)).put p4 (by omega)).put p5 (by omega)).put p6 (by omega)).put p7 (by omega)) H'
theorem st4i {w0 w : World} {base g n c k j NN id : Nat} {xs0 L : List Value} {F : List Row} {z : Int} {a : Act} {Q : Exit → Act → World → Prop} {d1 d2 d3 d4 d5 d6 d7 d8 : Nat} {t1 t2 t3 t4 t5 t6 t7 t8 t9 : TypeId} {p'1 p'2 p'3 p'4 p'5 p'6 p'7 p'8 p'9 : String} {e1 e2 e3 e4 e5 e6 e7 e8 e9 : Array Edge} {f1 o1 f2 o2 f3 o3 f4 o4 : Nat} {s1 s2 s3 s4 ty : TypeId}
    (A : AS a NN (.slice (some ⟨g, 0, none⟩) n c) (.int .i64 (k : Int)) (.int .i64 z)) (H : Hid (Mk w0 w base g n c (k * 64) xs0 L F j)) (hk : k < n)
    (hd : 5 < d1 ∧ d1 < d2 ∧ d2 < d3 ∧ d3 < d4 ∧ d4 < d5 ∧ d5 < d6 ∧ d6 < d7 ∧ d7 < d8 ∧ d8 < NN)
    (h1 : fieldOff Tryz.prog s1 f1 = some o1) (h2 : fieldOff Tryz.prog s2 f2 = some o2) (h3 : fieldOff Tryz.prog s3 f3 = some o3) (h4 : fieldOff Tryz.prog s4 f4 = some o4) (hj : o1 + o2 + o3 + o4 = j) (hj64 : j < 64)
    (hty : (Tryz.prog.info? ty).map (·.size) = some 1) (hL : L[j]? = some (.int .i64 z))
    (next : ∀ a' w', AS a' NN (.slice (some ⟨g, 0, none⟩) n c) (.int .i64 (k : Int)) (.int .i64 z) → Hid (Mk w0 w' base g n c (k * 64) xs0 L F (j + 1)) → Q .normal a' w') :
    (Code.region id [⟨some d1, .move (.tmp 0), t1, p'1, e1, none⟩, ⟨some d2, .move (.tmp 5), t2, p'2, e2, none⟩, ⟨some d3, .move (.tmp 1), t3, p'3, e3, none⟩, ⟨some d4, .indexAddr 30 (.tmp d1) (.tmp d2), t4, p'4, e4, none⟩, ⟨some d5, .fieldAddr s1 (.tmp d4) f1, t5, p'5, e5, none⟩, ⟨some d6, .fieldAddr s2 (.tmp d5) f2, t6, p'6, e6, none⟩, ⟨some d7, .fieldAddr s3 (.tmp d6) f3, t7, p'7, e7, none⟩, ⟨some d8, .fieldAddr s4 (.tmp d7) f4, t8, p'8, e8, none⟩, ⟨none, .store ty (.tmp d8) (.tmp d3), t9, p'9, e9, none⟩].toArray false).wp Tryz.prog Q a w := by
  refine wp_region_lit ?_
  refine wl_move A.t0 ?_; intro a1 p1
  refine wl_move ((p1.old _ (by omega)).trans A.t5) ?_; intro a2 p2
  refine wl_move ((p2.old _ (by omega)).trans ((p1.old _ (by omega)).trans A.t1)) ?_; intro a3 p3
  refine wl_index Tryz.underlying30 (sz := 64) (by kernel_rfl) hk ((p3.old _ (by omega)).trans ((p2.old _ (by omega)).trans (p1.new (by rw [A.sz]; omega)))) ((p3.old _ (by omega)).trans (p2.new (by rw [(p1.sz.trans A.sz)]; omega))) ?_; intro a4 p4
  refine wl_field h1 (p4.new (by rw [(p3.sz.trans (p2.sz.trans (p1.sz.trans A.sz)))]; omega)) ?_; intro a5 p5
  refine wl_field h2 (p5.new (by rw [(p4.sz.trans (p3.sz.trans (p2.sz.trans (p1.sz.trans A.sz))))]; omega)) ?_; intro a6 p6
  refine wl_field h3 (p6.new (by rw [(p5.sz.trans (p4.sz.trans (p3.sz.trans (p2.sz.trans (p1.sz.trans A.sz)))))]; omega)) ?_; intro a7 p7
  refine wl_field h4 (p7.new (by rw [(p6.sz.trans (p5.sz.trans (p4.sz.trans (p3.sz.trans (p2.sz.trans (p1.sz.trans A.sz))))))]; omega)) ?_; intro a8 p8
  refine Mk.store H rfl ty _ _ rfl (.int .i64 z) ((p8.new (by rw [(p7.sz.trans (p6.sz.trans (p5.sz.trans (p4.sz.trans (p3.sz.trans (p2.sz.trans (p1.sz.trans A.sz)))))))]; omega)).trans (by subst hj; first | rfl | (simp only [Nat.add_assoc]; done))) ((p8.old _ (by omega)).trans ((p7.old _ (by omega)).trans ((p6.old _ (by omega)).trans ((p5.old _ (by omega)).trans ((p4.old _ (by omega)).trans (p3.new (by rw [(p2.sz.trans (p1.sz.trans A.sz))]; omega))))))) hty rfl rfl (by omega) hj64 hL ?_
  intro w' H'
  exact next _ _ ((((((((A.put p1 (by omega)).put p2 (by omega)).put p3 (by omega)).put p4 (by omega)).put p5 (by omega)).put p6 (by omega)).put p7 (by omega)).put p8 (by omega)) H'
theorem st1b {w0 w : World} {base g n c k j NN id : Nat} {xs0 L : List Value} {F : List Row} {z : Int} {a : Act} {Q : Exit → Act → World → Prop} {d1 d2 d3 d4 d5 d6 d7 : Nat} {t1 t2 t3 t4 t5 t6 t7 t8 : TypeId} {p'1 p'2 p'3 p'4 p'5 p'6 p'7 p'8 : String} {e1 e2 e3 e4 e5 e6 e7 e8 : Array Edge} {f1 o1 : Nat} {s1 ty : TypeId} {b1 b2 b3 b4 : TypeId}
    (A : AS a NN (.slice (some ⟨g, 0, none⟩) n c) (.int .i64 (k : Int)) (.int .i64 z)) (H : Hid (Mk w0 w base g n c (k * 64) xs0 L F j)) (hk : k < n) (hz : 0 ≤ z ∧ z ≤ 9223372036854775806)
    (hd : 5 < d1 ∧ d1 < d2 ∧ d2 < d3 ∧ d3 < d4 ∧ d4 < d5 ∧ d5 < d6 ∧ d6 < d7 ∧ d7 < NN)
    (h1 : fieldOff Tryz.prog s1 f1 = some o1) (hj : o1 = j) (hj64 : j < 64)
    (hty : (Tryz.prog.info? ty).map (·.size) = some 1) (hL : L[j]? = some (.bool (decide (z % 3 = 0))))
    (next : ∀ a' w', AS a' NN (.slice (some ⟨g, 0, none⟩) n c) (.int .i64 (k : Int)) (.int .i64 z) → Hid (Mk w0 w' base g n c (k * 64) xs0 L F (j + 1)) → Q .normal a' w') :
    (Code.region id [⟨some d1, .move (.tmp 0), t1, p'1, e1, none⟩, ⟨some d2, .move (.tmp 5), t2, p'2, e2, none⟩, ⟨some d3, .move (.tmp 1), t3, p'3, e3, none⟩, ⟨some d4, .binOp .rem b1 (.tmp d3) (.const (.int .i64 3)) b2, t4, p'4, e4, none⟩, ⟨some d5, .binOp .eql b3 (.tmp d4) (.const (.int .i64 0)) b4, t5, p'5, e5, none⟩, ⟨some d6, .indexAddr 30 (.tmp d1) (.tmp d2), t6, p'6, e6, none⟩, ⟨some d7, .fieldAddr s1 (.tmp d6) f1, t7, p'7, e7, none⟩, ⟨none, .store ty (.tmp d7) (.tmp d5), t8, p'8, e8, none⟩].toArray false).wp Tryz.prog Q a w := by
  refine wp_region_lit ?_
  refine wl_move A.t0 ?_; intro a1 p1
  refine wl_move ((p1.old _ (by omega)).trans A.t5) ?_; intro a2 p2
  refine wl_move ((p2.old _ (by omega)).trans ((p1.old _ (by omega)).trans A.t1)) ?_; intro a3 p3
  refine wl_rem3 hz (p3.new (by rw [(p2.sz.trans (p1.sz.trans A.sz))]; omega)) ?_; intro a4 p4
  refine wl_eql0 (p4.new (by rw [(p3.sz.trans (p2.sz.trans (p1.sz.trans A.sz)))]; omega)) ?_; intro a5 p5
  refine wl_index Tryz.underlying30 (sz := 64) (by kernel_rfl) hk ((p5.old _ (by omega)).trans ((p4.old _ (by omega)).trans ((p3.old _ (by omega)).trans ((p2.old _ (by omega)).trans (p1.new (by rw [A.sz]; omega)))))) ((p5.old _ (by omega)).trans ((p4.old _ (by omega)).trans ((p3.old _ (by omega)).trans (p2.new (by rw [(p1.sz.trans A.sz)]; omega))))) ?_; intro a6 p6
  refine wl_field h1 (p6.new (by rw [(p5.sz.trans (p4.sz.trans (p3.sz.trans (p2.sz.trans (p1.sz.trans A.sz)))))]; omega)) ?_; intro a7 p7
  refine Mk.store H rfl ty _ _ rfl (.bool (decide (z % 3 = 0))) ((p7.new (by rw [(p6.sz.trans (p5.sz.trans (p4.sz.trans (p3.sz.trans (p2.sz.trans (p1.sz.trans A.sz))))))]; omega)).trans (by subst hj; first | rfl | (simp only [Nat.add_assoc]; done))) ((p7.old _ (by omega)).trans ((p6.old _ (by omega)).trans (p5.new (by rw [(p4.sz.trans (p3.sz.trans (p2.sz.trans (p1.sz.trans A.sz))))]; omega)))) hty rfl rfl (by omega) hj64 hL ?_
  intro w' H'
  exact next _ _ (((((((A.put p1 (by omega)).put p2 (by omega)).put p3 (by omega)).put p4 (by omega)).put p5 (by omega)).put p6 (by omega)).put p7 (by omega)) H'
theorem st2b {w0 w : World} {base g n c k j NN id : Nat} {xs0 L : List Value} {F : List Row} {z : Int} {a : Act} {Q : Exit → Act → World → Prop} {d1 d2 d3 d4 d5 d6 d7 d8 : Nat} {t1 t2 t3 t4 t5 t6 t7 t8 t9 : TypeId} {p'1 p'2 p'3 p'4 p'5 p'6 p'7 p'8 p'9 : String} {e1 e2 e3 e4 e5 e6 e7 e8 e9 : Array Edge} {f1 o1 f2 o2 : Nat} {s1 s2 ty : TypeId} {b1 b2 b3 b4 : TypeId}
    (A : AS a NN (.slice (some ⟨g, 0, none⟩) n c) (.int .i64 (k : Int)) (.int .i64 z)) (H : Hid (Mk w0 w base g n c (k * 64) xs0 L F j)) (hk : k < n) (hz : 0 ≤ z ∧ z ≤ 9223372036854775806)
    (hd : 5 < d1 ∧ d1 < d2 ∧ d2 < d3 ∧ d3 < d4 ∧ d4 < d5 ∧ d5 < d6 ∧ d6 < d7 ∧ d7 < d8 ∧ d8 < NN)
    (h1 : fieldOff Tryz.prog s1 f1 = some o1) (h2 : fieldOff Tryz.prog s2 f2 = some o2) (hj : o1 + o2 = j) (hj64 : j < 64)
    (hty : (Tryz.prog.info? ty).map (·.size) = some 1) (hL : L[j]? = some (.bool (decide (z % 3 = 0))))
    (next : ∀ a' w', AS a' NN (.slice (some ⟨g, 0, none⟩) n c) (.int .i64 (k : Int)) (.int .i64 z) → Hid (Mk w0 w' base g n c (k * 64) xs0 L F (j + 1)) → Q .normal a' w') :
    (Code.region id [⟨some d1, .move (.tmp 0), t1, p'1, e1, none⟩, ⟨some d2, .move (.tmp 5), t2, p'2, e2, none⟩, ⟨some d3, .move (.tmp 1), t3, p'3, e3, none⟩, ⟨some d4, .binOp .rem b1 (.tmp d3) (.const (.int .i64 3)) b2, t4, p'4, e4, none⟩, ⟨some d5, .binOp .eql b3 (.tmp d4) (.const (.int .i64 0)) b4, t5, p'5, e5, none⟩, ⟨some d6, .indexAddr 30 (.tmp d1) (.tmp d2), t6, p'6, e6, none⟩, ⟨some d7, .fieldAddr s1 (.tmp d6) f1, t7, p'7, e7, none⟩, ⟨some d8, .fieldAddr s2 (.tmp d7) f2, t8, p'8, e8, none⟩, ⟨none, .store ty (.tmp d8) (.tmp d5), t9, p'9, e9, none⟩].toArray false).wp Tryz.prog Q a w := by
  refine wp_region_lit ?_
  refine wl_move A.t0 ?_; intro a1 p1
  refine wl_move ((p1.old _ (by omega)).trans A.t5) ?_; intro a2 p2
  refine wl_move ((p2.old _ (by omega)).trans ((p1.old _ (by omega)).trans A.t1)) ?_; intro a3 p3
  refine wl_rem3 hz (p3.new (by rw [(p2.sz.trans (p1.sz.trans A.sz))]; omega)) ?_; intro a4 p4
  refine wl_eql0 (p4.new (by rw [(p3.sz.trans (p2.sz.trans (p1.sz.trans A.sz)))]; omega)) ?_; intro a5 p5
  refine wl_index Tryz.underlying30 (sz := 64) (by kernel_rfl) hk ((p5.old _ (by omega)).trans ((p4.old _ (by omega)).trans ((p3.old _ (by omega)).trans ((p2.old _ (by omega)).trans (p1.new (by rw [A.sz]; omega)))))) ((p5.old _ (by omega)).trans ((p4.old _ (by omega)).trans ((p3.old _ (by omega)).trans (p2.new (by rw [(p1.sz.trans A.sz)]; omega))))) ?_; intro a6 p6
  refine wl_field h1 (p6.new (by rw [(p5.sz.trans (p4.sz.trans (p3.sz.trans (p2.sz.trans (p1.sz.trans A.sz)))))]; omega)) ?_; intro a7 p7
  refine wl_field h2 (p7.new (by rw [(p6.sz.trans (p5.sz.trans (p4.sz.trans (p3.sz.trans (p2.sz.trans (p1.sz.trans A.sz))))))]; omega)) ?_; intro a8 p8
  refine Mk.store H rfl ty _ _ rfl (.bool (decide (z % 3 = 0))) ((p8.new (by rw [(p7.sz.trans (p6.sz.trans (p5.sz.trans (p4.sz.trans (p3.sz.trans (p2.sz.trans (p1.sz.trans A.sz)))))))]; omega)).trans (by subst hj; first | rfl | (simp only [Nat.add_assoc]; done))) ((p8.old _ (by omega)).trans ((p7.old _ (by omega)).trans ((p6.old _ (by omega)).trans (p5.new (by rw [(p4.sz.trans (p3.sz.trans (p2.sz.trans (p1.sz.trans A.sz))))]; omega))))) hty rfl rfl (by omega) hj64 hL ?_
  intro w' H'
  exact next _ _ ((((((((A.put p1 (by omega)).put p2 (by omega)).put p3 (by omega)).put p4 (by omega)).put p5 (by omega)).put p6 (by omega)).put p7 (by omega)).put p8 (by omega)) H'
theorem st_inc {w : World} {NN id : Nat} {v i : Value} {z z' : Int} {a : Act} {Q : Exit → Act → World → Prop} {d1 d2 : Nat} {t1 t2 t3 b1 b2 : TypeId} {p'1 p'2 p'3 : String} {e1 e2 e3 : Array Edge}
    (A : AS a NN v i (.int .i64 z)) (hz : 0 ≤ z ∧ z ≤ 9223372036854775806) (hd : 5 < d1 ∧ d1 < d2 ∧ d2 < NN) (hzz : z + 1 = z') (next : ∀ a', AS a' NN v i (.int .i64 z') → Q .normal a' w) :
    (Code.region id [⟨some d1, .move (.tmp 1), t1, p'1, e1, none⟩, ⟨some d2, .binOp .add b1 (.tmp d1) (.const (.int .i64 1)) b2, t2, p'2, e2, none⟩, ⟨some 1, .assign (.tmp d2), t3, p'3, e3, none⟩].toArray false).wp Tryz.prog Q a w := by
  subst hzz
  refine wp_region_lit ?_
  refine wl_move A.t1 ?_; intro a1 p1
  refine wl_add1 hz (p1.new (by rw [A.sz]; omega)) ?_; intro a2 p2
  refine wl_assign (p2.new (by rw [p1.sz, A.sz]; omega)) ?_; intro a3 p3
  exact next _ (((A.put p1 (by omega)).put p2 (by omega)).put1 p3 (by omega))
theorem st_inci {w : World} {NN id : Nat} {v z : Value} {k : Nat} {a : Act} {Q : Exit → Act → World → Prop} {d1 d2 : Nat} {t1 t2 t3 b1 b2 : TypeId} {p'1 p'2 p'3 : String} {e1 e2 e3 : Array Edge}
    (A : AS a NN v (.int .i64 (k : Int)) z) (hk : k ≤ 1048576) (hd : 5 < d1 ∧ d1 < d2 ∧ d2 < NN) (next : ∀ a', AS a' NN v (.int .i64 ((k + 1 : Nat) : Int)) z → Q .normal a' w) :
    (Code.region id [⟨some d1, .move (.tmp 5), t1, p'1, e1, none⟩, ⟨some d2, .binOp .add b1 (.tmp d1) (.const (.int .i64 1)) b2, t2, p'2, e2, none⟩, ⟨some 5, .assign (.tmp d2), t3, p'3, e3, none⟩].toArray false).wp Tryz.prog Q a w := by
  refine wp_region_lit ?_
  refine wl_move A.t5 ?_; intro a1 p1
  refine wl_add1 (by omega) (p1.new (by rw [A.sz]; omega)) ?_; intro a2 p2
  refine wl_assign (p2.new (by rw [p1.sz, A.sz]; omega)) ?_; intro a3 p3
  exact next _ (((A.put p1 (by omega)).put p2 (by omega)).put5 p3 (by omega))
theorem frame_AS (n : Nat) (x y : Value) : AS ⟨#[x, y] ++ Array.replicate (n + 4) undef, []⟩ (n + 6) x undef y := by
  refine ⟨by simp; omega, ?_, ?_, ?_, rfl⟩
  · show (#[x, y] ++ Array.replicate (n + 4) undef).getD 0 undef = x
    rw [Array.getD_eq_getD_getElem?, Array.getElem?_append_left (by simp)]; rfl
  · show (#[x, y] ++ Array.replicate (n + 4) undef).getD 5 undef = undef
    rw [Array.getD_eq_getD_getElem?, Array.getElem?_append_right (by simp)]
    simp [Array.getElem?_replicate]
  · show (#[x, y] ++ Array.replicate (n + 4) undef).getD 1 undef = y
    rw [Array.getD_eq_getD_getElem?, Array.getElem?_append_left (by simp)]; rfl
/-- slot i := 0 -/
theorem st_set5 {w : World} {NN id : Nat} {v i z u : Value} {a : Act} {Q : Exit → Act → World → Prop} {t1 : TypeId} {p'1 : String} {e1 : Array Edge}
    (A : AS a NN v i z) (hN : 5 < NN) (next : ∀ a', AS a' NN v u z → Q .normal a' w) : (Code.region id [⟨some 5, .assign (.const u), t1, p'1, e1, none⟩].toArray false).wp Tryz.prog Q a w := by
  refine wp_region_lit ?_
  refine wl_assign rfl ?_; intro a1 p1
  exact next _ (A.put5 p1 hN)
theorem st_set4 {w : World} {NN id : Nat} {v i z u : Value} {a : Act} {Q : Exit → Act → World → Prop} {t1 : TypeId} {p'1 : String} {e1 : Array Edge}
    (A : AS a NN v i z) (hN : 5 < NN) (next : ∀ a', AS a' NN v i z → a'.eval (.tmp 4) = u → Q .normal a' w) : (Code.region id [⟨some 4, .assign (.const u), t1, p'1, e1, none⟩].toArray false).wp Tryz.prog Q a w := by
  refine wp_region_lit ?_
  refine wl_assign rfl ?_; intro a1 p1
  exact next _ (A.put4 p1 hN) (p1.new (by rw [A.sz]; omega))
/-- 'return k' -/
theorem st_ret4 {w : World} {NN id : Nat} {v i z : Value} {a : Act} {Q : Exit → Act → World → Prop} {d1 : Nat} {t1 t2 : TypeId} {p'1 p'2 : String} {e1 e2 : Array Edge}
    (A : AS a NN v i z) (hd : 5 < d1 ∧ d1 < NN) (next : ∀ a', AS a' NN v i z → a'.eval (.tmp 4) = z → Q .normal a' w) :
    (Code.region id [⟨some d1, .move (.tmp 1), t1, p'1, e1, none⟩, ⟨some 4, .assign (.tmp d1), t2, p'2, e2, none⟩].toArray false).wp Tryz.prog Q a w := by
  refine wp_region_lit ?_
  refine wl_move A.t1 ?_; intro a1 p1
  refine wl_assign (p1.new (by rw [A.sz]; omega)) ?_; intro a2 p2
  exact next _ ((A.put p1 (by omega)).put4 p2 (by omega)) (p2.new (by rw [p1.sz, A.sz]; omega))
/-- the loop's test -/
theorem st_test {w : World} {NN id : Nat} {S : Option Addr} {n c k : Nat} {z : Value} {a : Act} {Q : Exit → Act → World → Prop} {d1 d2 d3 d4 : Nat} {t1 t2 t3 t4 b1 b2 b3 : TypeId} {p'1 p'2 p'3 p'4 : String} {e1 e2 e3 e4 : Array Edge}
    (A : AS a NN (.slice S n c) (.int .i64 (k : Int)) z) (hd : 5 < d1 ∧ d1 < d2 ∧ d2 < d3 ∧ d3 < d4 ∧ d4 < NN) {el : TypeId} (hu : Tryz.prog.underlying b3 = some (.slice el)) (next : ∀ a', AS a' NN (.slice S n c) (.int .i64 (k : Int)) z → a'.eval (.tmp d4) = .bool (decide (k < n)) → Q .normal a' w) :
    (Code.region id [⟨some d1, .move (.tmp 5), t1, p'1, e1, none⟩, ⟨some d2, .move (.tmp 0), t2, p'2, e2, none⟩, ⟨some d3, .call { callee := .builtin .len, args := #[.tmp d2], argTypes := #[b3] }, t3, p'3, e3, none⟩, ⟨some d4, .binOp .lss b1 (.tmp d1) (.tmp d3) b2, t4, p'4, e4, none⟩].toArray false).wp Tryz.prog Q a w := by
  refine wp_region_lit ?_
  refine wl_move A.t5 ?_; intro a1 p1
  refine wl_move ((p1.old _ (by omega)).trans A.t0) ?_; intro a2 p2
  refine wl_len hu (p2.new (by rw [(p1.sz.trans A.sz)]; omega)) ?_; intro a3 p3
  refine wl_lss ((p3.old _ (by omega)).trans ((p2.old _ (by omega)).trans (p1.new (by rw [A.sz]; omega)))) (p3.new (by rw [(p2.sz.trans (p1.sz.trans A.sz))]; omega)) ?_; intro a4 p4
  exact next _ ((((A.put p1 (by omega)).put p2 (by omega)).put p3 (by omega)).put p4 (by omega)) (p4.new (by rw [(p3.sz.trans (p2.sz.trans (p1.sz.trans A.sz)))]; omega))
/-- 'k = f(a[i].x, k)' -/
theorem stc1 {w : World} {g n c k j NN id : Nat} {z : Int} {a : Act} {Q : Exit → Act → World → Prop} {d1 d2 d3 d4 d5 d6 d7 : Nat} {t1 t2 t3 t4 t5 t6 t7 t8 : TypeId} {p'1 p'2 p'3 p'4 p'5 p'6 p'7 p'8 : String} {e1 e2 e3 e4 e5 e6 e7 e8 : Array Edge} {f1 o1 : Nat} {s1 ty : TypeId} {fn : FuncId} {ts : Array TypeId} {S : Value} {de : TypeDesc} {R : Int → World → Prop}
    (A : AS a NN (.slice (some ⟨g, 0, none⟩) n c) (.int .i64 (k : Int)) (.int .i64 z)) (hk : k < n)
    (hd : 5 < d1 ∧ d1 < d2 ∧ d2 < d3 ∧ d3 < d4 ∧ d4 < d5 ∧ d5 < d6 ∧ d6 < d7 ∧ d7 < NN)
    (h1 : fieldOff Tryz.prog s1 f1 = some o1) (hj : o1 = j)
    (hc : w.cell? ⟨g, k * 64 + j, none⟩ = some S) (hu : Tryz.prog.underlying ty = some de) (hi : (Tryz.prog.info? ty).map (·.size) = some 1) (hde : de.isRow = false)
    (hrun : ∀ args w, (callFunc fn args).run Tryz.prog w = .ok (.enter fn args) w) (hcall : Calls Tryz.prog fn #[S, .int .i64 z] w fun e w' => ∃ z', e = .returned (.int .i64 z') ∧ R z' w')
    (next : ∀ a' z' w', R z' w' → AS a' NN (.slice (some ⟨g, 0, none⟩) n c) (.int .i64 (k : Int)) (.int .i64 z') → Q .normal a' w') :
    (Code.region id [⟨some d1, .move (.tmp 0), t1, p'1, e1, none⟩, ⟨some d2, .move (.tmp 5), t2, p'2, e2, none⟩, ⟨some d3, .indexAddr 30 (.tmp d1) (.tmp d2), t3, p'3, e3, none⟩, ⟨some d4, .fieldAddr s1 (.tmp d3) f1, t4, p'4, e4, none⟩, ⟨some d5, .load ty (.tmp d4), t5, p'5, e5, none⟩, ⟨some d6, .move (.tmp 1), t6, p'6, e6, none⟩, ⟨some d7, .call { callee := .value (.func fn), args := #[.tmp d5, .tmp d6], argTypes := ts }, t7, p'7, e7, none⟩, ⟨some 1, .assign (.tmp d7), t8, p'8, e8, none⟩].toArray false).wp Tryz.prog Q a w := by
  refine wp_region_lit ?_
  refine wl_move A.t0 ?_; intro a1 p1
  refine wl_move ((p1.old _ (by omega)).trans A.t5) ?_; intro a2 p2
  refine wl_index Tryz.underlying30 (sz := 64) (by kernel_rfl) hk ((p2.old _ (by omega)).trans (p1.new (by rw [A.sz]; omega))) (p2.new (by rw [(p1.sz.trans A.sz)]; omega)) ?_; intro a3 p3
  refine wl_field h1 (p3.new (by rw [(p2.sz.trans (p1.sz.trans A.sz))]; omega)) ?_; intro a4 p4
  refine wl_load1 ((p4.new (by rw [(p3.sz.trans (p2.sz.trans (p1.sz.trans A.sz)))]; omega)).trans (by first | rfl | (simp only [Nat.add_assoc]; done))) (g := g) (o := k * 64 + (o1)) (by rw [hj]; exact hc) hu hi hde ?_; intro a5 p5
  refine wl_move ((p5.old _ (by omega)).trans ((p4.old _ (by omega)).trans ((p3.old _ (by omega)).trans ((p2.old _ (by omega)).trans ((p1.old _ (by omega)).trans A.t1))))) ?_; intro a6 p6
  refine wl_call hrun ((p6.old _ (by omega)).trans (p5.new (by rw [(p4.sz.trans (p3.sz.trans (p2.sz.trans (p1.sz.trans A.sz))))]; omega))) (p6.new (by rw [(p5.sz.trans (p4.sz.trans (p3.sz.trans (p2.sz.trans (p1.sz.trans A.sz)))))]; omega)) (hcall.mono ?_)
  rintro e w' ⟨z', rfl, hR⟩
  refine ⟨_, rfl, ?_⟩; intro a7 p7
  refine wl_assign (p7.new (by rw [(p6.sz.trans (p5.sz.trans (p4.sz.trans (p3.sz.trans (p2.sz.trans (p1.sz.trans A.sz))))))]; omega)) ?_; intro a8 p8
  exact next _ _ _ hR ((((((((A.put p1 (by omega)).put p2 (by omega)).put p3 (by omega)).put p4 (by omega)).put p5 (by omega)).put p6 (by omega)).put p7 (by omega)).put1 p8 (by omega))
/-- 'k = f(a[i].x, k)' -/
theorem stc2 {w : World} {g n c k j NN id : Nat} {z : Int} {a : Act} {Q : Exit → Act → World → Prop} {d1 d2 d3 d4 d5 d6 d7 d8 : Nat} {t1 t2 t3 t4 t5 t6 t7 t8 t9 : TypeId} {p'1 p'2 p'3 p'4 p'5 p'6 p'7 p'8 p'9 : String} {e1 e2 e3 e4 e5 e6 e7 e8 e9 : Array Edge} {f1 o1 f2 o2 : Nat} {s1 s2 ty : TypeId} {fn : FuncId} {ts : Array TypeId} {S : Value} {de : TypeDesc} {R : Int → World → Prop}
    (A : AS a NN (.slice (some ⟨g, 0, none⟩) n c) (.int .i64 (k : Int)) (.int .i64 z)) (hk : k < n)
    (hd : 5 < d1 ∧ d1 < d2 ∧ d2 < d3 ∧ d3 < d4 ∧ d4 < d5 ∧ d5 < d6 ∧ d6 < d7 ∧ d7 < d8 ∧ d8 < NN)
    (h1 : fieldOff Tryz.prog s1 f1 = some o1) (h2 : fieldOff Tryz.prog s2 f2 = some o2) (hj : o1 + o2 = j)
    (hc : w.cell? ⟨g, k * 64 + j, none⟩ = some S) (hu : Tryz.prog.underlying ty = some de) (hi : (Tryz.prog.info? ty).map (·.size) = some 1) (hde : de.isRow = false)
    (hrun : ∀ args w, (callFunc fn args).run Tryz.prog w = .ok (.enter fn args) w) (hcall : Calls Tryz.prog fn #[S, .int .i64 z] w fun e w' => ∃ z', e = .returned (.int .i64 z') ∧ R z' w')
    (next : ∀ a' z' w', R z' w' → AS a' NN (.slice (some ⟨g, 0, none⟩) n c) (.int .i64 (k : Int)) (.int .i64 z') → Q .normal a' w') :
    (Code.region id [⟨some d1, .move (.tmp 0), t1, p'1, e1, none⟩, ⟨some d2, .move (.tmp 5), t2, p'2, e2, none⟩, ⟨some d3, .indexAddr 30 (.tmp d1) (.tmp d2), t3, p'3, e3, none⟩, ⟨some d4, .fieldAddr s1 (.tmp d3) f1, t4, p'4, e4, none⟩, ⟨some d5, .fieldAddr s2 (.tmp d4) f2, t5, p'5, e5, none⟩, ⟨some d6, .load ty (.tmp d5), t6, p'6, e6, none⟩, ⟨some d7, .move (.tmp 1), t7, p'7, e7, none⟩, ⟨some d8, .call { callee := .value (.func fn), args := #[.tmp d6, .tmp d7], argTypes := ts }, t8, p'8, e8, none⟩, ⟨some 1, .assign (.tmp d8), t9, p'9, e9, none⟩].toArray false).wp Tryz.prog Q a w := by
  refine wp_region_lit ?_
  refine wl_move A.t0 ?_; intro a1 p1
  refine wl_move ((p1.old _ (by omega)).trans A.t5) ?_; intro a2 p2
  refine wl_index Tryz.underlying30 (sz := 64) (by kernel_rfl) hk ((p2.old _ (by omega)).trans (p1.new (by rw [A.sz]; omega))) (p2.new (by rw [(p1.sz.trans A.sz)]; omega)) ?_; intro a3 p3
  refine wl_field h1 (p3.new (by rw [(p2.sz.trans (p1.sz.trans A.sz))]; omega)) ?_; intro a4 p4
  refine wl_field h2 (p4.new (by rw [(p3.sz.trans (p2.sz.trans (p1.sz.trans A.sz)))]; omega)) ?_; intro a5 p5
  refine wl_load1 ((p5.new (by rw [(p4.sz.trans (p3.sz.trans (p2.sz.trans (p1.sz.trans A.sz))))]; omega)).trans (by first | rfl | (simp only [Nat.add_assoc]; done))) (g := g) (o := k * 64 + (o1 + o2)) (by rw [hj]; exact hc) hu hi hde ?_; intro a6 p6
  refine wl_move ((p6.old _ (by omega)).trans ((p5.old _ (by omega)).trans ((p4.old _ (by omega)).trans ((p3.old _ (by omega)).trans ((p2.old _ (by omega)).trans ((p1.old _ (by omega)).trans A.t1)))))) ?_; intro a7 p7
  refine wl_call hrun ((p7.old _ (by omega)).trans (p6.new (by rw [(p5.sz.trans (p4.sz.trans (p3.sz.trans (p2.sz.trans (p1.sz.trans A.sz)))))]; omega))) (p7.new (by rw [(p6.sz.trans (p5.sz.trans (p4.sz.trans (p3.sz.trans (p2.sz.trans (p1.sz.trans A.sz))))))]; omega)) (hcall.mono ?_)
  rintro e w' ⟨z', rfl, hR⟩
  refine ⟨_, rfl, ?_⟩; intro a8 p8
  refine wl_assign (p8.new (by rw [(p7.sz.trans (p6.sz.trans (p5.sz.trans (p4.sz.trans (p3.sz.trans (p2.sz.trans (p1.sz.trans A.sz)))))))]; omega)) ?_; intro a9 p9
  exact next _ _ _ hR (((((((((A.put p1 (by omega)).put p2 (by omega)).put p3 (by omega)).put p4 (by omega)).put p5 (by omega)).put p6 (by omega)).put p7 (by omega)).put p8 (by omega)).put1 p9 (by omega))
end Go.Proofs.YtkoljbndbomhdaaGreat
