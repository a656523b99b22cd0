/- heldTree: the marks read again. -/
import Derived.Test.YtcdneamoemmohaaMarkTree
import Derived.Test.YtcdneamoemmohaaMarkRule
namespace Go.Proofs.Ytcdneamoemmohaa
open Go.RowKit Go.ChangeShapes Go.WideShapes
set_option linter.unusedVariables false
set_option linter.unusedSimpArgs false

section
variable {P : Program} {ops : Array Oper} {rest : List Oper} {a : Act} {w w' : World} {Q : Exit → Act → World → Prop} {d : Nat} {ty : TypeId} {pos : String} {edges : Array Edge}
theorem wl_neqi {t t' : TypeId} {x y : Operand} {z : Int} (hx : a.eval x = .int .i64 z) (hy : a.eval y = .int .i64 z) (h : ∀ a', Put a' a d (.bool false) → wpList P ops Q rest a' w) : wpList P ops Q (⟨some d, .binOp .neq t x y t', ty, pos, edges, none⟩ :: rest) a w :=
  wl_val _ (by
    unfold execOp
    simp only [hx, hy]
    simp [go_sem, eqGuard, binOp, Op.intCmp]) h
theorem wl_neqb {t t' : TypeId} {x y : Operand} {z : Bool} (hub : P.underlying t = some .bool) (hx : a.eval x = .bool z) (hy : a.eval y = .bool z) (h : ∀ a', Put a' a d (.bool false) → wpList P ops Q rest a' w) : wpList P ops Q (⟨some d, .binOp .neq t x y t', ty, pos, edges, none⟩ :: rest) a w :=
  wl_val _ (by
    have h1 := run_underlying hub w
    obtain ⟨n, hn⟩ : ∃ n, Op.maxDepth = n + 1 := ⟨_, rfl⟩
    unfold execOp
    simp only [hx, hy]
    simp [go_sem, eqGuard, binOp, Op.equal, hn, Op.equalIn, Sem.run_bind, h1]) h
theorem wl_lt0 {t t' : TypeId} {x : Operand} {z : Int} (hz : 0 ≤ z) (hx : a.eval x = .int .i64 z) (h : ∀ a', Put a' a d (.bool false) → wpList P ops Q rest a' w) : wpList P ops Q (⟨some d, .binOp .lss t x (.const (.int .i64 0)) t', ty, pos, edges, none⟩ :: rest) a w :=
  wl_val _ (by
    have hz' : ¬ z < 0 := by omega
    unfold execOp
    simp only [hx]
    simp [go_sem, Act.eval, eqGuard, binOp, Op.intCmp, hz']) h
end
theorem tn1i {w : World} {g n c k j NN id : Nat} {L : List Value} {z : Int} {a : Act} {Q : Exit → Act → World → Prop} {X : Code} {d1 d2 d3 d4 d5 d6 d7 : Nat} {t1 t2 t3 t4 t5 t6 t7 : TypeId} {p'1 p'2 p'3 p'4 p'5 p'6 p'7 : String} {e1 e2 e3 e4 e5 e6 e7 : Array Edge} {f1 o1 : Nat} {s1 ty : TypeId} {b5 b6 : TypeId} {de : TypeDesc}
    (A : AS a NN (.slice (some ⟨g, 0, none⟩) n c) (.int .i64 (k : Int)) (.int .i64 z)) (H : Hid (w.rangeAt g (k * 64) L)) (hk : k < n)
    (hd : 5 < d1 ∧ d1 < d2 ∧ d2 < d3 ∧ d3 < d4 ∧ d4 < d5 ∧ d5 < d6 ∧ d6 < d7 ∧ d7 < NN)
    (h1 : fieldOff Try.prog s1 f1 = some o1) (hj : o1 = j)
    (hu : Try.prog.underlying ty = some de) (hty : (Try.prog.info? ty).map (·.size) = some 1) (hde : de.isRow = false) (hL : L[j]? = some (.int .i64 z))
    (next : ∀ a', AS a' NN (.slice (some ⟨g, 0, none⟩) n c) (.int .i64 (k : Int)) (.int .i64 z) → Q .normal a' w) :
    ((Code.region id [⟨some d1, .move (.tmp 0), t1, p'1, e1, none⟩, ⟨some d2, .move (.tmp 5), t2, p'2, e2, none⟩, ⟨some d3, .indexAddr 28 (.tmp d1) (.tmp d2), t3, p'3, e3, none⟩, ⟨some d4, .fieldAddr s1 (.tmp d3) f1, t4, p'4, e4, none⟩, ⟨some d5, .load ty (.tmp d4), t5, p'5, e5, none⟩, ⟨some d6, .move (.tmp 1), t6, p'6, e6, none⟩, ⟨some d7, .binOp .neq b5 (.tmp d5) (.tmp d6) b6, t7, p'7, e7, none⟩].toArray false).seq (Code.cond (.tmp d7) X Code.skip)).wp Try.prog Q a w := by
  refine wp_seq ?_
  refine wp_region_lit ?_
  refine wl_move A.t0 ?_; intro a1 p1
  refine wl_move ((p1.old _ (by omega)).trans A.t5) ?_; intro a2 p2
  refine wl_index Try.underlying28 (sz := 64) (by kernel_rfl) hk ((p2.old _ (by omega)).trans (p1.new (by rw [A.sz]; omega))) (p2.new (by rw [(p1.sz.trans A.sz)]; omega)) ?_; intro a3 p3
  refine wl_field h1 (p3.new (by rw [(p2.sz.trans (p1.sz.trans A.sz))]; omega)) ?_; intro a4 p4
  refine wl_load1 ((p4.new (by rw [(p3.sz.trans (p2.sz.trans (p1.sz.trans A.sz)))]; omega)).trans (by first | rfl | (simp only [Nat.add_assoc]; done))) (g := g) (o := k * 64 + (o1)) (by rw [hj]; exact H.out j _ hL) hu hty hde ?_; intro a5 p5
  refine wl_move ((p5.old _ (by omega)).trans ((p4.old _ (by omega)).trans ((p3.old _ (by omega)).trans ((p2.old _ (by omega)).trans ((p1.old _ (by omega)).trans A.t1))))) ?_; intro a6 p6
  refine wl_neqi ((p6.old _ (by omega)).trans (p5.new (by rw [(p4.sz.trans (p3.sz.trans (p2.sz.trans (p1.sz.trans A.sz))))]; omega))) (p6.new (by rw [(p5.sz.trans (p4.sz.trans (p3.sz.trans (p2.sz.trans (p1.sz.trans A.sz)))))]; omega)) ?_; intro a7 p7
  refine wp_cond (t := false) (p7.new (by rw [(p6.sz.trans (p5.sz.trans (p4.sz.trans (p3.sz.trans (p2.sz.trans (p1.sz.trans A.sz))))))]; omega)) ?_
  refine wp_skip ?_
  exact next _ (((((((A.put p1 (by omega)).put p2 (by omega)).put p3 (by omega)).put p4 (by omega)).put p5 (by omega)).put p6 (by omega)).put p7 (by omega))
theorem tn2i {w : World} {g n c k j NN id : Nat} {L : List Value} {z : Int} {a : Act} {Q : Exit → Act → World → Prop} {X : Code} {d1 d2 d3 d4 d5 d6 d7 d8 : Nat} {t1 t2 t3 t4 t5 t6 t7 t8 : TypeId} {p'1 p'2 p'3 p'4 p'5 p'6 p'7 p'8 : String} {e1 e2 e3 e4 e5 e6 e7 e8 : Array Edge} {f1 o1 f2 o2 : Nat} {s1 s2 ty : TypeId} {b5 b6 : TypeId} {de : TypeDesc}
    (A : AS a NN (.slice (some ⟨g, 0, none⟩) n c) (.int .i64 (k : Int)) (.int .i64 z)) (H : Hid (w.rangeAt g (k * 64) L)) (hk : k < n)
    (hd : 5 < d1 ∧ d1 < d2 ∧ d2 < d3 ∧ d3 < d4 ∧ d4 < d5 ∧ d5 < d6 ∧ d6 < d7 ∧ d7 < d8 ∧ d8 < NN)
    (h1 : fieldOff Try.prog s1 f1 = some o1) (h2 : fieldOff Try.prog s2 f2 = some o2) (hj : o1 + o2 = j)
    (hu : Try.prog.underlying ty = some de) (hty : (Try.prog.info? ty).map (·.size) = some 1) (hde : de.isRow = false) (hL : L[j]? = some (.int .i64 z))
    (next : ∀ a', AS a' NN (.slice (some ⟨g, 0, none⟩) n c) (.int .i64 (k : Int)) (.int .i64 z) → Q .normal a' w) :
    ((Code.region id [⟨some d1, .move (.tmp 0), t1, p'1, e1, none⟩, ⟨some d2, .move (.tmp 5), t2, p'2, e2, none⟩, ⟨some d3, .indexAddr 28 (.tmp d1) (.tmp d2), t3, p'3, e3, none⟩, ⟨some d4, .fieldAddr s1 (.tmp d3) f1, t4, p'4, e4, none⟩, ⟨some d5, .fieldAddr s2 (.tmp d4) f2, t5, p'5, e5, none⟩, ⟨some d6, .load ty (.tmp d5), t6, p'6, e6, none⟩, ⟨some d7, .move (.tmp 1), t7, p'7, e7, none⟩, ⟨some d8, .binOp .neq b5 (.tmp d6) (.tmp d7) b6, t8, p'8, e8, none⟩].toArray false).seq (Code.cond (.tmp d8) X Code.skip)).wp Try.prog Q a w := by
  refine wp_seq ?_
  refine wp_region_lit ?_
  refine wl_move A.t0 ?_; intro a1 p1
  refine wl_move ((p1.old _ (by omega)).trans A.t5) ?_; intro a2 p2
  refine wl_index Try.underlying28 (sz := 64) (by kernel_rfl) hk ((p2.old _ (by omega)).trans (p1.new (by rw [A.sz]; omega))) (p2.new (by rw [(p1.sz.trans A.sz)]; omega)) ?_; intro a3 p3
  refine wl_field h1 (p3.new (by rw [(p2.sz.trans (p1.sz.trans A.sz))]; omega)) ?_; intro a4 p4
  refine wl_field h2 (p4.new (by rw [(p3.sz.trans (p2.sz.trans (p1.sz.trans A.sz)))]; omega)) ?_; intro a5 p5
  refine wl_load1 ((p5.new (by rw [(p4.sz.trans (p3.sz.trans (p2.sz.trans (p1.sz.trans A.sz))))]; omega)).trans (by first | rfl | (simp only [Nat.add_assoc]; done))) (g := g) (o := k * 64 + (o1 + o2)) (by rw [hj]; exact H.out j _ hL) hu hty hde ?_; intro a6 p6
  refine wl_move ((p6.old _ (by omega)).trans ((p5.old _ (by omega)).trans ((p4.old _ (by omega)).trans ((p3.old _ (by omega)).trans ((p2.old _ (by omega)).trans ((p1.old _ (by omega)).trans A.t1)))))) ?_; intro a7 p7
  refine wl_neqi ((p7.old _ (by omega)).trans (p6.new (by rw [(p5.sz.trans (p4.sz.trans (p3.sz.trans (p2.sz.trans (p1.sz.trans A.sz)))))]; omega))) (p7.new (by rw [(p6.sz.trans (p5.sz.trans (p4.sz.trans (p3.sz.trans (p2.sz.trans (p1.sz.trans A.sz))))))]; omega)) ?_; intro a8 p8
  refine wp_cond (t := false) (p8.new (by rw [(p7.sz.trans (p6.sz.trans (p5.sz.trans (p4.sz.trans (p3.sz.trans (p2.sz.trans (p1.sz.trans A.sz)))))))]; omega)) ?_
  refine wp_skip ?_
  exact next _ ((((((((A.put p1 (by omega)).put p2 (by omega)).put p3 (by omega)).put p4 (by omega)).put p5 (by omega)).put p6 (by omega)).put p7 (by omega)).put p8 (by omega))
theorem tn3i {w : World} {g n c k j NN id : Nat} {L : List Value} {z : Int} {a : Act} {Q : Exit → Act → World → Prop} {X : Code} {d1 d2 d3 d4 d5 d6 d7 d8 d9 : Nat} {t1 t2 t3 t4 t5 t6 t7 t8 t9 : TypeId} {p'1 p'2 p'3 p'4 p'5 p'6 p'7 p'8 p'9 : String} {e1 e2 e3 e4 e5 e6 e7 e8 e9 : Array Edge} {f1 o1 f2 o2 f3 o3 : Nat} {s1 s2 s3 ty : TypeId} {b5 b6 : TypeId} {de : TypeDesc}
    (A : AS a NN (.slice (some ⟨g, 0, none⟩) n c) (.int .i64 (k : Int)) (.int .i64 z)) (H : Hid (w.rangeAt g (k * 64) L)) (hk : k < n)
    (hd : 5 < d1 ∧ d1 < d2 ∧ d2 < d3 ∧ d3 < d4 ∧ d4 < d5 ∧ d5 < d6 ∧ d6 < d7 ∧ d7 < d8 ∧ d8 < d9 ∧ d9 < NN)
    (h1 : fieldOff Try.prog s1 f1 = some o1) (h2 : fieldOff Try.prog s2 f2 = some o2) (h3 : fieldOff Try.prog s3 f3 = some o3) (hj : o1 + o2 + o3 = j)
    (hu : Try.prog.underlying ty = some de) (hty : (Try.prog.info? ty).map (·.size) = some 1) (hde : de.isRow = false) (hL : L[j]? = some (.int .i64 z))
    (next : ∀ a', AS a' NN (.slice (some ⟨g, 0, none⟩) n c) (.int .i64 (k : Int)) (.int .i64 z) → Q .normal a' w) :
    ((Code.region id [⟨some d1, .move (.tmp 0), t1, p'1, e1, none⟩, ⟨some d2, .move (.tmp 5), t2, p'2, e2, none⟩, ⟨some d3, .indexAddr 28 (.tmp d1) (.tmp d2), t3, p'3, e3, none⟩, ⟨some d4, .fieldAddr s1 (.tmp d3) f1, t4, p'4, e4, none⟩, ⟨some d5, .fieldAddr s2 (.tmp d4) f2, t5, p'5, e5, none⟩, ⟨some d6, .fieldAddr s3 (.tmp d5) f3, t6, p'6, e6, none⟩, ⟨some d7, .load ty (.tmp d6), t7, p'7, e7, none⟩, ⟨some d8, .move (.tmp 1), t8, p'8, e8, none⟩, ⟨some d9, .binOp .neq b5 (.tmp d7) (.tmp d8) b6, t9, p'9, e9, none⟩].toArray false).seq (Code.cond (.tmp d9) X Code.skip)).wp Try.prog Q a w := by
  refine wp_seq ?_
  refine wp_region_lit ?_
  refine wl_move A.t0 ?_; intro a1 p1
  refine wl_move ((p1.old _ (by omega)).trans A.t5) ?_; intro a2 p2
  refine wl_index Try.underlying28 (sz := 64) (by kernel_rfl) hk ((p2.old _ (by omega)).trans (p1.new (by rw [A.sz]; omega))) (p2.new (by rw [(p1.sz.trans A.sz)]; omega)) ?_; intro a3 p3
  refine wl_field h1 (p3.new (by rw [(p2.sz.trans (p1.sz.trans A.sz))]; omega)) ?_; intro a4 p4
  refine wl_field h2 (p4.new (by rw [(p3.sz.trans (p2.sz.trans (p1.sz.trans A.sz)))]; omega)) ?_; intro a5 p5
  refine wl_field h3 (p5.new (by rw [(p4.sz.trans (p3.sz.trans (p2.sz.trans (p1.sz.trans A.sz))))]; omega)) ?_; intro a6 p6
  refine wl_load1 ((p6.new (by rw [(p5.sz.trans (p4.sz.trans (p3.sz.trans (p2.sz.trans (p1.sz.trans A.sz)))))]; omega)).trans (by first | rfl | (simp only [Nat.add_assoc]; done))) (g := g) (o := k * 64 + (o1 + o2 + o3)) (by rw [hj]; exact H.out j _ hL) hu hty hde ?_; intro a7 p7
  refine wl_move ((p7.old _ (by omega)).trans ((p6.old _ (by omega)).trans ((p5.old _ (by omega)).trans ((p4.old _ (by omega)).trans ((p3.old _ (by omega)).trans ((p2.old _ (by omega)).trans ((p1.old _ (by omega)).trans A.t1))))))) ?_; intro a8 p8
  refine wl_neqi ((p8.old _ (by omega)).trans (p7.new (by rw [(p6.sz.trans (p5.sz.trans (p4.sz.trans (p3.sz.trans (p2.sz.trans (p1.sz.trans A.sz))))))]; omega))) (p8.new (by rw [(p7.sz.trans (p6.sz.trans (p5.sz.trans (p4.sz.trans (p3.sz.trans (p2.sz.trans (p1.sz.trans A.sz)))))))]; omega)) ?_; intro a9 p9
  refine wp_cond (t := false) (p9.new (by rw [(p8.sz.trans (p7.sz.trans (p6.sz.trans (p5.sz.trans (p4.sz.trans (p3.sz.trans (p2.sz.trans (p1.sz.trans A.sz))))))))]; omega)) ?_
  refine wp_skip ?_
  exact next _ (((((((((A.put p1 (by omega)).put p2 (by omega)).put p3 (by omega)).put p4 (by omega)).put p5 (by omega)).put p6 (by omega)).put p7 (by omega)).put p8 (by omega)).put p9 (by omega))
theorem tn4i {w : World} {g n c k j NN id : Nat} {L : List Value} {z : Int} {a : Act} {Q : Exit → Act → World → Prop} {X : Code} {d1 d2 d3 d4 d5 d6 d7 d8 d9 d10 : Nat} {t1 t2 t3 t4 t5 t6 t7 t8 t9 t10 : TypeId} {p'1 p'2 p'3 p'4 p'5 p'6 p'7 p'8 p'9 p'10 : String} {e1 e2 e3 e4 e5 e6 e7 e8 e9 e10 : Array Edge} {f1 o1 f2 o2 f3 o3 f4 o4 : Nat} {s1 s2 s3 s4 ty : TypeId} {b5 b6 : TypeId} {de : TypeDesc}
    (A : AS a NN (.slice (some ⟨g, 0, none⟩) n c) (.int .i64 (k : Int)) (.int .i64 z)) (H : Hid (w.rangeAt g (k * 64) L)) (hk : k < n)
    (hd : 5 < d1 ∧ d1 < d2 ∧ d2 < d3 ∧ d3 < d4 ∧ d4 < d5 ∧ d5 < d6 ∧ d6 < d7 ∧ d7 < d8 ∧ d8 < d9 ∧ d9 < d10 ∧ d10 < NN)
    (h1 : fieldOff Try.prog s1 f1 = some o1) (h2 : fieldOff Try.prog s2 f2 = some o2) (h3 : fieldOff Try.prog s3 f3 = some o3) (h4 : fieldOff Try.prog s4 f4 = some o4) (hj : o1 + o2 + o3 + o4 = j)
    (hu : Try.prog.underlying ty = some de) (hty : (Try.prog.info? ty).map (·.size) = some 1) (hde : de.isRow = false) (hL : L[j]? = some (.int .i64 z))
    (next : ∀ a', AS a' NN (.slice (some ⟨g, 0, none⟩) n c) (.int .i64 (k : Int)) (.int .i64 z) → Q .normal a' w) :
    ((Code.region id [⟨some d1, .move (.tmp 0), t1, p'1, e1, none⟩, ⟨some d2, .move (.tmp 5), t2, p'2, e2, none⟩, ⟨some d3, .indexAddr 28 (.tmp d1) (.tmp d2), t3, p'3, e3, none⟩, ⟨some d4, .fieldAddr s1 (.tmp d3) f1, t4, p'4, e4, none⟩, ⟨some d5, .fieldAddr s2 (.tmp d4) f2, t5, p'5, e5, none⟩, ⟨some d6, .fieldAddr s3 (.tmp d5) f3, t6, p'6, e6, none⟩, ⟨some d7, .fieldAddr s4 (.tmp d6) f4, t7, p'7, e7, none⟩, ⟨some d8, .load ty (.tmp d7), t8, p'8, e8, none⟩, ⟨some d9, .move (.tmp 1), t9, p'9, e9, none⟩, ⟨some d10, .binOp .neq b5 (.tmp d8) (.tmp d9) b6, t10, p'10, e10, none⟩].toArray false).seq (Code.cond (.tmp d10) X Code.skip)).wp Try.prog Q a w := by
  refine wp_seq ?_
  refine wp_region_lit ?_
  refine wl_move A.t0 ?_; intro a1 p1
  refine wl_move ((p1.old _ (by omega)).trans A.t5) ?_; intro a2 p2
  refine wl_index Try.underlying28 (sz := 64) (by kernel_rfl) hk ((p2.old _ (by omega)).trans (p1.new (by rw [A.sz]; omega))) (p2.new (by rw [(p1.sz.trans A.sz)]; omega)) ?_; intro a3 p3
  refine wl_field h1 (p3.new (by rw [(p2.sz.trans (p1.sz.trans A.sz))]; omega)) ?_; intro a4 p4
  refine wl_field h2 (p4.new (by rw [(p3.sz.trans (p2.sz.trans (p1.sz.trans A.sz)))]; omega)) ?_; intro a5 p5
  refine wl_field h3 (p5.new (by rw [(p4.sz.trans (p3.sz.trans (p2.sz.trans (p1.sz.trans A.sz))))]; omega)) ?_; intro a6 p6
  refine wl_field h4 (p6.new (by rw [(p5.sz.trans (p4.sz.trans (p3.sz.trans (p2.sz.trans (p1.sz.trans A.sz)))))]; omega)) ?_; intro a7 p7
  refine wl_load1 ((p7.new (by rw [(p6.sz.trans (p5.sz.trans (p4.sz.trans (p3.sz.trans (p2.sz.trans (p1.sz.trans A.sz))))))]; omega)).trans (by first | rfl | (simp only [Nat.add_assoc]; done))) (g := g) (o := k * 64 + (o1 + o2 + o3 + o4)) (by rw [hj]; exact H.out j _ hL) hu hty hde ?_; intro a8 p8
  refine wl_move ((p8.old _ (by omega)).trans ((p7.old _ (by omega)).trans ((p6.old _ (by omega)).trans ((p5.old _ (by omega)).trans ((p4.old _ (by omega)).trans ((p3.old _ (by omega)).trans ((p2.old _ (by omega)).trans ((p1.old _ (by omega)).trans A.t1)))))))) ?_; intro a9 p9
  refine wl_neqi ((p9.old _ (by omega)).trans (p8.new (by rw [(p7.sz.trans (p6.sz.trans (p5.sz.trans (p4.sz.trans (p3.sz.trans (p2.sz.trans (p1.sz.trans A.sz)))))))]; omega))) (p9.new (by rw [(p8.sz.trans (p7.sz.trans (p6.sz.trans (p5.sz.trans (p4.sz.trans (p3.sz.trans (p2.sz.trans (p1.sz.trans A.sz))))))))]; omega)) ?_; intro a10 p10
  refine wp_cond (t := false) (p10.new (by rw [(p9.sz.trans (p8.sz.trans (p7.sz.trans (p6.sz.trans (p5.sz.trans (p4.sz.trans (p3.sz.trans (p2.sz.trans (p1.sz.trans A.sz)))))))))]; omega)) ?_
  refine wp_skip ?_
  exact next _ ((((((((((A.put p1 (by omega)).put p2 (by omega)).put p3 (by omega)).put p4 (by omega)).put p5 (by omega)).put p6 (by omega)).put p7 (by omega)).put p8 (by omega)).put p9 (by omega)).put p10 (by omega))
theorem tn1b {w : World} {g n c k j NN id : Nat} {L : List Value} {z : Int} {a : Act} {Q : Exit → Act → World → Prop} {X : Code} {d1 d2 d3 d4 d5 d6 d7 d8 d9 : Nat} {t1 t2 t3 t4 t5 t6 t7 t8 t9 : TypeId} {p'1 p'2 p'3 p'4 p'5 p'6 p'7 p'8 p'9 : String} {e1 e2 e3 e4 e5 e6 e7 e8 e9 : Array Edge} {f1 o1 : Nat} {s1 ty : TypeId} {b1 b2 b3 b4 b5 b6 : TypeId} {de : TypeDesc}
    (A : AS a NN (.slice (some ⟨g, 0, none⟩) n c) (.int .i64 (k : Int)) (.int .i64 z)) (H : Hid (w.rangeAt g (k * 64) L)) (hk : k < n) (hz : 0 ≤ z ∧ z ≤ 9223372036854775806)
    (hd : 5 < d1 ∧ d1 < d2 ∧ d2 < d3 ∧ d3 < d4 ∧ d4 < d5 ∧ d5 < d6 ∧ d6 < d7 ∧ d7 < d8 ∧ d8 < d9 ∧ d9 < NN)
    (h1 : fieldOff Try.prog s1 f1 = some o1) (hj : o1 = j)
    (hu : Try.prog.underlying ty = some de) (hty : (Try.prog.info? ty).map (·.size) = some 1) (hde : de.isRow = false) (hub : Try.prog.underlying b5 = some .bool) (hL : L[j]? = some (.bool (decide (z % 3 = 0))))
    (next : ∀ a', AS a' NN (.slice (some ⟨g, 0, none⟩) n c) (.int .i64 (k : Int)) (.int .i64 z) → Q .normal a' w) :
    ((Code.region id [⟨some d1, .move (.tmp 0), t1, p'1, e1, none⟩, ⟨some d2, .move (.tmp 5), t2, p'2, e2, none⟩, ⟨some d3, .indexAddr 28 (.tmp d1) (.tmp d2), t3, p'3, e3, none⟩, ⟨some d4, .fieldAddr s1 (.tmp d3) f1, t4, p'4, e4, none⟩, ⟨some d5, .load ty (.tmp d4), t5, p'5, e5, none⟩, ⟨some d6, .move (.tmp 1), t6, p'6, e6, none⟩, ⟨some d7, .binOp .rem b1 (.tmp d6) (.const (.int .i64 3)) b2, t7, p'7, e7, none⟩, ⟨some d8, .binOp .eql b3 (.tmp d7) (.const (.int .i64 0)) b4, t8, p'8, e8, none⟩, ⟨some d9, .binOp .neq b5 (.tmp d5) (.tmp d8) b6, t9, p'9, e9, none⟩].toArray false).seq (Code.cond (.tmp d9) X Code.skip)).wp Try.prog Q a w := by
  refine wp_seq ?_
  refine wp_region_lit ?_
  refine wl_move A.t0 ?_; intro a1 p1
  refine wl_move ((p1.old _ (by omega)).trans A.t5) ?_; intro a2 p2
  refine wl_index Try.underlying28 (sz := 64) (by kernel_rfl) hk ((p2.old _ (by omega)).trans (p1.new (by rw [A.sz]; omega))) (p2.new (by rw [(p1.sz.trans A.sz)]; omega)) ?_; intro a3 p3
  refine wl_field h1 (p3.new (by rw [(p2.sz.trans (p1.sz.trans A.sz))]; omega)) ?_; intro a4 p4
  refine wl_load1 ((p4.new (by rw [(p3.sz.trans (p2.sz.trans (p1.sz.trans A.sz)))]; omega)).trans (by first | rfl | (simp only [Nat.add_assoc]; done))) (g := g) (o := k * 64 + (o1)) (by rw [hj]; exact H.out j _ hL) hu hty hde ?_; intro a5 p5
  refine wl_move ((p5.old _ (by omega)).trans ((p4.old _ (by omega)).trans ((p3.old _ (by omega)).trans ((p2.old _ (by omega)).trans ((p1.old _ (by omega)).trans A.t1))))) ?_; intro a6 p6
  refine wl_rem3 hz (p6.new (by rw [(p5.sz.trans (p4.sz.trans (p3.sz.trans (p2.sz.trans (p1.sz.trans A.sz)))))]; omega)) ?_; intro a7 p7
  refine wl_eql0 (p7.new (by rw [(p6.sz.trans (p5.sz.trans (p4.sz.trans (p3.sz.trans (p2.sz.trans (p1.sz.trans A.sz))))))]; omega)) ?_; intro a8 p8
  refine wl_neqb hub ((p8.old _ (by omega)).trans ((p7.old _ (by omega)).trans ((p6.old _ (by omega)).trans (p5.new (by rw [(p4.sz.trans (p3.sz.trans (p2.sz.trans (p1.sz.trans A.sz))))]; omega))))) (p8.new (by rw [(p7.sz.trans (p6.sz.trans (p5.sz.trans (p4.sz.trans (p3.sz.trans (p2.sz.trans (p1.sz.trans A.sz)))))))]; omega)) ?_; intro a9 p9
  refine wp_cond (t := false) (p9.new (by rw [(p8.sz.trans (p7.sz.trans (p6.sz.trans (p5.sz.trans (p4.sz.trans (p3.sz.trans (p2.sz.trans (p1.sz.trans A.sz))))))))]; omega)) ?_
  refine wp_skip ?_
  exact next _ (((((((((A.put p1 (by omega)).put p2 (by omega)).put p3 (by omega)).put p4 (by omega)).put p5 (by omega)).put p6 (by omega)).put p7 (by omega)).put p8 (by omega)).put p9 (by omega))
theorem tn2b {w : World} {g n c k j NN id : Nat} {L : List Value} {z : Int} {a : Act} {Q : Exit → Act → World → Prop} {X : Code} {d1 d2 d3 d4 d5 d6 d7 d8 d9 d10 : Nat} {t1 t2 t3 t4 t5 t6 t7 t8 t9 t10 : TypeId} {p'1 p'2 p'3 p'4 p'5 p'6 p'7 p'8 p'9 p'10 : String} {e1 e2 e3 e4 e5 e6 e7 e8 e9 e10 : Array Edge} {f1 o1 f2 o2 : Nat} {s1 s2 ty : TypeId} {b1 b2 b3 b4 b5 b6 : TypeId} {de : TypeDesc}
    (A : AS a NN (.slice (some ⟨g, 0, none⟩) n c) (.int .i64 (k : Int)) (.int .i64 z)) (H : Hid (w.rangeAt g (k * 64) L)) (hk : k < n) (hz : 0 ≤ z ∧ z ≤ 9223372036854775806)
    (hd : 5 < d1 ∧ d1 < d2 ∧ d2 < d3 ∧ d3 < d4 ∧ d4 < d5 ∧ d5 < d6 ∧ d6 < d7 ∧ d7 < d8 ∧ d8 < d9 ∧ d9 < d10 ∧ d10 < NN)
    (h1 : fieldOff Try.prog s1 f1 = some o1) (h2 : fieldOff Try.prog s2 f2 = some o2) (hj : o1 + o2 = j)
    (hu : Try.prog.underlying ty = some de) (hty : (Try.prog.info? ty).map (·.size) = some 1) (hde : de.isRow = false) (hub : Try.prog.underlying b5 = some .bool) (hL : L[j]? = some (.bool (decide (z % 3 = 0))))
    (next : ∀ a', AS a' NN (.slice (some ⟨g, 0, none⟩) n c) (.int .i64 (k : Int)) (.int .i64 z) → Q .normal a' w) :
    ((Code.region id [⟨some d1, .move (.tmp 0), t1, p'1, e1, none⟩, ⟨some d2, .move (.tmp 5), t2, p'2, e2, none⟩, ⟨some d3, .indexAddr 28 (.tmp d1) (.tmp d2), t3, p'3, e3, none⟩, ⟨some d4, .fieldAddr s1 (.tmp d3) f1, t4, p'4, e4, none⟩, ⟨some d5, .fieldAddr s2 (.tmp d4) f2, t5, p'5, e5, none⟩, ⟨some d6, .load ty (.tmp d5), t6, p'6, e6, none⟩, ⟨some d7, .move (.tmp 1), t7, p'7, e7, none⟩, ⟨some d8, .binOp .rem b1 (.tmp d7) (.const (.int .i64 3)) b2, t8, p'8, e8, none⟩, ⟨some d9, .binOp .eql b3 (.tmp d8) (.const (.int .i64 0)) b4, t9, p'9, e9, none⟩, ⟨some d10, .binOp .neq b5 (.tmp d6) (.tmp d9) b6, t10, p'10, e10, none⟩].toArray false).seq (Code.cond (.tmp d10) X Code.skip)).wp Try.prog Q a w := by
  refine wp_seq ?_
  refine wp_region_lit ?_
  refine wl_move A.t0 ?_; intro a1 p1
  refine wl_move ((p1.old _ (by omega)).trans A.t5) ?_; intro a2 p2
  refine wl_index Try.underlying28 (sz := 64) (by kernel_rfl) hk ((p2.old _ (by omega)).trans (p1.new (by rw [A.sz]; omega))) (p2.new (by rw [(p1.sz.trans A.sz)]; omega)) ?_; intro a3 p3
  refine wl_field h1 (p3.new (by rw [(p2.sz.trans (p1.sz.trans A.sz))]; omega)) ?_; intro a4 p4
  refine wl_field h2 (p4.new (by rw [(p3.sz.trans (p2.sz.trans (p1.sz.trans A.sz)))]; omega)) ?_; intro a5 p5
  refine wl_load1 ((p5.new (by rw [(p4.sz.trans (p3.sz.trans (p2.sz.trans (p1.sz.trans A.sz))))]; omega)).trans (by first | rfl | (simp only [Nat.add_assoc]; done))) (g := g) (o := k * 64 + (o1 + o2)) (by rw [hj]; exact H.out j _ hL) hu hty hde ?_; intro a6 p6
  refine wl_move ((p6.old _ (by omega)).trans ((p5.old _ (by omega)).trans ((p4.old _ (by omega)).trans ((p3.old _ (by omega)).trans ((p2.old _ (by omega)).trans ((p1.old _ (by omega)).trans A.t1)))))) ?_; intro a7 p7
  refine wl_rem3 hz (p7.new (by rw [(p6.sz.trans (p5.sz.trans (p4.sz.trans (p3.sz.trans (p2.sz.trans (p1.sz.trans A.sz))))))]; omega)) ?_; intro a8 p8
  refine wl_eql0 (p8.new (by rw [(p7.sz.trans (p6.sz.trans (p5.sz.trans (p4.sz.trans (p3.sz.trans (p2.sz.trans (p1.sz.trans A.sz)))))))]; omega)) ?_; intro a9 p9
  refine wl_neqb hub ((p9.old _ (by omega)).trans ((p8.old _ (by omega)).trans ((p7.old _ (by omega)).trans (p6.new (by rw [(p5.sz.trans (p4.sz.trans (p3.sz.trans (p2.sz.trans (p1.sz.trans A.sz)))))]; omega))))) (p9.new (by rw [(p8.sz.trans (p7.sz.trans (p6.sz.trans (p5.sz.trans (p4.sz.trans (p3.sz.trans (p2.sz.trans (p1.sz.trans A.sz))))))))]; omega)) ?_; intro a10 p10
  refine wp_cond (t := false) (p10.new (by rw [(p9.sz.trans (p8.sz.trans (p7.sz.trans (p6.sz.trans (p5.sz.trans (p4.sz.trans (p3.sz.trans (p2.sz.trans (p1.sz.trans A.sz)))))))))]; omega)) ?_
  refine wp_skip ?_
  exact next _ ((((((((((A.put p1 (by omega)).put p2 (by omega)).put p3 (by omega)).put p4 (by omega)).put p5 (by omega)).put p6 (by omega)).put p7 (by omega)).put p8 (by omega)).put p9 (by omega)).put p10 (by omega))
theorem tlt {w : World} {NN id : Nat} {v i : Value} {z : Int} {a : Act} {Q : Exit → Act → World → Prop} {X : Code} {d1 d2 : Nat} {t1 t2 b1 b2 : TypeId} {p'1 p'2 : String} {e1 e2 : Array Edge}
    (A : AS a NN v i (.int .i64 z)) (hz : 0 ≤ z) (hd : 5 < d1 ∧ d1 < d2 ∧ d2 < NN) (next : ∀ a', AS a' NN v i (.int .i64 z) → Q .normal a' w) :
    ((Code.region id [⟨some d1, .move (.tmp 1), t1, p'1, e1, none⟩, ⟨some d2, .binOp .lss b1 (.tmp d1) (.const (.int .i64 0)) b2, t2, p'2, e2, none⟩].toArray false).seq (Code.cond (.tmp d2) X Code.skip)).wp Try.prog Q a w := by
  refine wp_seq ?_
  refine wp_region_lit ?_
  refine wl_move A.t1 ?_; intro a1 p1
  refine wl_lt0 hz (p1.new (by rw [A.sz]; omega)) ?_; intro a2 p2
  refine wp_cond (t := false) (p2.new (by rw [p1.sz, A.sz]; omega)) ?_
  refine wp_skip ?_
  exact next _ ((A.put p1 (by omega)).put p2 (by omega))

noncomputable def heldBody : Code := ((((Try.f62).body.bind firstLoop).bind firstBlock).getD .skip)
set_option maxRecDepth 1000000 in
set_option maxRecDepth 100000 in
set_option maxHeartbeats 16000000 in
/-- one node's marks read -/
theorem held_one {w : World} {b c n k : Nat} {L : List Value} {x : NodeD} {K Rr : Option Addr} {ck cr : Nat} {M : Int} {a : Act} {Q : Exit → Act → World → Prop}
    (A : AS a 726 (.slice (some ⟨b, 0, none⟩) n c) (.int .i64 (k : Int)) (.int .i64 M))
    (H : Hid (w.rangeAt b (k * 64) L)) (hg : b < w.heap.size) (hlt : k < n)
    (HL : Hid (nodeL (markNode M x) (.slice K x.kids.length ck) (.slice Rr x.rules.length cr) = L))
    (hKI : Ints w K (marks (M + 1) x.kids.length)) (hRI : Recs w Rr k_rule (marksR 3 (M + 1 + (x.kids.length : Int) + 61) x.rules.length))
    (hM : 0 ≤ M ∧ M ≤ 4611686018427387) (hk1 : x.kids.length ≤ 1048576) (hk2 : x.rules.length ≤ 1048576)
    (next : ∀ a' w', AS a' 726 (.slice (some ⟨b, 0, none⟩) n c) (.int .i64 (k : Int)) (.int .i64 (M + 1 + (x.kids.length : Int) + 61 + 3 * (x.rules.length : Int))) → Bel w w' → Q .normal a' w') :
    heldBody.wp Try.prog Q a w := by
  have l0 : L[0]? = some (.int .i64 M) := by rw [← HL.out]; rfl
  have l1 : L[1]? = some (.slice K x.kids.length ck) := by rw [← HL.out]; rfl
  have l63 : L[63]? = some (.slice Rr x.rules.length cr) := by rw [← HL.out]; exact nodeL_get63 _ _ _
  conv => arg 2; whnf
  have next := next
  refine wp_seq (tn1i (j := 0) (o1 := 0) (z := M) A H hlt (by decide) (by kernel_rfl) rfl Try.underlying3 (by kernel_rfl) rfl l0 ?_); intro a1 A1; change Code.wp _ _ _ _ _
  refine wp_seq (st_inc A1 (by omega) (by decide) (z' := M + 1) rfl ?_); intro a2 A2; change Code.wp _ _ _ _ _
  have hcK := H.out 1 _ l1
  refine wp_seq (stc1 (j := 1) (o1 := 1) (z := M + 1) (R := fun z' w' => z' = M + 1 + (x.kids.length : Int) ∧ Bel w w') A2 hlt (by decide) (by kernel_rfl) rfl hcK Try.underlying26 (by kernel_rfl) rfl (run_callFunc Try.func19 (by kernel_rfl) rfl)
    ((heldIntS_c K ck x.kids.length (M + 1) w hKI (by omega) (by omega)).mono (by rintro e w' ⟨rfl, hb⟩; exact ⟨_, rfl, rfl, hb⟩)) ?_)
  rintro a3 z3 w3 ⟨rfl, hb3⟩ A3; change Code.wp _ _ _ _ _
  refine wp_seq (tlt A3 (by omega) (by decide) ?_); clear A3; intro a3 A3; change Code.wp _ _ _ _ _
  have H3 := hid' (range_bel H.out hb3 hg)
  obtain ⟨M1, hM1⟩ : ∃ M1 : Int, M1 = M + 1 + (x.kids.length : Int) := ⟨_, rfl⟩
  rw [← hM1] at A3
  have HI1 : Hid (∀ q, k_style[q]? = some true → L[2 + q]? = some (.int .i64 (M1 + (q : Int)))) := hid' (fun q hq => by rw [← HL.out]; exact markL_int (M := M1) (by rw [hM1]; rfl) ⟨by omega, by have := lt_of_get hq; change q < 60 at this; omega⟩ (by rw [show 2 + q - 2 = q by omega]; exact hq) (by rw [show 2 + q - 2 = q by omega]))
  have HB1 : Hid (∀ q, k_style[q]? = some false → L[2 + q]? = some (.bool (decide ((M1 + (q : Int)) % 3 = 0)))) := hid' (fun q hq => by rw [← HL.out]; exact markL_bool (M := M1) (by rw [hM1]; rfl) ⟨by omega, by have := lt_of_get hq; change q < 60 at this; omega⟩ (by rw [show 2 + q - 2 = q by omega]; exact hq) (by rw [show 2 + q - 2 = q by omega]))
  have l62 : L[62]? = some (.bool (decide ((M1 + 60) % 3 = 0))) := by rw [← HL.out, hM1]; exact nodeL_get62 _ _ _
  have hM1b : 0 ≤ M1 ∧ M1 ≤ 4611686000000000000 := by omega
  have HM1 := Lib.hid hM1
  have HRR := hid' (hRI.keep hb3)
  rw [← hM1] at HRR
  clear hM1 hcK H A A1 A2 l0 l1 hRI hKI
  have A4 : AS a3 726 (.slice (some ⟨b, 0, none⟩) n c) (.int .i64 (k : Int)) (.int .i64 (M1 + 0)) := by rw [Int.add_zero]; exact A3
  clear A3
  refine wp_seq (tn2i (j := 2) (o1 := 2) (o2 := 0) (z := M1 + 0) A4 H3 hlt (by decide) (by kernel_rfl) (by kernel_rfl) rfl Try.underlying3 (by kernel_rfl) rfl (HI1.out 0 rfl) ?_); intro a5 B5; change Code.wp _ _ _ _ _
  clear A4
  refine wp_seq (st_inc B5 (by omega) (by decide) (z' := M1 + 1) (by omega) ?_); intro b5 A5; change Code.wp _ _ _ _ _
  clear B5
  refine wp_seq (tn2i (j := 3) (o1 := 2) (o2 := 1) (z := M1 + 1) A5 H3 hlt (by decide) (by kernel_rfl) (by kernel_rfl) rfl Try.underlying3 (by kernel_rfl) rfl (HI1.out 1 rfl) ?_); intro a6 B6; change Code.wp _ _ _ _ _
  clear A5
  refine wp_seq (st_inc B6 (by omega) (by decide) (z' := M1 + 2) (by omega) ?_); intro b6 A6; change Code.wp _ _ _ _ _
  clear B6
  refine wp_seq (tn2i (j := 4) (o1 := 2) (o2 := 2) (z := M1 + 2) A6 H3 hlt (by decide) (by kernel_rfl) (by kernel_rfl) rfl Try.underlying3 (by kernel_rfl) rfl (HI1.out 2 rfl) ?_); intro a7 B7; change Code.wp _ _ _ _ _
  clear A6
  refine wp_seq (st_inc B7 (by omega) (by decide) (z' := M1 + 3) (by omega) ?_); intro b7 A7; change Code.wp _ _ _ _ _
  clear B7
  refine wp_seq (tn2i (j := 5) (o1 := 2) (o2 := 3) (z := M1 + 3) A7 H3 hlt (by decide) (by kernel_rfl) (by kernel_rfl) rfl Try.underlying3 (by kernel_rfl) rfl (HI1.out 3 rfl) ?_); intro a8 B8; change Code.wp _ _ _ _ _
  clear A7
  refine wp_seq (st_inc B8 (by omega) (by decide) (z' := M1 + 4) (by omega) ?_); intro b8 A8; change Code.wp _ _ _ _ _
  clear B8
  refine wp_seq (tn2i (j := 6) (o1 := 2) (o2 := 4) (z := M1 + 4) A8 H3 hlt (by decide) (by kernel_rfl) (by kernel_rfl) rfl Try.underlying3 (by kernel_rfl) rfl (HI1.out 4 rfl) ?_); intro a9 B9; change Code.wp _ _ _ _ _
  clear A8
  refine wp_seq (st_inc B9 (by omega) (by decide) (z' := M1 + 5) (by omega) ?_); intro b9 A9; change Code.wp _ _ _ _ _
  clear B9
  refine wp_seq (tn2i (j := 7) (o1 := 2) (o2 := 5) (z := M1 + 5) A9 H3 hlt (by decide) (by kernel_rfl) (by kernel_rfl) rfl Try.underlying3 (by kernel_rfl) rfl (HI1.out 5 rfl) ?_); intro a10 B10; change Code.wp _ _ _ _ _
  clear A9
  refine wp_seq (st_inc B10 (by omega) (by decide) (z' := M1 + 6) (by omega) ?_); intro b10 A10; change Code.wp _ _ _ _ _
  clear B10
  refine wp_seq (tn2b (j := 8) (o1 := 2) (o2 := 6) (z := M1 + 6) A10 H3 hlt (by omega) (by decide) (by kernel_rfl) (by kernel_rfl) rfl Try.underlying4 (by kernel_rfl) rfl Try.underlying4 (HB1.out 6 rfl) ?_); intro a11 B11; change Code.wp _ _ _ _ _
  clear A10
  refine wp_seq (st_inc B11 (by omega) (by decide) (z' := M1 + 7) (by omega) ?_); intro b11 A11; change Code.wp _ _ _ _ _
  clear B11
  refine wp_seq (tn2b (j := 9) (o1 := 2) (o2 := 7) (z := M1 + 7) A11 H3 hlt (by omega) (by decide) (by kernel_rfl) (by kernel_rfl) rfl Try.underlying4 (by kernel_rfl) rfl Try.underlying4 (HB1.out 7 rfl) ?_); intro a12 B12; change Code.wp _ _ _ _ _
  clear A11
  refine wp_seq (st_inc B12 (by omega) (by decide) (z' := M1 + 8) (by omega) ?_); intro b12 A12; change Code.wp _ _ _ _ _
  clear B12
  refine wp_seq (tn2i (j := 10) (o1 := 2) (o2 := 8) (z := M1 + 8) A12 H3 hlt (by decide) (by kernel_rfl) (by kernel_rfl) rfl Try.underlying3 (by kernel_rfl) rfl (HI1.out 8 rfl) ?_); intro a13 B13; change Code.wp _ _ _ _ _
  clear A12
  refine wp_seq (st_inc B13 (by omega) (by decide) (z' := M1 + 9) (by omega) ?_); intro b13 A13; change Code.wp _ _ _ _ _
  clear B13
  refine wp_seq (tn2i (j := 11) (o1 := 2) (o2 := 9) (z := M1 + 9) A13 H3 hlt (by decide) (by kernel_rfl) (by kernel_rfl) rfl Try.underlying3 (by kernel_rfl) rfl (HI1.out 9 rfl) ?_); intro a14 B14; change Code.wp _ _ _ _ _
  clear A13
  refine wp_seq (st_inc B14 (by omega) (by decide) (z' := M1 + 10) (by omega) ?_); intro b14 A14; change Code.wp _ _ _ _ _
  clear B14
  refine wp_seq (tn2i (j := 12) (o1 := 2) (o2 := 10) (z := M1 + 10) A14 H3 hlt (by decide) (by kernel_rfl) (by kernel_rfl) rfl Try.underlying3 (by kernel_rfl) rfl (HI1.out 10 rfl) ?_); intro a15 B15; change Code.wp _ _ _ _ _
  clear A14
  refine wp_seq (st_inc B15 (by omega) (by decide) (z' := M1 + 11) (by omega) ?_); intro b15 A15; change Code.wp _ _ _ _ _
  clear B15
  refine wp_seq (tn3i (j := 13) (o1 := 2) (o2 := 11) (o3 := 0) (z := M1 + 11) A15 H3 hlt (by decide) (by kernel_rfl) (by kernel_rfl) (by kernel_rfl) rfl Try.underlying3 (by kernel_rfl) rfl (HI1.out 11 rfl) ?_); intro a16 B16; change Code.wp _ _ _ _ _
  clear A15
  refine wp_seq (st_inc B16 (by omega) (by decide) (z' := M1 + 12) (by omega) ?_); intro b16 A16; change Code.wp _ _ _ _ _
  clear B16
  refine wp_seq (tn3i (j := 14) (o1 := 2) (o2 := 11) (o3 := 1) (z := M1 + 12) A16 H3 hlt (by decide) (by kernel_rfl) (by kernel_rfl) (by kernel_rfl) rfl Try.underlying3 (by kernel_rfl) rfl (HI1.out 12 rfl) ?_); intro a17 B17; change Code.wp _ _ _ _ _
  clear A16
  refine wp_seq (st_inc B17 (by omega) (by decide) (z' := M1 + 13) (by omega) ?_); intro b17 A17; change Code.wp _ _ _ _ _
  clear B17
  refine wp_seq (tn3i (j := 15) (o1 := 2) (o2 := 13) (o3 := 0) (z := M1 + 13) A17 H3 hlt (by decide) (by kernel_rfl) (by kernel_rfl) (by kernel_rfl) rfl Try.underlying3 (by kernel_rfl) rfl (HI1.out 13 rfl) ?_); intro a18 B18; change Code.wp _ _ _ _ _
  clear A17
  refine wp_seq (st_inc B18 (by omega) (by decide) (z' := M1 + 14) (by omega) ?_); intro b18 A18; change Code.wp _ _ _ _ _
  clear B18
  refine wp_seq (tn3i (j := 16) (o1 := 2) (o2 := 13) (o3 := 1) (z := M1 + 14) A18 H3 hlt (by decide) (by kernel_rfl) (by kernel_rfl) (by kernel_rfl) rfl Try.underlying3 (by kernel_rfl) rfl (HI1.out 14 rfl) ?_); intro a19 B19; change Code.wp _ _ _ _ _
  clear A18
  refine wp_seq (st_inc B19 (by omega) (by decide) (z' := M1 + 15) (by omega) ?_); intro b19 A19; change Code.wp _ _ _ _ _
  clear B19
  refine wp_seq (tn3i (j := 17) (o1 := 2) (o2 := 15) (o3 := 0) (z := M1 + 15) A19 H3 hlt (by decide) (by kernel_rfl) (by kernel_rfl) (by kernel_rfl) rfl Try.underlying3 (by kernel_rfl) rfl (HI1.out 15 rfl) ?_); intro a20 B20; change Code.wp _ _ _ _ _
  clear A19
  refine wp_seq (st_inc B20 (by omega) (by decide) (z' := M1 + 16) (by omega) ?_); intro b20 A20; change Code.wp _ _ _ _ _
  clear B20
  refine wp_seq (tn3i (j := 18) (o1 := 2) (o2 := 15) (o3 := 1) (z := M1 + 16) A20 H3 hlt (by decide) (by kernel_rfl) (by kernel_rfl) (by kernel_rfl) rfl Try.underlying3 (by kernel_rfl) rfl (HI1.out 16 rfl) ?_); intro a21 B21; change Code.wp _ _ _ _ _
  clear A20
  refine wp_seq (st_inc B21 (by omega) (by decide) (z' := M1 + 17) (by omega) ?_); intro b21 A21; change Code.wp _ _ _ _ _
  clear B21
  refine wp_seq (tn3i (j := 19) (o1 := 2) (o2 := 17) (o3 := 0) (z := M1 + 17) A21 H3 hlt (by decide) (by kernel_rfl) (by kernel_rfl) (by kernel_rfl) rfl Try.underlying3 (by kernel_rfl) rfl (HI1.out 17 rfl) ?_); intro a22 B22; change Code.wp _ _ _ _ _
  clear A21
  refine wp_seq (st_inc B22 (by omega) (by decide) (z' := M1 + 18) (by omega) ?_); intro b22 A22; change Code.wp _ _ _ _ _
  clear B22
  refine wp_seq (tn3i (j := 20) (o1 := 2) (o2 := 17) (o3 := 1) (z := M1 + 18) A22 H3 hlt (by decide) (by kernel_rfl) (by kernel_rfl) (by kernel_rfl) rfl Try.underlying3 (by kernel_rfl) rfl (HI1.out 18 rfl) ?_); intro a23 B23; change Code.wp _ _ _ _ _
  clear A22
  refine wp_seq (st_inc B23 (by omega) (by decide) (z' := M1 + 19) (by omega) ?_); intro b23 A23; change Code.wp _ _ _ _ _
  clear B23
  refine wp_seq (tn3i (j := 21) (o1 := 2) (o2 := 19) (o3 := 0) (z := M1 + 19) A23 H3 hlt (by decide) (by kernel_rfl) (by kernel_rfl) (by kernel_rfl) rfl Try.underlying3 (by kernel_rfl) rfl (HI1.out 19 rfl) ?_); intro a24 B24; change Code.wp _ _ _ _ _
  clear A23
  refine wp_seq (st_inc B24 (by omega) (by decide) (z' := M1 + 20) (by omega) ?_); intro b24 A24; change Code.wp _ _ _ _ _
  clear B24
  refine wp_seq (tn3i (j := 22) (o1 := 2) (o2 := 19) (o3 := 1) (z := M1 + 20) A24 H3 hlt (by decide) (by kernel_rfl) (by kernel_rfl) (by kernel_rfl) rfl Try.underlying3 (by kernel_rfl) rfl (HI1.out 20 rfl) ?_); intro a25 B25; change Code.wp _ _ _ _ _
  clear A24
  refine wp_seq (st_inc B25 (by omega) (by decide) (z' := M1 + 21) (by omega) ?_); intro b25 A25; change Code.wp _ _ _ _ _
  clear B25
  refine wp_seq (tn3i (j := 23) (o1 := 2) (o2 := 21) (o3 := 0) (z := M1 + 21) A25 H3 hlt (by decide) (by kernel_rfl) (by kernel_rfl) (by kernel_rfl) rfl Try.underlying3 (by kernel_rfl) rfl (HI1.out 21 rfl) ?_); intro a26 B26; change Code.wp _ _ _ _ _
  clear A25
  refine wp_seq (st_inc B26 (by omega) (by decide) (z' := M1 + 22) (by omega) ?_); intro b26 A26; change Code.wp _ _ _ _ _
  clear B26
  refine wp_seq (tn3i (j := 24) (o1 := 2) (o2 := 21) (o3 := 1) (z := M1 + 22) A26 H3 hlt (by decide) (by kernel_rfl) (by kernel_rfl) (by kernel_rfl) rfl Try.underlying3 (by kernel_rfl) rfl (HI1.out 22 rfl) ?_); intro a27 B27; change Code.wp _ _ _ _ _
  clear A26
  refine wp_seq (st_inc B27 (by omega) (by decide) (z' := M1 + 23) (by omega) ?_); intro b27 A27; change Code.wp _ _ _ _ _
  clear B27
  refine wp_seq (tn3i (j := 25) (o1 := 2) (o2 := 23) (o3 := 0) (z := M1 + 23) A27 H3 hlt (by decide) (by kernel_rfl) (by kernel_rfl) (by kernel_rfl) rfl Try.underlying3 (by kernel_rfl) rfl (HI1.out 23 rfl) ?_); intro a28 B28; change Code.wp _ _ _ _ _
  clear A27
  refine wp_seq (st_inc B28 (by omega) (by decide) (z' := M1 + 24) (by omega) ?_); intro b28 A28; change Code.wp _ _ _ _ _
  clear B28
  refine wp_seq (tn3i (j := 26) (o1 := 2) (o2 := 23) (o3 := 1) (z := M1 + 24) A28 H3 hlt (by decide) (by kernel_rfl) (by kernel_rfl) (by kernel_rfl) rfl Try.underlying3 (by kernel_rfl) rfl (HI1.out 24 rfl) ?_); intro a29 B29; change Code.wp _ _ _ _ _
  clear A28
  refine wp_seq (st_inc B29 (by omega) (by decide) (z' := M1 + 25) (by omega) ?_); intro b29 A29; change Code.wp _ _ _ _ _
  clear B29
  refine wp_seq (tn2i (j := 27) (o1 := 2) (o2 := 25) (z := M1 + 25) A29 H3 hlt (by decide) (by kernel_rfl) (by kernel_rfl) rfl Try.underlying3 (by kernel_rfl) rfl (HI1.out 25 rfl) ?_); intro a30 B30; change Code.wp _ _ _ _ _
  clear A29
  refine wp_seq (st_inc B30 (by omega) (by decide) (z' := M1 + 26) (by omega) ?_); intro b30 A30; change Code.wp _ _ _ _ _
  clear B30
  refine wp_seq (tn4i (j := 28) (o1 := 2) (o2 := 26) (o3 := 0) (o4 := 0) (z := M1 + 26) A30 H3 hlt (by decide) (by kernel_rfl) (by kernel_rfl) (by kernel_rfl) (by kernel_rfl) rfl Try.underlying3 (by kernel_rfl) rfl (HI1.out 26 rfl) ?_); intro a31 B31; change Code.wp _ _ _ _ _
  clear A30
  refine wp_seq (st_inc B31 (by omega) (by decide) (z' := M1 + 27) (by omega) ?_); intro b31 A31; change Code.wp _ _ _ _ _
  clear B31
  refine wp_seq (tn4i (j := 29) (o1 := 2) (o2 := 26) (o3 := 0) (o4 := 1) (z := M1 + 27) A31 H3 hlt (by decide) (by kernel_rfl) (by kernel_rfl) (by kernel_rfl) (by kernel_rfl) rfl Try.underlying3 (by kernel_rfl) rfl (HI1.out 27 rfl) ?_); intro a32 B32; change Code.wp _ _ _ _ _
  clear A31
  refine wp_seq (st_inc B32 (by omega) (by decide) (z' := M1 + 28) (by omega) ?_); intro b32 A32; change Code.wp _ _ _ _ _
  clear B32
  refine wp_seq (tn4i (j := 30) (o1 := 2) (o2 := 26) (o3 := 2) (o4 := 0) (z := M1 + 28) A32 H3 hlt (by decide) (by kernel_rfl) (by kernel_rfl) (by kernel_rfl) (by kernel_rfl) rfl Try.underlying3 (by kernel_rfl) rfl (HI1.out 28 rfl) ?_); intro a33 B33; change Code.wp _ _ _ _ _
  clear A32
  refine wp_seq (st_inc B33 (by omega) (by decide) (z' := M1 + 29) (by omega) ?_); intro b33 A33; change Code.wp _ _ _ _ _
  clear B33
  refine wp_seq (tn4i (j := 31) (o1 := 2) (o2 := 26) (o3 := 2) (o4 := 1) (z := M1 + 29) A33 H3 hlt (by decide) (by kernel_rfl) (by kernel_rfl) (by kernel_rfl) (by kernel_rfl) rfl Try.underlying3 (by kernel_rfl) rfl (HI1.out 29 rfl) ?_); intro a34 B34; change Code.wp _ _ _ _ _
  clear A33
  refine wp_seq (st_inc B34 (by omega) (by decide) (z' := M1 + 30) (by omega) ?_); intro b34 A34; change Code.wp _ _ _ _ _
  clear B34
  refine wp_seq (tn4i (j := 32) (o1 := 2) (o2 := 26) (o3 := 4) (o4 := 0) (z := M1 + 30) A34 H3 hlt (by decide) (by kernel_rfl) (by kernel_rfl) (by kernel_rfl) (by kernel_rfl) rfl Try.underlying3 (by kernel_rfl) rfl (HI1.out 30 rfl) ?_); intro a35 B35; change Code.wp _ _ _ _ _
  clear A34
  refine wp_seq (st_inc B35 (by omega) (by decide) (z' := M1 + 31) (by omega) ?_); intro b35 A35; change Code.wp _ _ _ _ _
  clear B35
  refine wp_seq (tn4i (j := 33) (o1 := 2) (o2 := 26) (o3 := 4) (o4 := 1) (z := M1 + 31) A35 H3 hlt (by decide) (by kernel_rfl) (by kernel_rfl) (by kernel_rfl) (by kernel_rfl) rfl Try.underlying3 (by kernel_rfl) rfl (HI1.out 31 rfl) ?_); intro a36 B36; change Code.wp _ _ _ _ _
  clear A35
  refine wp_seq (st_inc B36 (by omega) (by decide) (z' := M1 + 32) (by omega) ?_); intro b36 A36; change Code.wp _ _ _ _ _
  clear B36
  refine wp_seq (tn4i (j := 34) (o1 := 2) (o2 := 26) (o3 := 6) (o4 := 0) (z := M1 + 32) A36 H3 hlt (by decide) (by kernel_rfl) (by kernel_rfl) (by kernel_rfl) (by kernel_rfl) rfl Try.underlying3 (by kernel_rfl) rfl (HI1.out 32 rfl) ?_); intro a37 B37; change Code.wp _ _ _ _ _
  clear A36
  refine wp_seq (st_inc B37 (by omega) (by decide) (z' := M1 + 33) (by omega) ?_); intro b37 A37; change Code.wp _ _ _ _ _
  clear B37
  refine wp_seq (tn4i (j := 35) (o1 := 2) (o2 := 26) (o3 := 6) (o4 := 1) (z := M1 + 33) A37 H3 hlt (by decide) (by kernel_rfl) (by kernel_rfl) (by kernel_rfl) (by kernel_rfl) rfl Try.underlying3 (by kernel_rfl) rfl (HI1.out 33 rfl) ?_); intro a38 B38; change Code.wp _ _ _ _ _
  clear A37
  refine wp_seq (st_inc B38 (by omega) (by decide) (z' := M1 + 34) (by omega) ?_); intro b38 A38; change Code.wp _ _ _ _ _
  clear B38
  refine wp_seq (tn4i (j := 36) (o1 := 2) (o2 := 26) (o3 := 8) (o4 := 0) (z := M1 + 34) A38 H3 hlt (by decide) (by kernel_rfl) (by kernel_rfl) (by kernel_rfl) (by kernel_rfl) rfl Try.underlying3 (by kernel_rfl) rfl (HI1.out 34 rfl) ?_); intro a39 B39; change Code.wp _ _ _ _ _
  clear A38
  refine wp_seq (st_inc B39 (by omega) (by decide) (z' := M1 + 35) (by omega) ?_); intro b39 A39; change Code.wp _ _ _ _ _
  clear B39
  refine wp_seq (tn4i (j := 37) (o1 := 2) (o2 := 26) (o3 := 8) (o4 := 1) (z := M1 + 35) A39 H3 hlt (by decide) (by kernel_rfl) (by kernel_rfl) (by kernel_rfl) (by kernel_rfl) rfl Try.underlying3 (by kernel_rfl) rfl (HI1.out 35 rfl) ?_); intro a40 B40; change Code.wp _ _ _ _ _
  clear A39
  refine wp_seq (st_inc B40 (by omega) (by decide) (z' := M1 + 36) (by omega) ?_); intro b40 A40; change Code.wp _ _ _ _ _
  clear B40
  refine wp_seq (tn4i (j := 38) (o1 := 2) (o2 := 26) (o3 := 10) (o4 := 0) (z := M1 + 36) A40 H3 hlt (by decide) (by kernel_rfl) (by kernel_rfl) (by kernel_rfl) (by kernel_rfl) rfl Try.underlying3 (by kernel_rfl) rfl (HI1.out 36 rfl) ?_); intro a41 B41; change Code.wp _ _ _ _ _
  clear A40
  refine wp_seq (st_inc B41 (by omega) (by decide) (z' := M1 + 37) (by omega) ?_); intro b41 A41; change Code.wp _ _ _ _ _
  clear B41
  refine wp_seq (tn4i (j := 39) (o1 := 2) (o2 := 26) (o3 := 10) (o4 := 1) (z := M1 + 37) A41 H3 hlt (by decide) (by kernel_rfl) (by kernel_rfl) (by kernel_rfl) (by kernel_rfl) rfl Try.underlying3 (by kernel_rfl) rfl (HI1.out 37 rfl) ?_); intro a42 B42; change Code.wp _ _ _ _ _
  clear A41
  refine wp_seq (st_inc B42 (by omega) (by decide) (z' := M1 + 38) (by omega) ?_); intro b42 A42; change Code.wp _ _ _ _ _
  clear B42
  refine wp_seq (tn4i (j := 40) (o1 := 2) (o2 := 38) (o3 := 0) (o4 := 0) (z := M1 + 38) A42 H3 hlt (by decide) (by kernel_rfl) (by kernel_rfl) (by kernel_rfl) (by kernel_rfl) rfl Try.underlying3 (by kernel_rfl) rfl (HI1.out 38 rfl) ?_); intro a43 B43; change Code.wp _ _ _ _ _
  clear A42
  refine wp_seq (st_inc B43 (by omega) (by decide) (z' := M1 + 39) (by omega) ?_); intro b43 A43; change Code.wp _ _ _ _ _
  clear B43
  refine wp_seq (tn4i (j := 41) (o1 := 2) (o2 := 38) (o3 := 0) (o4 := 1) (z := M1 + 39) A43 H3 hlt (by decide) (by kernel_rfl) (by kernel_rfl) (by kernel_rfl) (by kernel_rfl) rfl Try.underlying3 (by kernel_rfl) rfl (HI1.out 39 rfl) ?_); intro a44 B44; change Code.wp _ _ _ _ _
  clear A43
  refine wp_seq (st_inc B44 (by omega) (by decide) (z' := M1 + 40) (by omega) ?_); intro b44 A44; change Code.wp _ _ _ _ _
  clear B44
  refine wp_seq (tn4i (j := 42) (o1 := 2) (o2 := 38) (o3 := 2) (o4 := 0) (z := M1 + 40) A44 H3 hlt (by decide) (by kernel_rfl) (by kernel_rfl) (by kernel_rfl) (by kernel_rfl) rfl Try.underlying3 (by kernel_rfl) rfl (HI1.out 40 rfl) ?_); intro a45 B45; change Code.wp _ _ _ _ _
  clear A44
  refine wp_seq (st_inc B45 (by omega) (by decide) (z' := M1 + 41) (by omega) ?_); intro b45 A45; change Code.wp _ _ _ _ _
  clear B45
  refine wp_seq (tn4i (j := 43) (o1 := 2) (o2 := 38) (o3 := 2) (o4 := 1) (z := M1 + 41) A45 H3 hlt (by decide) (by kernel_rfl) (by kernel_rfl) (by kernel_rfl) (by kernel_rfl) rfl Try.underlying3 (by kernel_rfl) rfl (HI1.out 41 rfl) ?_); intro a46 B46; change Code.wp _ _ _ _ _
  clear A45
  refine wp_seq (st_inc B46 (by omega) (by decide) (z' := M1 + 42) (by omega) ?_); intro b46 A46; change Code.wp _ _ _ _ _
  clear B46
  refine wp_seq (tn4i (j := 44) (o1 := 2) (o2 := 38) (o3 := 4) (o4 := 0) (z := M1 + 42) A46 H3 hlt (by decide) (by kernel_rfl) (by kernel_rfl) (by kernel_rfl) (by kernel_rfl) rfl Try.underlying3 (by kernel_rfl) rfl (HI1.out 42 rfl) ?_); intro a47 B47; change Code.wp _ _ _ _ _
  clear A46
  refine wp_seq (st_inc B47 (by omega) (by decide) (z' := M1 + 43) (by omega) ?_); intro b47 A47; change Code.wp _ _ _ _ _
  clear B47
  refine wp_seq (tn4i (j := 45) (o1 := 2) (o2 := 38) (o3 := 4) (o4 := 1) (z := M1 + 43) A47 H3 hlt (by decide) (by kernel_rfl) (by kernel_rfl) (by kernel_rfl) (by kernel_rfl) rfl Try.underlying3 (by kernel_rfl) rfl (HI1.out 43 rfl) ?_); intro a48 B48; change Code.wp _ _ _ _ _
  clear A47
  refine wp_seq (st_inc B48 (by omega) (by decide) (z' := M1 + 44) (by omega) ?_); intro b48 A48; change Code.wp _ _ _ _ _
  clear B48
  refine wp_seq (tn4i (j := 46) (o1 := 2) (o2 := 38) (o3 := 6) (o4 := 0) (z := M1 + 44) A48 H3 hlt (by decide) (by kernel_rfl) (by kernel_rfl) (by kernel_rfl) (by kernel_rfl) rfl Try.underlying3 (by kernel_rfl) rfl (HI1.out 44 rfl) ?_); intro a49 B49; change Code.wp _ _ _ _ _
  clear A48
  refine wp_seq (st_inc B49 (by omega) (by decide) (z' := M1 + 45) (by omega) ?_); intro b49 A49; change Code.wp _ _ _ _ _
  clear B49
  refine wp_seq (tn4i (j := 47) (o1 := 2) (o2 := 38) (o3 := 6) (o4 := 1) (z := M1 + 45) A49 H3 hlt (by decide) (by kernel_rfl) (by kernel_rfl) (by kernel_rfl) (by kernel_rfl) rfl Try.underlying3 (by kernel_rfl) rfl (HI1.out 45 rfl) ?_); intro a50 B50; change Code.wp _ _ _ _ _
  clear A49
  refine wp_seq (st_inc B50 (by omega) (by decide) (z' := M1 + 46) (by omega) ?_); intro b50 A50; change Code.wp _ _ _ _ _
  clear B50
  refine wp_seq (tn4i (j := 48) (o1 := 2) (o2 := 38) (o3 := 8) (o4 := 0) (z := M1 + 46) A50 H3 hlt (by decide) (by kernel_rfl) (by kernel_rfl) (by kernel_rfl) (by kernel_rfl) rfl Try.underlying3 (by kernel_rfl) rfl (HI1.out 46 rfl) ?_); intro a51 B51; change Code.wp _ _ _ _ _
  clear A50
  refine wp_seq (st_inc B51 (by omega) (by decide) (z' := M1 + 47) (by omega) ?_); intro b51 A51; change Code.wp _ _ _ _ _
  clear B51
  refine wp_seq (tn4i (j := 49) (o1 := 2) (o2 := 38) (o3 := 8) (o4 := 1) (z := M1 + 47) A51 H3 hlt (by decide) (by kernel_rfl) (by kernel_rfl) (by kernel_rfl) (by kernel_rfl) rfl Try.underlying3 (by kernel_rfl) rfl (HI1.out 47 rfl) ?_); intro a52 B52; change Code.wp _ _ _ _ _
  clear A51
  refine wp_seq (st_inc B52 (by omega) (by decide) (z' := M1 + 48) (by omega) ?_); intro b52 A52; change Code.wp _ _ _ _ _
  clear B52
  refine wp_seq (tn4i (j := 50) (o1 := 2) (o2 := 38) (o3 := 10) (o4 := 0) (z := M1 + 48) A52 H3 hlt (by decide) (by kernel_rfl) (by kernel_rfl) (by kernel_rfl) (by kernel_rfl) rfl Try.underlying3 (by kernel_rfl) rfl (HI1.out 48 rfl) ?_); intro a53 B53; change Code.wp _ _ _ _ _
  clear A52
  refine wp_seq (st_inc B53 (by omega) (by decide) (z' := M1 + 49) (by omega) ?_); intro b53 A53; change Code.wp _ _ _ _ _
  clear B53
  refine wp_seq (tn4i (j := 51) (o1 := 2) (o2 := 38) (o3 := 10) (o4 := 1) (z := M1 + 49) A53 H3 hlt (by decide) (by kernel_rfl) (by kernel_rfl) (by kernel_rfl) (by kernel_rfl) rfl Try.underlying3 (by kernel_rfl) rfl (HI1.out 49 rfl) ?_); intro a54 B54; change Code.wp _ _ _ _ _
  clear A53
  refine wp_seq (st_inc B54 (by omega) (by decide) (z' := M1 + 50) (by omega) ?_); intro b54 A54; change Code.wp _ _ _ _ _
  clear B54
  refine wp_seq (tn3i (j := 52) (o1 := 2) (o2 := 50) (o3 := 0) (z := M1 + 50) A54 H3 hlt (by decide) (by kernel_rfl) (by kernel_rfl) (by kernel_rfl) rfl Try.underlying3 (by kernel_rfl) rfl (HI1.out 50 rfl) ?_); intro a55 B55; change Code.wp _ _ _ _ _
  clear A54
  refine wp_seq (st_inc B55 (by omega) (by decide) (z' := M1 + 51) (by omega) ?_); intro b55 A55; change Code.wp _ _ _ _ _
  clear B55
  refine wp_seq (tn3i (j := 53) (o1 := 2) (o2 := 50) (o3 := 1) (z := M1 + 51) A55 H3 hlt (by decide) (by kernel_rfl) (by kernel_rfl) (by kernel_rfl) rfl Try.underlying3 (by kernel_rfl) rfl (HI1.out 51 rfl) ?_); intro a56 B56; change Code.wp _ _ _ _ _
  clear A55
  refine wp_seq (st_inc B56 (by omega) (by decide) (z' := M1 + 52) (by omega) ?_); intro b56 A56; change Code.wp _ _ _ _ _
  clear B56
  refine wp_seq (tn3i (j := 54) (o1 := 2) (o2 := 50) (o3 := 2) (z := M1 + 52) A56 H3 hlt (by decide) (by kernel_rfl) (by kernel_rfl) (by kernel_rfl) rfl Try.underlying3 (by kernel_rfl) rfl (HI1.out 52 rfl) ?_); intro a57 B57; change Code.wp _ _ _ _ _
  clear A56
  refine wp_seq (st_inc B57 (by omega) (by decide) (z' := M1 + 53) (by omega) ?_); intro b57 A57; change Code.wp _ _ _ _ _
  clear B57
  refine wp_seq (tn3i (j := 55) (o1 := 2) (o2 := 50) (o3 := 3) (z := M1 + 53) A57 H3 hlt (by decide) (by kernel_rfl) (by kernel_rfl) (by kernel_rfl) rfl Try.underlying3 (by kernel_rfl) rfl (HI1.out 53 rfl) ?_); intro a58 B58; change Code.wp _ _ _ _ _
  clear A57
  refine wp_seq (st_inc B58 (by omega) (by decide) (z' := M1 + 54) (by omega) ?_); intro b58 A58; change Code.wp _ _ _ _ _
  clear B58
  refine wp_seq (tn3i (j := 56) (o1 := 2) (o2 := 54) (o3 := 0) (z := M1 + 54) A58 H3 hlt (by decide) (by kernel_rfl) (by kernel_rfl) (by kernel_rfl) rfl Try.underlying3 (by kernel_rfl) rfl (HI1.out 54 rfl) ?_); intro a59 B59; change Code.wp _ _ _ _ _
  clear A58
  refine wp_seq (st_inc B59 (by omega) (by decide) (z' := M1 + 55) (by omega) ?_); intro b59 A59; change Code.wp _ _ _ _ _
  clear B59
  refine wp_seq (tn3i (j := 57) (o1 := 2) (o2 := 54) (o3 := 1) (z := M1 + 55) A59 H3 hlt (by decide) (by kernel_rfl) (by kernel_rfl) (by kernel_rfl) rfl Try.underlying3 (by kernel_rfl) rfl (HI1.out 55 rfl) ?_); intro a60 B60; change Code.wp _ _ _ _ _
  clear A59
  refine wp_seq (st_inc B60 (by omega) (by decide) (z' := M1 + 56) (by omega) ?_); intro b60 A60; change Code.wp _ _ _ _ _
  clear B60
  refine wp_seq (tn3i (j := 58) (o1 := 2) (o2 := 54) (o3 := 2) (z := M1 + 56) A60 H3 hlt (by decide) (by kernel_rfl) (by kernel_rfl) (by kernel_rfl) rfl Try.underlying3 (by kernel_rfl) rfl (HI1.out 56 rfl) ?_); intro a61 B61; change Code.wp _ _ _ _ _
  clear A60
  refine wp_seq (st_inc B61 (by omega) (by decide) (z' := M1 + 57) (by omega) ?_); intro b61 A61; change Code.wp _ _ _ _ _
  clear B61
  refine wp_seq (tn3i (j := 59) (o1 := 2) (o2 := 54) (o3 := 3) (z := M1 + 57) A61 H3 hlt (by decide) (by kernel_rfl) (by kernel_rfl) (by kernel_rfl) rfl Try.underlying3 (by kernel_rfl) rfl (HI1.out 57 rfl) ?_); intro a62 B62; change Code.wp _ _ _ _ _
  clear A61
  refine wp_seq (st_inc B62 (by omega) (by decide) (z' := M1 + 58) (by omega) ?_); intro b62 A62; change Code.wp _ _ _ _ _
  clear B62
  refine wp_seq (tn2i (j := 60) (o1 := 2) (o2 := 58) (z := M1 + 58) A62 H3 hlt (by decide) (by kernel_rfl) (by kernel_rfl) rfl Try.underlying3 (by kernel_rfl) rfl (HI1.out 58 rfl) ?_); intro a63 B63; change Code.wp _ _ _ _ _
  clear A62
  refine wp_seq (st_inc B63 (by omega) (by decide) (z' := M1 + 59) (by omega) ?_); intro b63 A63; change Code.wp _ _ _ _ _
  clear B63
  refine wp_seq (tn2i (j := 61) (o1 := 2) (o2 := 59) (z := M1 + 59) A63 H3 hlt (by decide) (by kernel_rfl) (by kernel_rfl) rfl Try.underlying3 (by kernel_rfl) rfl (HI1.out 59 rfl) ?_); intro a64 B64; change Code.wp _ _ _ _ _
  clear A63
  refine wp_seq (st_inc B64 (by omega) (by decide) (z' := M1 + 60) (by omega) ?_); intro b64 A64; change Code.wp _ _ _ _ _
  clear B64
  refine wp_seq (tn1b (j := 62) (o1 := 62) (z := M1 + 60) A64 H3 hlt (by omega) (by decide) (by kernel_rfl) rfl Try.underlying4 (by kernel_rfl) rfl Try.underlying4 l62 ?_); intro a65 B65; change Code.wp _ _ _ _ _
  refine wp_seq (st_inc B65 (by omega) (by decide) (z' := M1 + 61) (by omega) ?_); intro b65 A65; change Code.wp _ _ _ _ _
  have hcR := H3.out 63 _ l63
  refine wp_seq (stc2 (j := 63) (o1 := 63) (o2 := 0) (z := M1 + 61) (R := fun z' w' => z' = M1 + 61 + 3 * (x.rules.length : Int) ∧ Bel w3 w') A65 hlt (by decide) (by kernel_rfl) (by kernel_rfl) rfl hcR Try.underlying43 (by kernel_rfl) rfl (run_callFunc Try.func84 (by kernel_rfl) rfl)
    ((heldRuleS_c Rr cr x.rules.length (M1 + 61) w3 HRR.out (by omega) (by omega)).mono (by rintro e w' ⟨rfl, hb⟩; exact ⟨_, rfl, rfl, hb⟩)) ?_)
  rintro a z w' ⟨rfl, hb⟩ A; change Code.wp _ _ _ _ _
  refine tlt A (by omega) (by decide) ?_; clear A; intro a' A
  exact next a' w' (by rw [← HM1.out]; exact A) (hb3.trans hb)
noncomputable def heldCode : Code := ((Try.f62).body).getD .skip
set_option maxRecDepth 1000000 in
set_option maxRecDepth 100000 in
set_option maxHeartbeats 4000000 in
theorem heldNodeS_c (base : Nat) (v : Value) (T : List NodeD) (KS RS : List Value) (R : List Row) (m : Int) (w : World) (h1 : KS.length = T.length) (h2 : RS.length = T.length) (hF : Fam w base (treeF v (markT m T) KS RS ++ R)) (hn : treeSz T ≤ 1048576) (hm : 0 ≤ m ∧ m ≤ 1048576) :
    Calls Try.prog 62 #[v, .int .i64 m] w fun e w' => e = .returned (.int .i64 (m + (markAll T : Int))) ∧ Bel w w' := by
  have hT : T.length ≤ 1048576 := by unfold treeSz at hn; omega
  have hms := markAll_small hn
  have hXl := markT_length m T
  have hA : TreeAt w base v (markT m T) := ⟨KS, RS, by rw [hXl]; exact h1, by rw [hXl]; exact h2, hF.left⟩
  obtain ⟨S, c, rfl, hc1, hc2, -, hI⟩ := hA.nodes
  rw [hXl]
  refine calls_of_wp (c := heldCode) Try.func62 rfl ?_
  have A0 : AS ⟨#[.slice S T.length c, .int .i64 m] ++ Array.replicate ((Try.f62).ntmps - (#[Value.slice S T.length c, Value.int .i64 m]).size) undef, []⟩ 726 (.slice S T.length c) undef (.int .i64 m) := by
    rw [Try.ntmps62]
    exact frame_AS 720 _ _
  generalize (⟨#[.slice S T.length c, .int .i64 m] ++ Array.replicate ((Try.f62).ntmps - (#[Value.slice S T.length c, Value.int .i64 m]).size) undef, []⟩ : Act) = a0 at A0 ⊢
  conv => arg 2; whnf
  refine wp_seq (st_set4 A0 (by decide) ?_); intro a1 A1 _; change Code.wp _ _ _ _ _
  refine wp_seq ?_
  refine wp_seq (st_set5 A1 (by decide) ?_); intro a2 A2; change Code.wp _ _ _ _ _
  refine wp_block ?_
  refine wp_loop (fun a wr => ∃ k : Nat, k ≤ T.length ∧ AS a 726 (.slice S T.length c) (.int .i64 (k : Int)) (.int .i64 (m + (markTo T k : Int))) ∧ Bel w wr)
    (fun a _ => T.length - (intOf (a.eval (.tmp 5))).toNat) ?_ ?_
  · exact ⟨0, Nat.zero_le _, by rw [show m + (markTo T 0 : Int) = m by simp [markTo]]; exact A2, Bel.refl w⟩
  · rintro a wr ⟨k, hk, A, hb⟩
    have hi5 : intOf (a.eval (.tmp 5)) = (k : Int) := by rw [A.t5]; rfl
    refine wp_seq (wp_seq (st_test A (by decide) Try.underlying28 ?_)); intro a3 A3 h9; change Code.wp _ _ _ _ _
    by_cases hlt : k < T.length
    · refine wp_cond (t := true) (by rw [h9, decide_eq_true hlt]) ?_
      refine wp_skip ?_
      change Code.wp _ _ _ _ _
      obtain ⟨b, o, rfl, hbl, hRg⟩ := hI k (by rw [hXl]; exact hlt)
      obtain ⟨L, ⟨K, ck, Rr, cr, rfl, hKI, hRI, -, -⟩, hrg⟩ := hRg k (by rw [hXl]; exact hlt)
      have hms2 := markTo_le T (k + 1)
      have hms3 := markTo_succ hlt
      have hxk : node_ (markT m T) k = markNode (m + (markTo T k : Int)) (node_ T k) := markT_at m hlt
      rw [hxk] at hKI hRI hrg
      have hl1 : (markNode (m + (markTo T k : Int)) (node_ T k)).kids.length = (node_ T k).kids.length := marks_length _ _
      have hl2 : (markNode (m + (markTo T k : Int)) (node_ T k)).rules.length = (node_ T k).rules.length := marksR_length _ _ _
      rw [hl1, hl2] at hrg
      have hnz : nodeSz (node_ T k) ≤ 1048576 := Nat.le_trans (nodeSz_le hlt) hn
      obtain ⟨hk1, hk2⟩ : (node_ T k).kids.length ≤ 1048576 ∧ (node_ T k).rules.length ≤ 1048576 := by unfold nodeSz at hnz; omega
      obtain rfl : o = 0 := own_off (hF.1 ⟨77, 64, .slice (some ⟨b, o, none⟩) (markT m T).length c, (markT m T).length, nodesL KS RS (markT m T)⟩ List.mem_cons_self) (by omega)
      rw [Nat.zero_add] at hrg
      refine wp_seq (wp_block ?_)
      refine held_one (M := m + (markTo T k : Int)) (x := node_ T k) (K := K) (Rr := Rr) (ck := ck) (cr := cr) A3 (hid' (range_bel hrg hb hbl)) (Nat.lt_of_lt_of_le hbl hb.sz) hlt (hid' rfl) (hKI.keep hb) (hRI.keep hb) (by omega) hk1 hk2 ?_
      intro a4 w4 A4 hb4
      change Code.wp _ _ _ _ _
      refine st_inci A4 (by omega) (by decide) ?_
      intro a5 A5
      refine ⟨⟨k + 1, hlt, ?_, hb.trans hb4⟩, ?_⟩
      · have e : m + (markTo T k : Int) + 1 + ((node_ T k).kids.length : Int) + 61 + 3 * ((node_ T k).rules.length : Int) = m + (markTo T (k + 1) : Int) := by rw [hms3]; unfold markSz; omega
        rw [← e]
        exact A5
      · show T.length - (intOf (a5.eval (.tmp 5))).toNat < T.length - (intOf (a.eval (.tmp 5))).toNat
        rw [hi5, A5.t5]
        show T.length - (((k + 1 : Nat) : Int)).toNat < T.length - ((k : Int)).toNat
        omega
    · refine wp_cond (t := false) (by rw [h9, decide_eq_false hlt]) ?_
      refine wp_exit ?_
      change Code.wp _ _ _ _ _
      obtain rfl : k = T.length := by omega
      refine wp_seq (st_ret4 A3 (by decide) ?_); intro a4 A4 h4; change Code.wp _ _ _ _ _
      refine wp_ret ?_
      refine bodyPost_ret (results_tmp rfl _ _ _) A4.df ⟨?_, hb⟩
      show Ending.returned (a4.eval (.tmp 4)) = _
      rw [h4, markTo_all]
set_option maxRecDepth 100000 in
set_option maxHeartbeats 1000000 in
theorem heldTree_c (base : Nat) (A : Option Addr) (c : Nat) (T : List NodeD) (KS RS : List Value) (R : List Row) (m : Int) (w : World) (h1 : KS.length = T.length) (h2 : RS.length = T.length) (hF : Fam w base (treeF (.slice A T.length c) (markT m T) KS RS ++ R)) (hn : treeSz T ≤ 1048576) (hm : 0 ≤ m ∧ m ≤ 1048576) :
    Calls Try.prog 30 #[.agg #[.slice A T.length c], .int .i64 m] w fun e w' => e = .returned (.int .i64 (m + (markAll T : Int))) ∧ Bel w w' := by
  have h' := hF.keep ((Bel.refl w).alloc (.cells #[.slice A T.length c] 30))
  have hnn : ¬ (m + (markAll T : Int) < 0) := by omega
  have hb0 : Bel w (w.alloc (.cells #[.slice A T.length c] 30)) := (Bel.refl w).alloc _
  go_enter Try.func30, Try.ntmps30
  go_wp2_with fail
  refine (heldNodeS_c base _ T KS RS R m _ h1 h2 h' hn hm).mono ?_; rintro e w1 ⟨rfl, hb⟩
  go_wp2_with fail
  go_ret
  exact ⟨rfl, hb0.trans hb⟩
end Go.Proofs.Ytcdneamoemmohaa
