/- A struct in a block of its own, read field by field. -/
import Derived.Test.YtfmijkedhlnccaaStyle
namespace Go.Proofs.Ytfmijkedhlnccaa
open Go.RowKit Go.ChangeShapes Go.WideShapes
set_option linter.unusedVariables false
set_option linter.unusedSimpArgs false

theorem mk_int (s : Nat → Int) (b : Nat → Bool) : ∀ (ks : List Bool) (i o : Nat), ks[o]? = some true → (mk s b i ks)[o]? = some (.int .i64 (s (i + o)))
  | [], _, _, h => by simp at h
  | true :: ks, i, 0, _ => rfl
  | false :: ks, i, 0, h => by simp at h
  | true :: ks, i, o + 1, h => by
    simp only [List.getElem?_cons_succ, mk] at h ⊢
    rw [mk_int s b ks (i + 1) o h, show i + 1 + o = i + (o + 1) by omega]
  | false :: ks, i, o + 1, h => by
    simp only [List.getElem?_cons_succ, mk] at h ⊢
    rw [mk_int s b ks (i + 1) o h, show i + 1 + o = i + (o + 1) by omega]
theorem mk_bool (s : Nat → Int) (b : Nat → Bool) : ∀ (ks : List Bool) (i o : Nat), ks[o]? = some false → (mk s b i ks)[o]? = some (.bool (b (i + o)))
  | [], _, _, h => by simp at h
  | false :: ks, i, 0, _ => rfl
  | true :: ks, i, 0, h => by simp at h
  | true :: ks, i, o + 1, h => by
    simp only [List.getElem?_cons_succ, mk] at h ⊢
    rw [mk_bool s b ks (i + 1) o h, show i + 1 + o = i + (o + 1) by omega]
  | false :: ks, i, o + 1, h => by
    simp only [List.getElem?_cons_succ, mk] at h ⊢
    rw [mk_bool s b ks (i + 1) o h, show i + 1 + o = i + (o + 1) by omega]
theorem rcells_int {ks : List Bool} (r : Rec) {o : Nat} (h : ks[o]? = some true) : (rcells ks r)[o]? = some (.int .i64 (r.s o)) := by
  rw [rcells, mk_int _ _ _ _ _ h, Nat.zero_add]
theorem rcells_bool {ks : List Bool} (r : Rec) {o : Nat} (h : ks[o]? = some false) : (rcells ks r)[o]? = some (.bool (r.b o)) := by
  rw [rcells, mk_bool _ _ _ _ _ h, Nat.zero_add]
theorem rcells_ints {ks : List Bool} (r : Rec) {o n : Nat} (h : (ks.drop o).take n = List.replicate n true) : ((rcells ks r).drop o).take n = (List.range n).map fun j => .int .i64 (r.s (o + j)) := by
  apply List.ext_getElem?
  intro i
  by_cases hi : i < n
  · have h1 : ks[o + i]? = some true := by
      have := congrArg (fun l => l[i]?) h
      simpa [List.getElem?_take, List.getElem?_drop, hi, List.getElem?_replicate] using this
    rw [List.getElem?_take, if_pos hi, List.getElem?_drop, rcells_int r h1]
    simp [hi]
  · rw [List.getElem?_take, if_neg hi]
    simp [hi]

structure Box (w : World) (g : Nat) (S : List Value) : Prop where
  src : w.rangeAt g 0 S
  lt : g < w.heap.size
theorem Box.keep {w w' : World} {g : Nat} {S : List Value} (h : Box w g S) (hb : Bel w w') : Box w' g S := ⟨range_bel h.src hb h.lt, Nat.lt_of_lt_of_le h.lt hb.sz⟩
theorem Box.new (w : World) (S : List Value) (t : TypeId) : Box (w.alloc (.cells S.toArray t)) w.heap.size S := ⟨range_new w S t, by simp⟩
theorem Box.new2 (w : World) (ob : Obj) (S : List Value) (t : TypeId) : Box ((w.alloc ob).alloc (.cells S.toArray t)) (w.heap.size + 1) S := by
  have h := Box.new (w.alloc ob) S t
  rwa [show (w.alloc ob).heap.size = w.heap.size + 1 by simp] at h
section
variable {w : World} {g : Nat} {ks : List Bool} {r : Rec} {ops : Array Oper} {rest : List Oper} {op : Oper} {a : Act} {Q : Exit → Act → World → Prop}
theorem Box.load {S : List Value} (H : Hid (Box w g S)) (hgd : op.guard = none) (ty : TypeId) (x : Operand) (ho : op.op = .load ty x) (o n : Nat) (hx : a.eval x = .pointer (some ⟨g, o, none⟩)) (d : TypeDesc) (hu : Try.prog.underlying ty = some d) (hi : (Try.prog.info? ty).map (·.size) = some n)
    (cs : List Value) (hc : (S.drop o).take n = cs) (hn : cs.length = n) (h1 : d.isRow = true ∨ n = 1) (v : Value) (hv : valOf d cs = v)
    (h : wpList Try.prog ops Q rest (a.put op.dst v) w) : wpList Try.prog ops Q (op :: rest) a w := by
  subst hv
  exact wpList_load_any hgd ty x ho g o hx cs d (by have := range_sub H.out.src o n; rw [Nat.zero_add, hc] at this; exact this) hu (by rw [hn]; exact hi) (by rw [hn]; exact h1) h
theorem Box.int (H : Hid (Box w g (rcells ks r))) (hgd : op.guard = none) (x : Operand) (ho : op.op = .load 3 x) (o : Nat) (hx : a.eval x = .pointer (some ⟨g, o, none⟩)) (hk : ks[o]? = some true)
    (h : wpList Try.prog ops Q rest (a.put op.dst (.int .i64 (r.s o))) w) : wpList Try.prog ops Q (op :: rest) a w :=
  Box.load H hgd 3 x ho o 1 hx _ Try.underlying3 (by kernel_rfl) [.int .i64 (r.s o)] (by
    apply List.ext_getElem?
    intro i
    rw [List.getElem?_take]
    split
    · obtain rfl : i = 0 := by omega
      rw [List.getElem?_drop, Nat.add_zero, rcells_int r hk]; rfl
    · rw [List.getElem?_eq_none (by simp; omega)]) rfl (.inr rfl) _ rfl h
theorem Box.bool (H : Hid (Box w g (rcells ks r))) (hgd : op.guard = none) (x : Operand) (ho : op.op = .load 4 x) (o : Nat) (hx : a.eval x = .pointer (some ⟨g, o, none⟩)) (hk : ks[o]? = some false)
    (h : wpList Try.prog ops Q rest (a.put op.dst (.bool (r.b o))) w) : wpList Try.prog ops Q (op :: rest) a w :=
  Box.load H hgd 4 x ho o 1 hx _ Try.underlying4 (by kernel_rfl) [.bool (r.b o)] (by
    apply List.ext_getElem?
    intro i
    rw [List.getElem?_take]
    split
    · obtain rfl : i = 0 := by omega
      rw [List.getElem?_drop, Nat.add_zero, rcells_bool r hk]; rfl
    · rw [List.getElem?_eq_none (by simp; omega)]) rfl (.inr rfl) _ rfl h
theorem Box.ints (n : Nat) (H : Hid (Box w g (rcells ks r))) (hgd : op.guard = none) (ty : TypeId) (x : Operand) (ho : op.op = .load ty x) (o : Nat) (hx : a.eval x = .pointer (some ⟨g, o, none⟩)) (d : TypeDesc) (hu : Try.prog.underlying ty = some d) (hd : d.isRow = true) (hi : (Try.prog.info? ty).map (·.size) = some n)
    (hk : (ks.drop o).take n = List.replicate n true) (h : wpList Try.prog ops Q rest (a.put op.dst (.agg ((List.range n).map fun j => Value.int .i64 (r.s (o + j))).toArray)) w) : wpList Try.prog ops Q (op :: rest) a w :=
  Box.load H hgd ty x ho o n hx d hu hi _ (rcells_ints r hk) (by simp) (.inl hd) _ (by rw [valOf, if_pos hd]) h
end
def valueV (r : Rec) (o : Nat) : Value := .agg #[.int .i64 (r.s o), .int .i64 (r.s (o + 1))]
def edgesV (r : Rec) (o : Nat) : Value := .agg #[.int .i64 (r.s o), .int .i64 (r.s (o + 1)), .int .i64 (r.s (o + 2)), .int .i64 (r.s (o + 3))]
def sidesV (r : Rec) (o : Nat) : Value := .agg #[.int .i64 (r.s o), .int .i64 (r.s (o + 1)), .int .i64 (r.s (o + 2)), .int .i64 (r.s (o + 3)), .int .i64 (r.s (o + 4)), .int .i64 (r.s (o + 5)), .int .i64 (r.s (o + 6)), .int .i64 (r.s (o + 7)), .int .i64 (r.s (o + 8)), .int .i64 (r.s (o + 9)), .int .i64 (r.s (o + 10)), .int .i64 (r.s (o + 11))]

end Go.Proofs.Ytfmijkedhlnccaa
