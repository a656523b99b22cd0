/- Plain lemmas without the program: worlds that keep what was there; readings of flat structs; from a contract to the row. -/
import Derived.WalkKit
import Derived.ProofKit
import Derived.ChangeOld
import Derived.Below
import Derived.Deep.Slices
import Derived.Deep.Draws
namespace Go.Proofs.Ytfmijkedhlnccaa
open Go.RowKit Go.ChangeShapes Go.WideShapes

/-! ### worlds -/
def Bel (w w' : World) : Prop := Below w.heap.size w w'
theorem Bel.refl (w : World) : Bel w w := Below.refl _ _
theorem Bel.trans {a b c : World} (h : Bel a b) (k : Bel b c) : Bel a c := Below.trans h (Below.mono k h.size)
theorem Bel.drew {a b : World} (h : Bel a b) : Bel a b.drew := Below.drew h
theorem Bel.drewN {a b : World} (h : Bel a b) (n : Nat) : Bel a (b.drewN n) := ⟨h.os, h.tape, h.output, h.size, h.block⟩
theorem Bel.alloc {a b : World} (h : Bel a b) (o : Obj) : Bel a (b.alloc o) := Below.alloc h h.size o
theorem Bel.setCell {a b : World} (h : Bel a b) {p : Addr} (hp : a.heap.size ≤ p.block) (u : Value) : Bel a (b.setCell p u) := Below.setCell h hp u
theorem Bel.grown {a b c : World} {row : Option Nat} (h : Bel a b) (hg : b.grownBy c row) (hr : ∀ k, row = some k → a.heap.size ≤ k) : Bel a c := Below.grown h hg h.size hr
theorem Bel.sz {a b : World} (h : Bel a b) : a.heap.size ≤ b.heap.size := h.size
theorem Bel.cell {a b : World} (h : Bel a b) (k o : Nat) (hk : k < a.heap.size) : b.cell? ⟨k, o, none⟩ = a.cell? ⟨k, o, none⟩ := Below.cell (p := ⟨k, o, none⟩) h hk
theorem Bel.cellp {a b : World} (h : Bel a b) (p : Addr) (hk : p.block < a.heap.size) : b.cell? p = a.cell? p := Below.cell h hk
theorem Bel.frozen {a b : World} (h : Bel a b) (k o : Nat) (hk : k < a.heap.size) : b.frozen? ⟨k, o, none⟩ = a.frozen? ⟨k, o, none⟩ := Below.frozen (p := ⟨k, o, none⟩) h hk
theorem Bel.open_ {a b : World} (h : Bel a b) : (∀ k o, k < a.heap.size → b.cell? ⟨k, o, none⟩ = a.cell? ⟨k, o, none⟩) ∧ (∀ k o, k < a.heap.size → b.frozen? ⟨k, o, none⟩ = a.frozen? ⟨k, o, none⟩) ∧ a.heap.size ≤ b.heap.size :=
  ⟨fun k o hk => h.cell k o hk, fun k o hk => h.frozen k o hk, h.size⟩

theorem Bel.gb {a b : World} (h : Bel a b) : a.grownBy b none := ⟨h.os, h.tape, h.output, h.size, fun k hk _ => h.block k hk⟩
theorem own_keep {a b : World} {base n size : Nat} {e : TypeId} {v : Value} {xs : List Value} (ho : a.ownsRow base e size v n xs) (h : Bel a b) : b.ownsRow base e size v n xs :=
  ho.kept h.gb (by cases v.ownBlock <;> simp)
theorem own_drewN {a : World} {base n size : Nat} {e : TypeId} {v : Value} {xs : List Value} (ho : a.ownsRow base e size v n xs) (k : Nat) : (a.drewN k).ownsRow base e size v n xs :=
  own_keep ho ((Bel.refl a).drewN k)

theorem own_base {w : World} {base base' n size : Nat} {e : TypeId} {v : Value} {xs : List Value} (ho : w.ownsRow base e size v n xs) (h : base' ≤ base) : w.ownsRow base' e size v n xs := by
  refine ⟨ho.1, ?_⟩
  rcases ho.2 with h1 | ⟨g, cap, cur, h1, h2, h3⟩
  · exact .inl h1
  · exact .inr ⟨g, cap, cur, h1, Nat.le_trans h h2, h3⟩
theorem hid' {p : Prop} (h : p) : Hid p := h

/-! ### numbers -/
def In64 (n : Int) : Prop := -9223372036854775808 ≤ n ∧ n ≤ 9223372036854775807
theorem in64_of_wf {n : Int} (h : (Lit.int .i64 n).wf = true) : In64 n := by
  simp [Lit.wf, IntKind.min, IntKind.max, IntKind.signed, IntKind.bits] at h
  unfold In64
  omega

/-! ### flat readings -/
/-- a cell list read leaf by leaf -/
def Flat (rd : Value → TypeId → Prop) : List Value → List TypeId → Prop
  | [], [] => True
  | c :: cs, t :: ts => rd c t ∧ Flat rd cs ts
  | _, _ => False

theorem Flat.append {rd : Value → TypeId → Prop} : ∀ {a : List Value} {ta : List TypeId} {b : List Value} {tb : List TypeId}, Flat rd a ta → Flat rd b tb → Flat rd (a ++ b) (ta ++ tb)
  | [], [], _, _, _, hb => hb
  | _ :: _, _ :: _, _, _, ha, hb => ⟨ha.1, Flat.append ha.2 hb⟩
  | [], _ :: _, _, _, ha, _ => ha.elim
  | _ :: _, [], _, _, ha, _ => ha.elim

theorem Flat.length {rd : Value → TypeId → Prop} : ∀ {a : List Value} {ta : List TypeId}, Flat rd a ta → a.length = ta.length
  | [], [], _ => rfl
  | _ :: _, _ :: _, h => by simp [Flat.length h.2]
  | [], _ :: _, h => h.elim
  | _ :: _, [], h => h.elim

theorem Flat.mono {rd rd' : Value → TypeId → Prop} (hr : ∀ c t, rd c t → rd' c t) : ∀ {a : List Value} {ta : List TypeId}, Flat rd a ta → Flat rd' a ta
  | [], [], _ => trivial
  | _ :: _, _ :: _, h => ⟨hr _ _ h.1, Flat.mono hr h.2⟩
  | [], _ :: _, h => h.elim
  | _ :: _, [], h => h.elim

def gather (P : Program) (g : TypeId → Option (List TypeId)) : List Field → Nat → Option (List TypeId)
  | [], _ => some []
  | f :: r, off => if f.offset = off then (g f.type).bind fun ts => if ts.length = P.cellsOf f.type then (gather P g r (off + ts.length)).map (ts ++ ·) else none else none

/-- the leaf types of a type, in the order of its cells -/
def leaves (P : Program) : Nat → TypeId → Option (List TypeId)
  | 0, _ => none
  | n + 1, t => match P.underlying t with
    | some (.struct fs) => (gather P (leaves P n) fs.toList 0).bind fun ts => if ts.length = P.cellsOf t then some ts else none
    | some .bool => if P.cellsOf t = 1 then some [t] else none
    | some (.int _) => if P.cellsOf t = 1 then some [t] else none
    | some (.slice _) => if P.cellsOf t = 1 then some [t] else none
    | _ => none

section
variable {H : Type} {enc : TypeId × Value → H} {P : Program} {w : World} {base : Nat} {spare : Nat → Bool} {held : Bool}

/-- one cell that reads at a type -/
def ReadsAs (enc : TypeId × Value → H) (P : Program) (w : World) (base : Nat) (spare : Nat → Bool) (held : Bool) (c : Value) (t : TypeId) : Prop :=
  ∃ m y, DataW.trod enc P w base spare held m t [c] = some y

theorem gather_flat {g : TypeId → Option (List TypeId)} (hg : ∀ n t cs x ts, g t = some ts → DataW.trod enc P w base spare held n t cs = some x → Flat (ReadsAs enc P w base spare held) cs ts)
    (n : Nat) (cs : List Value) : ∀ (fs : List Field) (off : Nat) (ts : List TypeId), gather P g fs off = some ts →
      (∀ f ∈ fs, ∃ x, DataW.trod enc P w base spare held n f.type ((cs.drop f.offset).take (P.cellsOf f.type)) = some x) →
      Flat (ReadsAs enc P w base spare held) ((cs.drop off).take ts.length) ts := by
  intro fs
  induction fs with
  | nil =>
    intro off ts h _
    simp [gather] at h
    subst h
    simp [Flat]
  | cons f r ih =>
    intro off ts h hx
    unfold gather at h
    split at h
    · rename_i ho
      simp only [Option.bind_eq_some_iff] at h
      obtain ⟨t1, h1, h2⟩ := h
      split at h2
      · rename_i hl
        simp only [Option.map_eq_some_iff] at h2
        obtain ⟨t2, h3, rfl⟩ := h2
        obtain ⟨x, hx1⟩ := hx f (by simp)
        have a := hg n f.type _ x t1 h1 hx1
        have b := ih (off + t1.length) t2 h3 (fun f' hf' => hx f' (by simp [hf']))
        rw [ho, ← hl] at a
        have : (cs.drop off).take (t1 ++ t2).length = (cs.drop off).take t1.length ++ (cs.drop (off + t1.length)).take t2.length := by
          rw [List.length_append, List.take_add, List.drop_drop]
        rw [this]
        exact a.append b
      · cases h2
    · cases h

theorem leaves_flat : ∀ (k n : Nat) (t : TypeId) (cs : List Value) (x : DataW H × List MemPlace) (ts : List TypeId), leaves P k t = some ts → DataW.trod enc P w base spare held n t cs = some x →
    Flat (ReadsAs enc P w base spare held) cs ts := by
  intro k
  induction k with
  | zero => intro n t cs x ts h _; simp [leaves] at h
  | succ k ih =>
    intro n t cs x ts h hx
    unfold leaves at h
    split at h
    · rename_i fs hu
      simp only [Option.bind_eq_some_iff] at h
      obtain ⟨ts', h1, h2⟩ := h
      split at h2
      · rename_i hl
        cases h2
        obtain ⟨xs, m, rfl, rfl, hlen, hxl, hf⟩ := DataW.trod_struct hu hx
        have := gather_flat (cs := cs) (n := m) (fun n t cs x ts => ih n t cs x ts) fs.toList 0 _ h1 (fun f hf' => by
          obtain ⟨i, hi, rfl⟩ := List.getElem_of_mem hf'
          have := hf i fs.toList[i] (by simp at hi ⊢)
          rw [this]
          exact ⟨xs[i]'(by simp at hi; omega), by simp [List.getElem?_eq_getElem (show i < xs.length by simp at hi; omega)]⟩)
        rw [List.drop_zero, List.take_of_length_le (by omega)] at this
        exact this
      · cases h2
    · rename_i hu
      split at h <;> cases h
      obtain ⟨b, rfl, _⟩ := DataW.trod_bool hu hx
      exact ⟨⟨n, x, hx⟩, trivial⟩
    · rename_i k' hu
      split at h <;> cases h
      obtain ⟨b, rfl, _⟩ := DataW.trod_int hu hx
      exact ⟨⟨n, x, hx⟩, trivial⟩
    · rename_i e hu
      split at h <;> cases h
      rcases DataW.trod_slice hu hx with ⟨rfl, _⟩ | ⟨a, len, cap, _, _, _, _, rfl, _⟩
      · exact ⟨⟨n, x, hx⟩, trivial⟩
      · exact ⟨⟨n, x, hx⟩, trivial⟩
    · cases h

/-! ### scalar leaves -/
/-- which leaf types are ints (true) and bools (false); nothing else may stand there -/
def kinds (P : Program) : List TypeId → Option (List Bool)
  | [] => some []
  | t :: ts => match P.underlying t with
    | some (.int .i64) => (kinds P ts).map (true :: ·)
    | some .bool => (kinds P ts).map (false :: ·)
    | _ => none

def mk (s : Nat → Int) (b : Nat → Bool) : Nat → List Bool → List Value
  | _, [] => []
  | i, true :: ks => .int .i64 (s i) :: mk s b (i + 1) ks
  | i, false :: ks => .bool (b i) :: mk s b (i + 1) ks

theorem mk_congr {s s' : Nat → Int} {b b' : Nat → Bool} : ∀ (ks : List Bool) (i : Nat), (∀ j, i ≤ j → s j = s' j) → (∀ j, i ≤ j → b j = b' j) → mk s b i ks = mk s' b' i ks
  | [], _, _, _ => rfl
  | true :: ks, i, hs, hb => by simp only [mk]; rw [hs i (Nat.le_refl _), mk_congr ks (i + 1) (fun j hj => hs j (by omega)) (fun j hj => hb j (by omega))]
  | false :: ks, i, hs, hb => by simp only [mk]; rw [hb i (Nat.le_refl _), mk_congr ks (i + 1) (fun j hj => hs j (by omega)) (fun j hj => hb j (by omega))]

theorem mk_length (s : Nat → Int) (b : Nat → Bool) : ∀ (ks : List Bool) (i : Nat), (mk s b i ks).length = ks.length
  | [], _ => rfl
  | true :: ks, i => by simp [mk, mk_length s b ks (i + 1)]
  | false :: ks, i => by simp [mk, mk_length s b ks (i + 1)]

theorem flat_mk : ∀ (cs : List Value) (ts : List TypeId) (ks : List Bool) (i : Nat), kinds P ts = some ks → Flat (ReadsAs enc P w base spare held) cs ts →
    ∃ (s : Nat → Int) (b : Nat → Bool), (∀ j, In64 (s j)) ∧ cs = mk s b i ks
  | [], [], ks, i, hk, _ => by
    simp [kinds] at hk
    subst hk
    exact ⟨fun _ => 0, fun _ => false, fun _ => by unfold In64; dsimp only; omega, rfl⟩
  | c :: cs, t :: ts, ks, i, hk, ⟨⟨m, y, h1⟩, h2⟩ => by
    unfold kinds at hk
    split at hk
    · rename_i hu
      simp only [Option.map_eq_some_iff] at hk
      obtain ⟨ks', hk', rfl⟩ := hk
      obtain ⟨s, b, hs, rfl⟩ := flat_mk cs ts ks' (i + 1) hk' h2
      obtain ⟨n, hn, _, hw⟩ := DataW.trod_int hu h1
      simp only [List.cons.injEq, and_true] at hn
      subst hn
      refine ⟨fun j => if j = i then n else s j, b, fun j => by dsimp only; split; exact in64_of_wf hw; exact hs j, ?_⟩
      simp only [mk, if_true]
      rw [mk_congr (s' := fun j => if j = i then n else s j) ks' (i + 1) (fun j hj => by rw [if_neg (by omega)]) (fun _ _ => rfl)]
    · rename_i hu
      simp only [Option.map_eq_some_iff] at hk
      obtain ⟨ks', hk', rfl⟩ := hk
      obtain ⟨s, b, hs, rfl⟩ := flat_mk cs ts ks' (i + 1) hk' h2
      obtain ⟨n, hn, _⟩ := DataW.trod_bool hu h1
      simp only [List.cons.injEq, and_true] at hn
      subst hn
      refine ⟨s, fun j => if j = i then n else b j, hs, ?_⟩
      simp only [mk, if_true]
      rw [mk_congr (b' := fun j => if j = i then n else b j) ks' (i + 1) (fun _ _ => rfl) (fun j hj => by rw [if_neg (by omega)])]
    · cases hk
  | [], _ :: _, _, _, _, h => h.elim
  | _ :: _, [], _, _, _, h => h.elim

/-- a struct of ints and bools that came in by value -/
theorem open_flat {r : Reach} {b0 : Nat} {t : TypeId} {fs : Array Field} {v : Value} {d : DataW H} {p : List MemPlace} {ts : List TypeId} {ks : List Bool} (k : Nat) (hs : P.underlying t = some (.struct fs))
    (hl : leaves P k t = some ts) (hk : kinds P ts = some ks) (hv : Value.okWide P w r b0 t v) (h : DataW.Trod enc P w base spare held t v d p) :
    ∃ (s : Nat → Int) (b : Nat → Bool), (∀ j, In64 (s j)) ∧ v = .agg ⟨mk s b 0 ks⟩ := by
  obtain ⟨cs, rfl, _⟩ := okWide_struct hs hv
  obtain ⟨n, hn⟩ := h
  obtain ⟨s, b, h1, h2⟩ := flat_mk _ ts ks 0 hk (leaves_flat k n t _ _ ts hl hn)
  refine ⟨s, b, h1, ?_⟩
  simp only [Value.cells] at h2
  rw [← h2]

theorem open_num {r : Reach} {b0 : Nat} {t : TypeId} {v : Value} {d : DataW H} {p : List MemPlace} (hs : P.underlying t = some (.int .i64))
    (hv : Value.okWide P w r b0 t v) (h : DataW.Trod enc P w base spare held t v d p) : ∃ n : Int, In64 n ∧ v = .int .i64 n := by
  obtain ⟨n, rfl⟩ := okWide_int hs hv
  obtain ⟨m, hm⟩ := h
  obtain ⟨n', hn, _, hw⟩ := DataW.trod_int hs hm
  simp [Value.cells] at hn
  subst hn
  exact ⟨_, in64_of_wf hw, rfl⟩

theorem open_flag {r : Reach} {b0 : Nat} {t : TypeId} {v : Value} (hs : P.underlying t = some .bool)
    (hv : Value.okWide P w r b0 t v) : ∃ n : Bool, v = .bool n := okWide_bool hs hv

/-! ### from a contract to the row -/
theorem trodAll_lt : ∀ {ts : List TypeId} {vs : List Value} {ds : List (DataW H)} {ps : List MemPlace}, DataW.TrodAll enc P w base spare held ts vs ds ps → ∀ x ∈ ps, x.block < w.heap.size
  | [], [], [], ps, h, x, hx => by simp only [DataW.TrodAll] at h; subst h; cases hx
  | t :: ts, v :: vs, d :: ds, ps, h, x, hx => by
    obtain ⟨p, q, ⟨m, hm⟩, h2, rfl⟩ := h
    rcases List.mem_append.1 hx with hx | hx
    · exact DataW.trod_lt m _ _ _ hm x hx
    · exact trodAll_lt h2 x hx
  | [], _ :: _, _, _, h, _, _ => h.elim
  | [], [], _ :: _, _, h, _, _ => h.elim
  | _ :: _, [], _, _, h, _, _ => h.elim
  | _ :: _, _ :: _, [], _, h, _, _ => h.elim

theorem trodAll_below {W W' : World} (hl : laidOutB P = true) (hb : Below W.heap.size W W') : ∀ {ts : List TypeId} {vs : List Value} {ds : List (DataW H)} {ps : List MemPlace},
    ts.all (fun t => P.readableRec t && decide (t < P.types.size)) = true → DataW.TrodAll enc P W 0 (fun _ => true) true ts vs ds ps →
    DataW.TrodAll enc P W' 0 (fun b => decide (b < W.heap.size)) true ts vs ds ps
  | [], [], [], _, _, h => h
  | t :: ts, v :: vs, d :: ds, ps, hr, h => by
    have hlt := trodAll_lt h
    obtain ⟨p, q, h1, h2, rfl⟩ := h
    simp only [List.all_cons, Bool.and_eq_true, decide_eq_true_eq] at hr
    exact ⟨p, q, Below.trod hl hr.1.1 hr.1.2 h1 hb (fun x hx => hlt x (by simp [hx])), trodAll_below hl hb hr.2 h2, rfl⟩
  | [], _ :: _, _, _, _, h => h.elim
  | [], [], _ :: _, _, _, h => h.elim
  | _ :: _, [], _, _, _, h => h.elim
  | _ :: _, _ :: _, [], _, _, h => h.elim

/-- The law's row, from its contract. -/
theorem law_lifted {C : Checked} {os : Os} {f : FuncId} {fn : Func} {s : ChangeSpec} {tb : TypeId}
    (own : ownKnob C.prog.godebug = none) (started : os.Started) (noInit : C.prog.inits.idxOf? f = none) (hfn : C.prog.funcs[f]? = some fn) (hl : laidOutB C.prog = true)
    (hvars : s.vars = []) (hres : fn.resultTypes = #[tb]) (htb : C.prog.underlying tb = some .bool)
    (hread : fn.params.toList.all (fun t => C.prog.readableRec t && decide (t < C.prog.types.size)) = true)
    (hspec : ∀ ds : List (DataW H), ds.length = fn.params.size → s.fn H ds = { results := [.lit (.bool true)], args := ds })
    (witness : ∃ (w : World) (tape : Tape) (i : Input), w.os = os ∧ (w.forCall tape i).Shaped C.prog ∧ i.vars = [] ∧ Input.okWide C.prog (w.forCall tape i) .any w.heap.size f i ∧
      s.pre6 enc C.prog fn [] false (w.forCall tape i).memory i.args ∧ Assume.holds {} C.prog (lone (Frame.enter C.prog f i.args .normal) [] (w.forCall tape i)))
    (contract : ∀ (W : World) (base : Nat) (args : Array Value) (ds : List (DataW H)) (ps : List MemPlace),
      (∀ (j : Nat) t v, fn.params[j]? = some t → args[j]? = some v → Value.okWide C.prog W .any base t v) →
      DataW.TrodAll enc C.prog W 0 (fun _ => true) true fn.params.toList args.toList ds ps →
      Calls C.prog f args W fun e W' => e = .returned (.bool true) ∧ Bel W W') :
    ReturnsInHanded {} C os f .any (s.pre6 enc C.prog fn [] false) (s.post enc C.prog fn false true false false) := by
  refine returnsInHanded_of_change (C := C) own started noInit hfn witness ?_
  intro W base args ds gs before hval hW _ _
  have hW' := hW
  obtain ⟨p, q, hA, hV, rfl, hfz, hnd⟩ := hW
  rw [hvars] at hV
  refine (contract W base args ds p hval hA).mono fun e W' ⟨he, hb⟩ => ?_
  subst he
  obtain ⟨rfl, rfl⟩ : gs = [] ∧ q = [] := by
    cases gs with
    | nil => exact ⟨rfl, hV⟩
    | cons _ _ => exact hV.elim
  have hlen : ∀ {ts : List TypeId} {vs : List Value} {ds : List (DataW H)} {ps : List MemPlace} {w : World} {b : Nat} {sp : Nat → Bool} {hd : Bool}, DataW.TrodAll enc C.prog w b sp hd ts vs ds ps → ds.length = ts.length := by
    intro ts
    induction ts with
    | nil => intro vs ds ps w b sp hd h; cases vs <;> cases ds <;> first | rfl | exact h.elim
    | cons t ts ih =>
      intro vs ds ps w b sp hd h
      cases vs <;> cases ds <;> first | exact h.elim | (obtain ⟨_, _, _, h2, _⟩ := h; simp [ih h2])
  have hsp : s.fn H (ds ++ []) = { results := [.lit (.bool true)], args := ds } := by
    rw [List.append_nil]; exact hspec ds (by have := hlen hA; simpa using this)
  refine ⟨_, rfl, ds, [], _, [], p, [], hW', ?_, ?_, ?_, hb.frame _, fun h => by cases h⟩
  · rw [hsp, hres]
    exact trodAll_mk1 (shut_bool htb _)
  · rw [hsp]
    exact trodAll_below hl hb hread hA
  · rw [hvars, hsp]
    rfl
end
end Go.Proofs.Ytfmijkedhlnccaa
