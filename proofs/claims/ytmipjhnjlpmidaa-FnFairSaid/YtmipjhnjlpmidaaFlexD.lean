/- Flexing as plain data: what is held, the sizes, one pass, and what all passes leave. -/
import Derived.Test.YtmipjhnjlpmidaaItemFns
import Derived.Test.YtmipjhnjlpmidaaShares
namespace Go.Proofs.Ytmipjhnjlpmidaa
open Go.RowKit
set_option linter.unusedVariables false
set_option linter.unusedSimpArgs false

structure Fx where
  hd : Nat → Bool
  sz : Nat → Int
def frees (hd : Nat → Bool) (k : Nat) : List Nat := (List.range k).filter (fun i => !hd i)
def wt (L : List Rec) (g : Bool) (i : Nat) : Int := if g = true then (rec_ L i).s 3 else (rec_ L i).s 4 * (rec_ L i).s 0
def wts (L : List Rec) (g : Bool) (fs : List Nat) : List Int := fs.map (wt L g)
def baseSz (L : List Rec) (S : Fx) (i : Nat) : Int := if S.hd i = true then S.sz i else (rec_ L i).s 0
def rowOf (n : Nat) (f : Nat → Int) : List Int := (List.range n).map f
def clip (g : Bool) (r : Int) : Int := if (g = true ∧ r < 0) ∨ (g = false ∧ 0 < r) then 0 else r
def restOf (L : List Rec) (g : Bool) (gap inner : Int) (S : Fx) : Int := signed (clip g (wrap64 (inner - outerOf L (rowOf L.length (baseSz L S)) gap)))
def upR (r : Rec) : Int := if r.s 2 < r.s 1 then r.s 1 else r.s 2
def aimOf (L : List Rec) (g : Bool) (all rest : Int) (i : Nat) : Int := (rec_ L i).s 0 * all + rest * wt L g i
def overAt (L : List Rec) (g : Bool) (all rest : Int) (i : Nat) : Int :=
  if aimOf L g all rest i < (rec_ L i).s 1 * all then (rec_ L i).s 1 * all - aimOf L g all rest i
  else if 0 ≤ (rec_ L i).s 2 ∧ upR (rec_ L i) * all < aimOf L g all rest i then upR (rec_ L i) * all - aimOf L g all rest i else 0
def vioOf (ov : Nat → Int) (fs : List Nat) : Int := (fs.map ov).sum
def someOf (ov : Nat → Int) (fs : List Nat) : Bool := fs.any (fun i => ov i != 0)
def newHd (ov : Nat → Int) (fs : List Nat) (hd : Nat → Bool) (i : Nat) : Bool :=
  hd i || (!someOf ov fs || (decide (0 < ov i) && decide (0 ≤ vioOf ov fs)) || (decide (ov i < 0) && decide (vioOf ov fs ≤ 0)))
def newSz (L : List Rec) (ov : Nat → Int) (fs : List Nat) (sh : List Int) (S : Fx) (i : Nat) : Int :=
  if S.hd i = true then S.sz i
  else if someOf ov fs = false then clamped ((rec_ L i).s 0 + at_ sh (frees S.hd i).length)
  else if 0 < ov i ∧ 0 ≤ vioOf ov fs then (rec_ L i).s 1
  else if ov i < 0 ∧ vioOf ov fs ≤ 0 then upR (rec_ L i)
  else S.sz i
def allW (L : List Rec) (g : Bool) (S : Fx) : Int := (wts L g (frees S.hd L.length)).sum
def stepOv (L : List Rec) (g : Bool) (gap inner : Int) (S : Fx) : Nat → Int := overAt L g (allW L g S) (restOf L g gap inner S)
def stepSh (L : List Rec) (g : Bool) (gap inner : Int) (S : Fx) : List Int := shares (restOf L g gap inner S) (wts L g (frees S.hd L.length))
def stepF (L : List Rec) (g : Bool) (gap inner : Int) (S : Fx) : Fx :=
  ⟨newHd (stepOv L g gap inner S) (frees S.hd L.length) S.hd, newSz L (stepOv L g gap inner S) (frees S.hd L.length) (stepSh L g gap inner S) S⟩
def flexRun (L : List Rec) (g : Bool) (gap inner : Int) : Nat → Fx → Nat → Fx × Nat
  | 0, S, p => (S, p)
  | f + 1, S, p => if frees S.hd L.length = [] then (S, p) else flexRun L g gap inner f (stepF L g gap inner S) (p + 1)
def initHd (L : List Rec) (g : Bool) (i : Nat) : Bool := wt L g i == 0 || (g && decide (hypR (rec_ L i) < (rec_ L i).s 0)) || (!g && decide ((rec_ L i).s 0 < hypR (rec_ L i)))
def initF (L : List Rec) (g : Bool) : Fx := ⟨initHd L g, fun i => hypR (rec_ L i)⟩
def flexOk (L : List Rec) (gap inner : Int) : Bool := itemsOk L && inB gap 0 1048576 && inB inner 0 1048576
def flexAll (L : List Rec) (gap inner : Int) : Fx × Nat := flexRun L (growsB L gap inner) gap inner L.length (initF L (growsB L gap inner)) 0
def flexL (L : List Rec) (gap inner : Int) : List Int := if flexOk L gap inner = true then rowOf L.length (flexAll L gap inner).1.sz else hyps L
def flexP (L : List Rec) (gap inner : Int) : Nat := if flexOk L gap inner = true then (flexAll L gap inner).2 else 0

theorem frees_succ (hd : Nat → Bool) (k : Nat) : frees hd (k + 1) = frees hd k ++ (if hd k = true then [] else [k]) := by
  unfold frees
  rw [List.range_succ, List.filter_append]
  congr 1
  cases h : hd k <;> simp [h]
theorem frees_mem {hd : Nat → Bool} {k i : Nat} : i ∈ frees hd k ↔ i < k ∧ hd i = false := by simp [frees]
theorem frees_le (hd : Nat → Bool) : ∀ k, (frees hd k).length ≤ k := fun k => by
  unfold frees
  exact Nat.le_trans (List.length_filter_le _ _) (by simp)
theorem frees_mono (hd : Nat → Bool) {i k : Nat} (h : i ≤ k) : ∃ l, frees hd k = frees hd i ++ l := by
  induction k with
  | zero => exact ⟨[], by have : i = 0 := by omega
                          subst this; simp⟩
  | succ k ih =>
    rcases Nat.lt_or_ge k i with h1 | h1
    · have : i = k + 1 := by omega
      subst this
      exact ⟨[], by simp⟩
    · obtain ⟨l, hl⟩ := ih h1
      exact ⟨l ++ _, by rw [frees_succ, hl, List.append_assoc]⟩
theorem frees_rank {hd : Nat → Bool} {n i : Nat} (hi : i < n) (h : hd i = false) : (frees hd n)[(frees hd i).length]? = some i := by
  obtain ⟨l, hl⟩ := frees_mono hd (show i + 1 ≤ n by omega)
  rw [hl, frees_succ, h]
  simp
theorem frees_rank_lt {hd : Nat → Bool} {n i : Nat} (hi : i < n) (h : hd i = false) : (frees hd i).length < (frees hd n).length := by
  have := frees_rank hi h
  exact (List.getElem?_eq_some_iff.1 this).1
/-- the k-th free place -/
def fr (hd : Nat → Bool) (n k : Nat) : Nat := (frees hd n).getD k 0
theorem fr_eq {hd : Nat → Bool} {n k : Nat} (h : k < (frees hd n).length) : (frees hd n)[k]? = some (fr hd n k) := by
  simp [fr, List.getD, List.getElem?_eq_getElem h]
theorem fr_mem {hd : Nat → Bool} {n k : Nat} (h : k < (frees hd n).length) : fr hd n k < n ∧ hd (fr hd n k) = false :=
  frees_mem.1 (List.mem_of_getElem? (fr_eq h))
theorem frees_lt (hd : Nat → Bool) (n : Nat) : (frees hd n).Pairwise (· < ·) := List.Pairwise.filter _ List.pairwise_lt_range
theorem fr_rank {hd : Nat → Bool} {n k : Nat} (h : k < (frees hd n).length) : (frees hd (fr hd n k)).length = k := by
  obtain ⟨h1, h2⟩ := fr_mem h
  have h3 := frees_rank h1 h2
  have h4 := fr_eq h
  obtain ⟨k1, e1⟩ := List.getElem?_eq_some_iff.1 h3
  obtain ⟨k2, e2⟩ := List.getElem?_eq_some_iff.1 h4
  have hp := List.pairwise_iff_getElem.1 (frees_lt hd n)
  rcases Nat.lt_trichotomy (frees hd (fr hd n k)).length k with hc | hc | hc
  · have := hp _ _ k1 k2 hc; rw [e1, e2] at this; omega
  · exact hc
  · have := hp _ _ k2 k1 hc; rw [e1, e2] at this; omega
theorem fr_of {hd : Nat → Bool} {n i : Nat} (hi : i < n) (h : hd i = false) : fr hd n (frees hd i).length = i := by
  have h1 := fr_eq (frees_rank_lt hi h)
  rw [frees_rank hi h] at h1
  injection h1 with h1
  exact h1.symm
theorem rowOf_length (n : Nat) (f : Nat → Int) : (rowOf n f).length = n := by simp [rowOf]
theorem rowOf_at {n i : Nat} {f : Nat → Int} (h : i < n) : at_ (rowOf n f) i = f i := by simp [at_, rowOf, List.getD, h]
theorem rowOf_ext {n : Nat} {f f' : Nat → Int} (h : ∀ i, i < n → f i = f' i) : rowOf n f = rowOf n f' := by
  unfold rowOf
  exact List.map_congr_left fun i hi => h i (by simpa using hi)

/-! ### all passes -/
theorem vio_pos {ov : Nat → Int} : ∀ {fs : List Nat}, (∀ i ∈ fs, ov i ≤ 0) → vioOf ov fs ≤ 0 ∧ (∀ i ∈ fs, ov i < 0 → vioOf ov fs < 0) := by
  intro fs
  induction fs with
  | nil => intro _; simp [vioOf]
  | cons a fs ih =>
    intro h
    obtain ⟨h1, h2⟩ := ih (fun i hi => h i (by simp [hi]))
    have h3 := h a (by simp)
    simp only [vioOf, List.map_cons, List.sum_cons] at h1 h2 ⊢
    refine ⟨by omega, fun i hi hlt => ?_⟩
    rcases List.mem_cons.1 hi with rfl | hi
    · omega
    · have := h2 i hi hlt
      omega
theorem vio_neg {ov : Nat → Int} : ∀ {fs : List Nat}, (∀ i ∈ fs, 0 ≤ ov i) → 0 ≤ vioOf ov fs ∧ (∀ i ∈ fs, 0 < ov i → 0 < vioOf ov fs) := by
  intro fs
  induction fs with
  | nil => intro _; simp [vioOf]
  | cons a fs ih =>
    intro h
    obtain ⟨h1, h2⟩ := ih (fun i hi => h i (by simp [hi]))
    have h3 := h a (by simp)
    simp only [vioOf, List.map_cons, List.sum_cons] at h1 h2 ⊢
    refine ⟨by omega, fun i hi hlt => ?_⟩
    rcases List.mem_cons.1 hi with rfl | hi
    · omega
    · have := h2 i hi hlt
      omega
theorem new_held {ov : Nat → Int} {fs : List Nat} {hd : Nat → Bool} (h : fs ≠ []) : ∃ i ∈ fs, newHd ov fs hd i = true := by
  cases hs : someOf ov fs
  · obtain ⟨a, ha⟩ := List.exists_mem_of_ne_nil fs h
    exact ⟨a, ha, by simp [newHd, hs]⟩
  · have hs' := hs
    unfold someOf at hs
    rw [List.any_eq_true] at hs
    obtain ⟨a, ha, hne⟩ := hs
    simp at hne
    by_cases hv : 0 ≤ vioOf ov fs
    · by_cases hp : ∃ i ∈ fs, 0 < ov i
      · obtain ⟨i, hi, hp⟩ := hp
        exact ⟨i, hi, by simp [newHd, hp, hv]⟩
      · have hall : ∀ i ∈ fs, ov i ≤ 0 := fun i hi => by
          rcases Int.lt_or_le 0 (ov i) with h1 | h1
          · exact absurd ⟨i, hi, h1⟩ hp
          · exact h1
        have := (vio_pos hall).2 a ha (by have := hall a ha; omega)
        omega
    · by_cases hp : ∃ i ∈ fs, ov i < 0
      · obtain ⟨i, hi, hp⟩ := hp
        exact ⟨i, hi, by simp [newHd, hp, show vioOf ov fs ≤ 0 by omega]⟩
      · have hall : ∀ i ∈ fs, 0 ≤ ov i := fun i hi => by
          rcases Int.lt_or_le (ov i) 0 with h1 | h1
          · exact absurd ⟨i, hi, h1⟩ hp
          · exact h1
        have := (vio_neg hall).1
        omega
theorem step_frees (L : List Rec) (g : Bool) (gap inner : Int) (S : Fx) (n : Nat) : frees (stepF L g gap inner S).hd n = (frees S.hd n).filter (fun i => !(stepF L g gap inner S).hd i) := by
  unfold frees
  rw [List.filter_filter]
  refine List.filter_congr fun i _ => ?_
  simp only [stepF, newHd]
  cases S.hd i <;> simp
theorem step_less (L : List Rec) (g : Bool) (gap inner : Int) (S : Fx) (h : frees S.hd L.length ≠ []) : (frees (stepF L g gap inner S).hd L.length).length < (frees S.hd L.length).length := by
  rw [step_frees]
  obtain ⟨i, hi, hn⟩ := new_held (ov := stepOv L g gap inner S) (hd := S.hd) h
  exact List.length_filter_lt_length_iff_exists.2 ⟨i, hi, by simp [stepF, hn]⟩
theorem flexRun_more (L : List Rec) (g : Bool) (gap inner : Int) : ∀ (f : Nat) (S : Fx) (p : Nat), (frees S.hd L.length).length ≤ f → flexRun L g gap inner (f + 1) S p = flexRun L g gap inner f S p := by
  intro f
  induction f with
  | zero =>
    intro S p h
    have : frees S.hd L.length = [] := List.eq_nil_of_length_eq_zero (by omega)
    simp only [flexRun, this, if_true]
  | succ f ih =>
    intro S p h
    rw [flexRun]
    conv => rhs; rw [flexRun]
    split
    · rfl
    · rename_i hne
      exact ih _ _ (by have := step_less L g gap inner S hne; omega)
theorem flexRun_done (L : List Rec) (g : Bool) (gap inner : Int) (f : Nat) {S : Fx} {p : Nat} (h : frees S.hd L.length = []) : flexRun L g gap inner f S p = (S, p) := by
  cases f with
  | zero => rfl
  | succ f => rw [flexRun, if_pos h]
theorem flexRun_step (L : List Rec) (g : Bool) (gap inner : Int) {S : Fx} {p : Nat} (h : frees S.hd L.length ≠ []) : flexRun L g gap inner L.length (stepF L g gap inner S) (p + 1) = flexRun L g gap inner L.length S p := by
  rw [← flexRun_more L g gap inner L.length S p (frees_le _ _), flexRun, if_neg h]

/-! ### bounds -/
def Fx.In (n : Nat) (S : Fx) : Prop := ∀ i, i < n → 0 ≤ S.sz i ∧ S.sz i ≤ 1048576
structure ItemIn (r : Rec) : Prop where
  base : 0 ≤ r.s 0 ∧ r.s 0 ≤ 1048576
  least : 0 ≤ r.s 1 ∧ r.s 1 ≤ 1048576
  most : -1 ≤ r.s 2 ∧ r.s 2 ≤ 1048576
  grow : 0 ≤ r.s 3 ∧ r.s 3 ≤ 1000
  shrink : 0 ≤ r.s 4 ∧ r.s 4 ≤ 1000
  before : -1048576 ≤ r.s 5 ∧ r.s 5 ≤ 1048576
  behind : -1048576 ≤ r.s 6 ∧ r.s 6 ≤ 1048576
theorem itemsOk_at {L : List Rec} (h : itemsOk L = true) : L.length ≤ 12 ∧ ∀ i, i < L.length → ItemIn (rec_ L i) := by
  simp only [itemsOk, Bool.and_eq_true, decide_eq_true_eq] at h
  refine ⟨h.2, fun i hi => ?_⟩
  have h1 := allR_at h.1 hi
  simp only [itemOkR, itemOk, Bool.and_eq_true, inB_iff] at h1
  exact ⟨by omega, by omega, by omega, by omega, by omega, by omega, by omega⟩
theorem upR_bd {r : Rec} (h : ItemIn r) : 0 ≤ upR r ∧ upR r ≤ 1048576 := by
  have := h.least
  have := h.most
  unfold upR
  split <;> omega
theorem hypR_bd {r : Rec} (h : ItemIn r) : 0 ≤ hypR r ∧ hypR r ≤ 1048576 := by
  have := h.base
  have := h.least
  have := h.most
  unfold hypR within
  simp only []
  split <;> split <;> omega
theorem mul_pos_bd {a b A B : Int} (ha : 0 ≤ a ∧ a ≤ A) (hb : 0 ≤ b ∧ b ≤ B) : 0 ≤ a * b ∧ a * b ≤ A * B := by
  have h1 : a * b ≤ A * b := Int.mul_le_mul_of_nonneg_right ha.2 hb.1
  have h3 : A * b ≤ A * B := Int.mul_le_mul_of_nonneg_left hb.2 (by omega)
  exact ⟨Int.mul_nonneg ha.1 hb.1, by omega⟩
theorem wt_bd {L : List Rec} {i : Nat} (g : Bool) (h : ItemIn (rec_ L i)) : 0 ≤ wt L g i ∧ wt L g i ≤ 1048576000 := by
  have h1 := h.grow
  have h2 := mul_pos_bd h.shrink h.base
  unfold wt
  split <;> omega
theorem sum_bd {α : Type} (f : α → Int) (M : Int) : ∀ (l : List α), (∀ i ∈ l, 0 ≤ f i ∧ f i ≤ M) → 0 ≤ (l.map f).sum ∧ (l.map f).sum ≤ M * (l.length : Int) := by
  intro l
  induction l with
  | nil => intro _; simp
  | cons a l ih =>
    intro h
    obtain ⟨h1, h2⟩ := ih (fun i hi => h i (by simp [hi]))
    have h3 := h a (by simp)
    rw [List.map_cons, List.sum_cons, List.length_cons, show ((l.length + 1 : Nat) : Int) = (l.length : Int) + 1 by omega, Int.mul_add, Int.mul_one]
    omega
theorem sum_bd2 {α : Type} (f : α → Int) (M : Int) : ∀ (l : List α), (∀ i ∈ l, -M ≤ f i ∧ f i ≤ M) → -(M * (l.length : Int)) ≤ (l.map f).sum ∧ (l.map f).sum ≤ M * (l.length : Int) := by
  intro l
  induction l with
  | nil => intro _; simp
  | cons a l ih =>
    intro h
    obtain ⟨h1, h2⟩ := ih (fun i hi => h i (by simp [hi]))
    have h3 := h a (by simp)
    rw [List.map_cons, List.sum_cons, List.length_cons, show ((l.length + 1 : Nat) : Int) = (l.length : Int) + 1 by omega, Int.mul_add, Int.mul_one]
    omega
theorem all_bd {L : List Rec} (g : Bool) (h : itemsOk L = true) (hd : Nat → Bool) {k : Nat} (hk : k ≤ L.length) : 0 ≤ (wts L g (frees hd k)).sum ∧ (wts L g (frees hd k)).sum ≤ 12582912000 := by
  obtain ⟨h12, hi⟩ := itemsOk_at h
  have := sum_bd (wt L g) 1048576000 (frees hd k) (fun i hm => wt_bd g (hi i (by have := (frees_mem.1 hm).1; omega)))
  have h2 := frees_le hd k
  unfold wts
  omega
theorem wts_ok {L : List Rec} (g : Bool) (h : itemsOk L = true) (hd : Nat → Bool) : weightsOk (wts L g (frees hd L.length)) = true := by
  obtain ⟨h12, hi⟩ := itemsOk_at h
  have h2 := frees_le hd L.length
  simp only [weightsOk, Bool.and_eq_true, decide_eq_true_eq]
  refine ⟨allIn_true fun j hj => ?_, by simp [wts]; omega⟩
  rw [show wts L g (frees hd L.length) = (frees hd L.length).map (wt L g) from rfl, List.length_map] at hj
  have e : at_ (wts L g (frees hd L.length)) j = wt L g (fr hd L.length j) := by
    unfold wts at_ List.getD
    rw [List.getElem?_map, fr_eq hj]
    rfl
  rw [e, inB_iff]
  have := wt_bd g (hi _ (fr_mem hj).1)
  omega
theorem wts_at {L : List Rec} {g : Bool} {hd : Nat → Bool} {n j : Nat} (hj : j < (frees hd n).length) : at_ (wts L g (frees hd n)) j = wt L g (fr hd n j) := by
  unfold wts at_ List.getD
  rw [List.getElem?_map, fr_eq hj]
  rfl
theorem over_facts {L : List Rec} {g : Bool} (h : itemsOk L = true) {all rest : Int} (ha : 0 ≤ all ∧ all ≤ 12582912000) (hr : -1048576 ≤ rest ∧ rest ≤ 1048576) {i : Nat} (hi : i < L.length) :
    (0 ≤ (rec_ L i).s 0 * all ∧ (rec_ L i).s 0 * all ≤ 13194139533312000) ∧ (-1099511627776000 ≤ rest * wt L g i ∧ rest * wt L g i ≤ 1099511627776000) ∧
    (0 ≤ (rec_ L i).s 1 * all ∧ (rec_ L i).s 1 * all ≤ 13194139533312000) ∧ (0 ≤ upR (rec_ L i) * all ∧ upR (rec_ L i) * all ≤ 13194139533312000) ∧
    (-30000000000000000 ≤ overAt L g all rest i ∧ overAt L g all rest i ≤ 30000000000000000) ∧ (0 ≤ wt L g i ∧ wt L g i ≤ 1048576000) := by
  have hx := (itemsOk_at h).2 i hi
  have h1 := mul_pos_bd hx.base ha
  have h2 := wt_bd g hx
  have h3 := mul_bd (a := rest) (b := wt L g i) (A := 1048576) (B := 1048576000) hr h2 (by omega)
  have h4 := mul_pos_bd hx.least ha
  have h5 := mul_pos_bd (upR_bd hx) ha
  refine ⟨by omega, by omega, by omega, by omega, ?_, h2⟩
  unfold overAt aimOf
  split
  · omega
  · split
    · omega
    · omega
theorem init_in {L : List Rec} (h : itemsOk L = true) (g : Bool) : (initF L g).In L.length := fun i hi => hypR_bd ((itemsOk_at h).2 i hi)
theorem step_in {L : List Rec} (h : itemsOk L = true) (g : Bool) (gap inner : Int) {S : Fx} (hS : S.In L.length) : (stepF L g gap inner S).In L.length := fun i hi => by
  have hx := (itemsOk_at h).2 i hi
  have h1 := hx.least
  have h2 := upR_bd hx
  have h3 := hS i hi
  have h4 := clamped_bd ((rec_ L i).s 0 + at_ (stepSh L g gap inner S) (frees S.hd i).length)
  simp only [stepF, newSz]
  repeat' split
  all_goals omega
theorem margTo_bd {L : List Rec} (h : itemsOk L = true) : ∀ k : Nat, k ≤ L.length → -(2097152 * (k : Int)) ≤ margTo L k ∧ margTo L k ≤ 2097152 * (k : Int) := by
  intro k
  induction k with
  | zero => intro _; simp [margTo]
  | succ k ih =>
    intro hk
    have h1 := ih (by omega)
    have hx := (itemsOk_at h).2 k (by omega)
    have h2 := hx.before
    have h3 := hx.behind
    simp only [margTo]
    omega
theorem sumTo_bd {zs : List Int} (h : ∀ i, i < zs.length → 0 ≤ at_ zs i ∧ at_ zs i ≤ 1048576) : ∀ k : Nat, k ≤ zs.length → 0 ≤ sumTo zs k ∧ sumTo zs k ≤ 1048576 * (k : Int) := by
  intro k
  induction k with
  | zero => intro _; simp [sumTo]
  | succ k ih =>
    intro hk
    have h1 := ih (by omega)
    have h2 := h k (by omega)
    simp only [sumTo]
    omega
end Go.Proofs.Ytmipjhnjlpmidaa
