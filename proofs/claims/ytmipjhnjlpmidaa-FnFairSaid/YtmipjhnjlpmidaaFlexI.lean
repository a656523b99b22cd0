/- Flexing, the program's text: weight, upper. -/
import Derived.Test.YtmipjhnjlpmidaaFlexSf
namespace Go.Proofs.Ytmipjhnjlpmidaa
open Go.RowKit Go.ChangeShapes Go.WideShapes
set_option linter.unusedVariables false
set_option linter.unusedSimpArgs false

set_option maxRecDepth 100000 in
set_option maxHeartbeats 1000000 in
theorem iWeight_c {L : List Rec} {i : Nat} (hx : ItemIn (rec_ L i)) (g : Bool) (w : World) :
    Calls Try.prog 95 #[itemV ((rec_ L i).s 0) ((rec_ L i).s 1) ((rec_ L i).s 2) ((rec_ L i).s 3) ((rec_ L i).s 4) ((rec_ L i).s 5) ((rec_ L i).s 6) ((rec_ L i).b 7) ((rec_ L i).b 8), .bool g] w fun e w' => e = .returned (.int .i64 (wt L g i)) ∧ Bel w w' := by
  have hm := wt_mul hx
  have q1 : wrap64 ((rec_ L i).s 4 * (rec_ L i).s 0) = (rec_ L i).s 4 * (rec_ L i).s 0 := by unfold wrap64; omega
  clear hm
  cases g
  · have HW : Hid (wt L false i = (rec_ L i).s 4 * (rec_ L i).s 0) := hid' (by simp [wt])
    go_enter Try.func95, Try.ntmps95
    go_wp2_with fail
    go_ret
    refine ⟨by (rw [HW.out]; first | rfl | (show Ending.returned (.int .i64 (wrap64 _)) = _; rw [q1])), ?_⟩
    repeat (first | exact Bel.refl _ | assumption | refine Bel.alloc ?_ _ | refine Bel.drew ?_ | refine Bel.drewN ?_ _ | refine Bel.trans ?_ (by assumption) | refine Bel.setCell ?_ (by first | (simp; done) | (simp; omega) | (simp at *; omega)) _)
  · have HW : Hid (wt L true i = (rec_ L i).s 3) := hid' (by simp [wt])
    go_enter Try.func95, Try.ntmps95
    go_wp2_with fail
    go_ret
    refine ⟨by (rw [HW.out]; first | rfl | simp), ?_⟩
    repeat (first | exact Bel.refl _ | assumption | refine Bel.alloc ?_ _ | refine Bel.drew ?_ | refine Bel.drewN ?_ _ | refine Bel.trans ?_ (by assumption) | refine Bel.setCell ?_ (by first | (simp; done) | (simp; omega) | (simp at *; omega)) _)
set_option maxRecDepth 100000 in
set_option maxHeartbeats 1000000 in
theorem iUpper_c (r : Rec) (w : World) :
    Calls Try.prog 114 #[itemV (r.s 0) (r.s 1) (r.s 2) (r.s 3) (r.s 4) (r.s 5) (r.s 6) (r.b 7) (r.b 8)] w fun e w' => e = .returned (.int .i64 (upR r)) ∧ Bel w w' := by
  by_cases h : r.s 2 < r.s 1
  · have HU : Hid (upR r = r.s 1) := hid' (by rw [upR, if_pos h])
    go_enter Try.func114, Try.ntmps114
    go_wp2_with fail
    go_ret
    refine ⟨by (rw [HU.out]; first | rfl | (simp; omega)), ?_⟩
    repeat (first | exact Bel.refl _ | assumption | refine Bel.alloc ?_ _ | refine Bel.drew ?_ | refine Bel.drewN ?_ _ | refine Bel.trans ?_ (by assumption) | refine Bel.setCell ?_ (by first | (simp; done) | (simp; omega) | (simp at *; omega)) _)
  · have HU : Hid (upR r = r.s 2) := hid' (by rw [upR, if_neg h])
    go_enter Try.func114, Try.ntmps114
    go_wp2_with fail
    go_ret
    refine ⟨by (rw [HU.out]; first | rfl | (simp; omega)), ?_⟩
    repeat (first | exact Bel.refl _ | assumption | refine Bel.alloc ?_ _ | refine Bel.drew ?_ | refine Bel.drewN ?_ _ | refine Bel.trans ?_ (by assumption) | refine Bel.setCell ?_ (by first | (simp; done) | (simp; omega) | (simp at *; omega)) _)
set_option maxRecDepth 100000 in
set_option maxHeartbeats 1000000 in
theorem copyIntsF_c (A : Option Addr) (c : Nat) (zs : List Int) (w : World) (h : Ints w A zs) (hA : A = none → c = 0) (hn : zs.length ≤ 1048576) :
    Calls Try.prog 98 #[.slice A zs.length c] w fun r w' => ∃ v, r = .returned v ∧ w'.ownsRow w.heap.size 3 1 v zs.length (VI zs) ∧ Bel w w' := by
  go_enter Try.func98, Try.ntmps98
  go_wp2_with (at_builtin; refine appS rfl _ _ rfl w.heap.size (.slice none 0 0) 0 [] rfl (own_nil _ _ _) A c zs rfl h hA (by omega) (Nat.le_refl _) ?_; intro v' w' ho' hg')
  go_ret
  refine ⟨_, rfl, ?_, (Bel.refl _).grown hg' (by simp [Value.ownBlock])⟩
  rw [Nat.zero_add, List.nil_append] at ho'
  exact ho'
/-! ### what is settled -/
def hdA (S : Fx) (B : List Nat) (i : Nat) : Bool := S.hd i || B.contains i
def zA (S S' : Fx) (B : List Nat) (i : Nat) : Int := if B.contains i = true then S'.sz i else S.sz i
theorem hdA_nil (S : Fx) (i : Nat) : hdA S [] i = S.hd i := by simp [hdA]
theorem zA_nil (S S' : Fx) (i : Nat) : zA S S' [] i = S.sz i := by simp [zA]
theorem hdA_push (S : Fx) (B : List Nat) (x i : Nat) : hdA S (B ++ [x]) i = if i = x then true else hdA S B i := by
  unfold hdA
  by_cases e : i = x
  · subst e; simp
  · rw [if_neg e]; simp [e]
theorem zA_push (S S' : Fx) (B : List Nat) (x i : Nat) : zA S S' (B ++ [x]) i = if i = x then S'.sz i else zA S S' B i := by
  unfold zA
  by_cases e : i = x
  · subst e; simp
  · rw [if_neg e]; simp [e]
section
variable {w0 w : World} {p ph pz : Nat} {A : Option Addr} {c : Nat} {L : List Rec} {gap inner : Int} {g : Bool} {H Z : Option Addr} {ch cz : Nat} {ps : Int} {S S' : Fx} {B : List Nat} {ix gh gz : Nat}
theorem Fl.put (h : Fl w0 w p ph pz A c L gap inner g H Z ch cz (hdA S B) (zA S S' B) ps) (r : Rows2F w0 w p L.length H Z (hdA S B) (zA S S' B) gh gz) (hi : ix < L.length) {v : Int} (hz : S'.sz ix = v) :
    Fl w0 ((w.setCell ⟨gh, ix, none⟩ (.bool true)).setCell ⟨gz, ix, none⟩ (.int .i64 v)) p ph pz A c L gap inner g H Z ch cz (hdA S (B ++ [ix])) (zA S S' (B ++ [ix])) ps :=
  ((h.setH r hi true).setZ (r.setH hi true) hi v).congr
    (fun i hil => by rw [hdA_push])
    (fun i hil => by rw [zA_push]; split; (rename_i e; subst e; exact hz.symm); rfl)
end
def lows (ov : Nat → Int) (fs : List Nat) : List Nat := fs.filter (fun i => decide (0 < ov i))
def highs (ov : Nat → Int) (fs : List Nat) : List Nat := fs.filter (fun i => decide (ov i < 0))
theorem lows_push (ov : Nat → Int) (fs : List Nat) (i : Nat) : lows ov (fs ++ [i]) = lows ov fs ++ (if 0 < ov i then [i] else []) := by
  unfold lows
  rw [List.filter_append]
  congr 1
  by_cases h : 0 < ov i <;> simp [h]
theorem highs_push (ov : Nat → Int) (fs : List Nat) (i : Nat) : highs ov (fs ++ [i]) = highs ov fs ++ (if ov i < 0 then [i] else []) := by
  unfold highs
  rw [List.filter_append]
  congr 1
  by_cases h : ov i < 0 <;> simp [h]
theorem some_none {ov : Nat → Int} {fs : List Nat} (h : (lows ov fs).length + (highs ov fs).length = 0) : someOf ov fs = false := by
  have h1 : lows ov fs = [] := List.eq_nil_of_length_eq_zero (by omega)
  have h2 : highs ov fs = [] := List.eq_nil_of_length_eq_zero (by omega)
  unfold someOf
  rw [List.any_eq_false]
  intro i hi
  have e1 : ¬ 0 < ov i := fun h => by
    have : i ∈ lows ov fs := List.mem_filter.2 ⟨hi, by simpa using h⟩
    rw [h1] at this; cases this
  have e2 : ¬ ov i < 0 := fun h => by
    have : i ∈ highs ov fs := List.mem_filter.2 ⟨hi, by simpa using h⟩
    rw [h2] at this; cases this
  simp
  omega
theorem some_some {ov : Nat → Int} {fs : List Nat} (h : ¬ (lows ov fs).length + (highs ov fs).length = 0) : someOf ov fs = true := by
  unfold someOf
  rw [List.any_eq_true]
  by_cases h1 : (lows ov fs).length = 0
  · obtain ⟨i, hi⟩ := List.exists_mem_of_length_pos (show 0 < (highs ov fs).length by omega)
    obtain ⟨h2, h3⟩ := List.mem_filter.1 hi
    simp at h3
    exact ⟨i, h2, by simp; omega⟩
  · obtain ⟨i, hi⟩ := List.exists_mem_of_length_pos (show 0 < (lows ov fs).length by omega)
    obtain ⟨h2, h3⟩ := List.mem_filter.1 hi
    simp at h3
    exact ⟨i, h2, by simp; omega⟩
/-- what is settled in the end, where something went over -/
def settled (ov : Nat → Int) (fs : List Nat) : List Nat := (if 0 ≤ vioOf ov fs then lows ov fs else []) ++ (if vioOf ov fs ≤ 0 then highs ov fs else [])
theorem settled_iff {ov : Nat → Int} {fs : List Nat} {i : Nat} (hi : i ∈ fs) : (settled ov fs).contains i = ((decide (0 < ov i) && decide (0 ≤ vioOf ov fs)) || (decide (ov i < 0) && decide (vioOf ov fs ≤ 0))) := by
  have m1 : i ∈ lows ov fs ↔ 0 < ov i := by unfold lows; rw [List.mem_filter]; simp [hi]
  have m2 : i ∈ highs ov fs ↔ ov i < 0 := by unfold highs; rw [List.mem_filter]; simp [hi]
  unfold settled
  rw [Bool.eq_iff_iff]
  simp only [List.contains_iff_mem, List.mem_append, Bool.or_eq_true, Bool.and_eq_true, decide_eq_true_eq]
  by_cases h1 : 0 ≤ vioOf ov fs
  · rw [if_pos h1]
    by_cases h2 : vioOf ov fs ≤ 0
    · rw [if_pos h2, m1, m2]; omega
    · rw [if_neg h2, m1]; simp; omega
  · rw [if_neg h1]
    by_cases h2 : vioOf ov fs ≤ 0
    · rw [if_pos h2, m2]; simp; omega
    · omega
/-- a struct's cells in a block -/
def FX (u : World) (gx : Nat) (r : Rec) : Prop := ∀ j v, (rcells k_item r)[j]? = some v → u.cell? ⟨gx, j, none⟩ = some v
theorem FX.bel {u w : World} {gx : Nat} {r : Rec} (h : FX u gx r) (hb : Bel u w) (hl : gx < u.heap.size) : FX w gx r := fun j v hv => (hb.cell _ _ hl).trans (h j v hv)
theorem FX.grown {u w : World} {gx : Nat} {r : Rec} {row : Option Nat} (h : FX u gx r) (hg : u.grownBy w row) (hne : some gx ≠ row) : FX w gx r := fun j v hv => hg.cell (h j v hv) hne
theorem FX.new (w : World) (r : Rec) : FX (w.alloc (.cells (rcells k_item r).toArray 48)) w.heap.size r := fun j v hv => new_cells w _ _ j v hv
theorem settled_sub {ov : Nat → Int} {fs : List Nat} {i : Nat} (h : (settled ov fs).contains i = true) : i ∈ fs := by
  rw [List.contains_iff_mem] at h
  unfold settled at h
  rcases List.mem_append.1 h with h | h
  · split at h
    · exact (List.mem_filter.1 h).1
    · cases h
  · split at h
    · exact (List.mem_filter.1 h).1
    · cases h
section
variable {L : List Rec} {g : Bool} {gap inner : Int} {S : Fx} {ov : Nat → Int}
theorem final_all (hov : stepOv L g gap inner S = ov) (hs : someOf ov (frees S.hd L.length) = false) {i : Nat} (hi : i < L.length) :
    hdA S (frees S.hd L.length) i = (stepF L g gap inner S).hd i ∧ zA S (stepF L g gap inner S) (frees S.hd L.length) i = (stepF L g gap inner S).sz i := by
  cases h : S.hd i
  · have hm : (frees S.hd L.length).contains i = true := List.contains_iff_mem.2 (frees_mem.2 ⟨hi, h⟩)
    have := (step_at h hov hs rfl rfl rfl).1
    exact ⟨by rw [hdA, hm, this]; simp, by rw [zA, if_pos hm]⟩
  · have hm : ¬ (frees S.hd L.length).contains i = true := fun e => by
      have := (frees_mem.1 (List.contains_iff_mem.1 e)).2
      rw [h] at this; cases this
    obtain ⟨h1, h2⟩ := step_held L g gap inner S i h
    exact ⟨by rw [hdA, h, h1]; rfl, by rw [zA, if_neg hm, h2]⟩
theorem final_settled (hov : stepOv L g gap inner S = ov) (hs : someOf ov (frees S.hd L.length) = true) {i : Nat} (hi : i < L.length) :
    hdA S (settled ov (frees S.hd L.length)) i = (stepF L g gap inner S).hd i ∧ zA S (stepF L g gap inner S) (settled ov (frees S.hd L.length)) i = (stepF L g gap inner S).sz i := by
  cases h : S.hd i
  · have hm : i ∈ frees S.hd L.length := frees_mem.2 ⟨hi, h⟩
    obtain ⟨e1, e2⟩ := step_at h hov hs rfl rfl rfl
    have e3 := settled_iff (ov := ov) hm
    refine ⟨by rw [hdA, h, e3, e1]; simp, ?_⟩
    rw [zA]
    split
    · rfl
    · rename_i hn
      rw [e3] at hn
      simp only [Bool.or_eq_true, Bool.and_eq_true, decide_eq_true_eq] at hn
      rw [e2, if_neg (by simp), if_neg (by omega), if_neg (by omega)]
  · have hm : ¬ (settled ov (frees S.hd L.length)).contains i = true := fun e => by
      have := (frees_mem.1 (settled_sub e)).2
      rw [h] at this; cases this
    obtain ⟨h1, h2⟩ := step_held L g gap inner S i h
    exact ⟨by rw [hdA, h, h1]; rfl, by rw [zA, if_neg hm, h2]⟩
theorem low_at (hov : stepOv L g gap inner S = ov) (hs : someOf ov (frees S.hd L.length) = true) (hv : 0 ≤ vioOf ov (frees S.hd L.length)) {i : Nat} (h : i ∈ lows ov (frees S.hd L.length)) :
    i < L.length ∧ (stepF L g gap inner S).sz i = (rec_ L i).s 1 := by
  obtain ⟨h1, h2⟩ := List.mem_filter.1 h
  obtain ⟨h3, h4⟩ := frees_mem.1 h1
  simp at h2
  refine ⟨h3, ?_⟩
  rw [(step_at h4 hov hs rfl rfl rfl).2, if_neg (by simp), if_pos ⟨h2, hv⟩]
theorem high_at (hov : stepOv L g gap inner S = ov) (hs : someOf ov (frees S.hd L.length) = true) (hv : vioOf ov (frees S.hd L.length) ≤ 0) {i : Nat} (h : i ∈ highs ov (frees S.hd L.length)) :
    i < L.length ∧ (stepF L g gap inner S).sz i = upR (rec_ L i) := by
  obtain ⟨h1, h2⟩ := List.mem_filter.1 h
  obtain ⟨h3, h4⟩ := frees_mem.1 h1
  simp at h2
  refine ⟨h3, ?_⟩
  rw [(step_at h4 hov hs rfl rfl rfl).2, if_neg (by simp), if_neg (by omega), if_pos ⟨h2, hv⟩]
theorem share_at (hov : stepOv L g gap inner S = ov) (hs : someOf ov (frees S.hd L.length) = false) {k : Nat} (hk : k < (frees S.hd L.length).length) :
    (stepF L g gap inner S).sz (fr S.hd L.length k) = clamped ((rec_ L (fr S.hd L.length k)).s 0 + at_ (stepSh L g gap inner S) k) := by
  have h4 := (fr_mem hk).2
  rw [(step_at h4 hov hs rfl rfl rfl).2, if_pos rfl, fr_rank hk]
end
theorem nat_get {l : List Nat} {q : Nat} (h : q < l.length) : ∃ i, l[q]? = some i ∧ i ∈ l ∧ at_ (natL l) q = (i : Int) ∧ l.take (q + 1) = l.take q ++ [i] := by
  refine ⟨l[q], List.getElem?_eq_getElem h, List.getElem_mem h, ?_, ?_⟩
  · unfold natL at_ List.getD
    rw [List.getElem?_map, List.getElem?_eq_getElem h]
    rfl
  · rw [List.take_add_one, List.getElem?_eq_getElem h]
    rfl
end Go.Proofs.Ytmipjhnjlpmidaa
