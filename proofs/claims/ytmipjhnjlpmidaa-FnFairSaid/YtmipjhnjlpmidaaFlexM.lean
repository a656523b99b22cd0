/- What flexing keeps in memory: a struct in block p, a row of flags and a row of sizes. -/
import Derived.Test.YtmipjhnjlpmidaaFlexD
import Derived.Test.YtmipjhnjlpmidaaApp
namespace Go.Proofs.Ytmipjhnjlpmidaa
open Go.RowKit Go.ChangeShapes Go.WideShapes
set_option linter.unusedVariables false
set_option linter.unusedSimpArgs false

theorem cell_set_off {w : World} {b o c q : Nat} {v : Value} (h : ¬ (b = c ∧ o = q)) : (w.setCell ⟨b, o, none⟩ v).cell? ⟨c, q, none⟩ = w.cell? ⟨c, q, none⟩ :=
  World.cell?_setCell_other _ _ _ _ (fun e => h (by injection e with e1 e2; exact ⟨e1, e2⟩))
theorem at_out0 {zs : List Int} {i : Nat} (h : zs.length ≤ i) : at_ zs i = 0 := by simp [at_, List.getD, List.getElem?_eq_none h]
structure Rows2F (w0 w : World) (p n : Nat) (H Z : Option Addr) (hd : Nat → Bool) (z : Nat → Int) (gh gz : Nat) : Prop where
  eh : H = some ⟨gh, 0, none⟩
  ez : Z = some ⟨gz, 0, none⟩
  hlo : w0.heap.size ≤ gh
  hlt : gh < w.heap.size
  zlo : w0.heap.size ≤ gz
  zlt : gz < w.heap.size
  hz : gh ≠ gz
  hp : gh ≠ p
  zp : gz ≠ p
  hc : ∀ i, i < n → w.cell? ⟨gh, i, none⟩ = some (.bool (hd i))
  hf : ∀ i, i < n → w.frozen? ⟨gh, i, none⟩ = false
  zc : ∀ i, i < n → w.cell? ⟨gz, i, none⟩ = some (.int .i64 (z i))
  zf : ∀ i, i < n → w.frozen? ⟨gz, i, none⟩ = false
theorem own_setN {w : World} {base n size p o : Nat} {e : TypeId} {v x : Value} {xs : List Value} (h : w.ownsRow base e size v n xs) (hp : ∀ b, v.ownBlock = some b → b ≠ p) : (w.setCell ⟨p, o, none⟩ x).ownsRow base e size v n xs :=
  h.kept (w' := w.setCell ⟨p, o, none⟩ x) (row := some p) ⟨rfl, rfl, rfl, by simp [World.setCell], fun k hk hne => Below.heap_setCell _ _ _ _ (fun e => hne (by rw [e]))⟩ (by
    cases hv : v.ownBlock with
    | none => exact .inl rfl
    | some k => right; intro e; injection e with e; exact hp k hv e)
theorem rowOf_set {n i : Nat} {f : Nat → Int} {v : Int} (hi : i < n) : (VI (rowOf n f)).set i (.int .i64 v) = VI (rowOf n (fun j => if j = i then v else f j)) := by
  apply VI_ext (by simp [VI_length, rowOf_length])
  intro j hj
  rw [rowOf_length] at hj
  rw [List.getElem?_set, rowOf_at hj]
  by_cases e : i = j
  · subst e
    rw [if_pos rfl, if_pos (by rw [VI_length, rowOf_length]; exact hj), if_pos rfl]
  · rw [if_neg e, VI_at (by rw [rowOf_length]; exact hj), rowOf_at hj, if_neg (fun h => e h.symm)]
theorem own_setZ {w : World} {base n c g i : Nat} {Z : Option Addr} {f : Nat → Int} (h : w.ownsRow base 3 1 (.slice Z n c) n (VI (rowOf n f))) (hz : Z = some ⟨g, 0, none⟩) (hi : i < n) (v : Int) : (w.setCell ⟨g, i, none⟩ (.int .i64 v)).ownsRow base 3 1 (.slice Z n c) n (VI (rowOf n (fun j => if j = i then v else f j))) := by
  subst hz
  rw [← rowOf_set hi]
  exact (h.stored i (.int .i64 v)).1
structure Fl (w0 w : World) (p ph pz : Nat) (A : Option Addr) (c : Nat) (L : List Rec) (gap inner : Int) (g : Bool) (H Z : Option Addr) (ch cz : Nat) (hd : Nat → Bool) (z : Nat → Int) (ps : Int) : Prop where
  bel : Bel w0 w
  plo : w0.heap.size ≤ p
  plt : p < w.heap.size
  c0 : w.cell? ⟨p, 0, none⟩ = some (.slice A L.length c)
  c1 : w.cell? ⟨p, 1, none⟩ = some (.int .i64 gap)
  c2 : w.cell? ⟨p, 2, none⟩ = some (.int .i64 inner)
  c3 : w.cell? ⟨p, 3, none⟩ = some (.bool g)
  kh : w.cell? ⟨p, ph, none⟩ = some (.slice H L.length ch)
  kz : w.cell? ⟨p, pz, none⟩ = some (.slice Z L.length cz)
  c6 : w.cell? ⟨p, 6, none⟩ = some (.int .i64 ps)
  f6 : w.frozen? ⟨p, 6, none⟩ = false
  zo : w.ownsRow w0.heap.size 3 1 (.slice Z L.length cz) L.length (VI (rowOf L.length z))
  zne : ∀ b, (Value.slice Z L.length cz).ownBlock = some b → b ≠ p
  row : 0 < L.length → ∃ gh gz, Rows2F w0 w p L.length H Z hd z gh gz
section
variable {w0 w w' : World} {p ph pz : Nat} {A : Option Addr} {c : Nat} {L : List Rec} {gap inner : Int} {g : Bool} {H Z : Option Addr} {ch cz : Nat} {hd hd' : Nat → Bool} {z z' : Nat → Int} {ps : Int}
theorem Rows2F.keep {n gh gz : Nat} (h : Rows2F w0 w p n H Z hd z gh gz) (hb : Bel w w') : Rows2F w0 w' p n H Z hd z gh gz :=
  ⟨h.eh, h.ez, h.hlo, Nat.lt_of_lt_of_le h.hlt hb.sz, h.zlo, Nat.lt_of_lt_of_le h.zlt hb.sz, h.hz, h.hp, h.zp, fun i hi => (hb.cell _ _ h.hlt).trans (h.hc i hi), fun i hi => (hb.frozen _ _ h.hlt).trans (h.hf i hi), fun i hi => (hb.cell _ _ h.zlt).trans (h.zc i hi), fun i hi => (hb.frozen _ _ h.zlt).trans (h.zf i hi)⟩
theorem Fl.keep (h : Fl w0 w p ph pz A c L gap inner g H Z ch cz hd z ps) (hb : Bel w w') : Fl w0 w' p ph pz A c L gap inner g H Z ch cz hd z ps :=
  ⟨h.bel.trans hb, h.plo, Nat.lt_of_lt_of_le h.plt hb.sz, (hb.cell _ _ h.plt).trans h.c0, (hb.cell _ _ h.plt).trans h.c1, (hb.cell _ _ h.plt).trans h.c2, (hb.cell _ _ h.plt).trans h.c3, (hb.cell _ _ h.plt).trans h.kh, (hb.cell _ _ h.plt).trans h.kz, (hb.cell _ _ h.plt).trans h.c6, (hb.frozen _ _ h.plt).trans h.f6, own_keep h.zo hb, h.zne, fun hn => by
    obtain ⟨gh, gz, hr⟩ := h.row hn
    exact ⟨gh, gz, hr.keep hb⟩⟩
theorem Fl.congr (h : Fl w0 w p ph pz A c L gap inner g H Z ch cz hd z ps) (h1 : ∀ i, i < L.length → hd i = hd' i) (h2 : ∀ i, i < L.length → z i = z' i) : Fl w0 w p ph pz A c L gap inner g H Z ch cz hd' z' ps :=
  ⟨h.bel, h.plo, h.plt, h.c0, h.c1, h.c2, h.c3, h.kh, h.kz, h.c6, h.f6, by rw [← rowOf_ext h2]; exact h.zo, h.zne, fun hn => by
    obtain ⟨gh, gz, r⟩ := h.row hn
    exact ⟨gh, gz, r.eh, r.ez, r.hlo, r.hlt, r.zlo, r.zlt, r.hz, r.hp, r.zp, fun i hi => by rw [← h1 i hi]; exact r.hc i hi, r.hf, fun i hi => by rw [← h2 i hi]; exact r.zc i hi, r.zf⟩⟩
theorem Fl.tick (h : Fl w0 w p ph pz A c L gap inner g H Z ch cz hd z ps) (h1 : ph ≠ 6) (h2 : pz ≠ 6) (q : Int) : Fl w0 (w.setCell ⟨p, 6, none⟩ (.int .i64 q)) p ph pz A c L gap inner g H Z ch cz hd z q :=
  ⟨h.bel.setCell h.plo _, h.plo, by simpa using h.plt, (cell_set_off (by omega)).trans h.c0, (cell_set_off (by omega)).trans h.c1, (cell_set_off (by omega)).trans h.c2, (cell_set_off (by omega)).trans h.c3, (cell_set_off (by omega)).trans h.kh, (cell_set_off (by omega)).trans h.kz, World.cell?_setCell_same _ _ _ h.c6, by simpa using h.f6, own_setN h.zo h.zne, h.zne, fun hn => by
    obtain ⟨gh, gz, r⟩ := h.row hn
    have q1 := r.hp
    have q2 := r.zp
    exact ⟨gh, gz, r.eh, r.ez, r.hlo, by simpa using r.hlt, r.zlo, by simpa using r.zlt, r.hz, r.hp, r.zp, fun i hi => (cell_set_off (by omega)).trans (r.hc i hi), fun i hi => by simpa using r.hf i hi, fun i hi => (cell_set_off (by omega)).trans (r.zc i hi), fun i hi => by simpa using r.zf i hi⟩⟩
/-- a flag of the row is set -/
theorem Fl.setH (h : Fl w0 w p ph pz A c L gap inner g H Z ch cz hd z ps) {gh gz i : Nat} (r : Rows2F w0 w p L.length H Z hd z gh gz) (hi : i < L.length) (b : Bool) : Fl w0 (w.setCell ⟨gh, i, none⟩ (.bool b)) p ph pz A c L gap inner g H Z ch cz (fun j => if j = i then b else hd j) z ps := by
  have q1 := r.hp
  have q2 := r.hz
  refine ⟨h.bel.setCell r.hlo _, h.plo, by simpa using h.plt, (cell_set_off (by omega)).trans h.c0, (cell_set_off (by omega)).trans h.c1, (cell_set_off (by omega)).trans h.c2, (cell_set_off (by omega)).trans h.c3, (cell_set_off (by omega)).trans h.kh, (cell_set_off (by omega)).trans h.kz, (cell_set_off (by omega)).trans h.c6, by simpa using h.f6, own_setN h.zo (fun b e => by rw [r.ez] at e; simp [Value.ownBlock] at e; omega), h.zne, fun hn => ⟨gh, gz, r.eh, r.ez, r.hlo, by simpa using r.hlt, r.zlo, by simpa using r.zlt, r.hz, r.hp, r.zp, fun j hj => ?_, fun j hj => by simpa using r.hf j hj, fun j hj => (cell_set_off (by omega)).trans (r.zc j hj), fun j hj => by simpa using r.zf j hj⟩⟩
  by_cases e : j = i
  · subst e; rw [if_pos rfl]; exact World.cell?_setCell_same _ _ _ (r.hc j hj)
  · rw [if_neg e]; exact (cell_set_off (by omega)).trans (r.hc j hj)
/-- a size of the row is set -/
theorem Fl.setZ (h : Fl w0 w p ph pz A c L gap inner g H Z ch cz hd z ps) {gh gz i : Nat} (r : Rows2F w0 w p L.length H Z hd z gh gz) (hi : i < L.length) (v : Int) : Fl w0 (w.setCell ⟨gz, i, none⟩ (.int .i64 v)) p ph pz A c L gap inner g H Z ch cz hd (fun j => if j = i then v else z j) ps := by
  have q1 := r.zp
  have q2 := r.hz
  refine ⟨h.bel.setCell r.zlo _, h.plo, by simpa using h.plt, (cell_set_off (by omega)).trans h.c0, (cell_set_off (by omega)).trans h.c1, (cell_set_off (by omega)).trans h.c2, (cell_set_off (by omega)).trans h.c3, (cell_set_off (by omega)).trans h.kh, (cell_set_off (by omega)).trans h.kz, (cell_set_off (by omega)).trans h.c6, by simpa using h.f6, own_setZ h.zo r.ez hi v, h.zne, fun hn => ⟨gh, gz, r.eh, r.ez, r.hlo, by simpa using r.hlt, r.zlo, by simpa using r.zlt, r.hz, r.hp, r.zp, fun j hj => (cell_set_off (by omega)).trans (r.hc j hj), fun j hj => by simpa using r.hf j hj, fun j hj => ?_, fun j hj => by simpa using r.zf j hj⟩⟩
  by_cases e : j = i
  · subst e; rw [if_pos rfl]; exact World.cell?_setCell_same _ _ _ (r.zc j hj)
  · rw [if_neg e]; exact (cell_set_off (by omega)).trans (r.zc j hj)
theorem Rows2F.setH {n gh gz i : Nat} (r : Rows2F w0 w p n H Z hd z gh gz) (hi : i < n) (b : Bool) : Rows2F w0 (w.setCell ⟨gh, i, none⟩ (.bool b)) p n H Z (fun j => if j = i then b else hd j) z gh gz := by
  have q2 := r.hz
  refine ⟨r.eh, r.ez, r.hlo, by simpa using r.hlt, r.zlo, by simpa using r.zlt, r.hz, r.hp, r.zp, fun j hj => ?_, fun j hj => by simpa using r.hf j hj, fun j hj => (cell_set_off (by omega)).trans (r.zc j hj), fun j hj => by simpa using r.zf j hj⟩
  by_cases e : j = i
  · subst e; rw [if_pos rfl]; exact World.cell?_setCell_same _ _ _ (r.hc j hj)
  · rw [if_neg e]; exact (cell_set_off (by omega)).trans (r.hc j hj)
theorem Rows2F.setZ {n gh gz i : Nat} (r : Rows2F w0 w p n H Z hd z gh gz) (hi : i < n) (v : Int) : Rows2F w0 (w.setCell ⟨gz, i, none⟩ (.int .i64 v)) p n H Z hd (fun j => if j = i then v else z j) gh gz := by
  have q2 := r.hz
  refine ⟨r.eh, r.ez, r.hlo, by simpa using r.hlt, r.zlo, by simpa using r.zlt, r.hz, r.hp, r.zp, fun j hj => (cell_set_off (by omega)).trans (r.hc j hj), fun j hj => by simpa using r.hf j hj, fun j hj => ?_, fun j hj => by simpa using r.zf j hj⟩
  by_cases e : j = i
  · subst e; rw [if_pos rfl]; exact World.cell?_setCell_same _ _ _ (r.zc j hj)
  · rw [if_neg e]; exact (cell_set_off (by omega)).trans (r.zc j hj)
theorem Fl.zint (h : Fl w0 w p ph pz A c L gap inner g H Z ch cz hd z ps) : w.ownsRow w0.heap.size 3 1 (.slice Z L.length cz) L.length (VI (rowOf L.length z)) := h.zo
theorem Fl.ints (h : Fl w0 w p ph pz A c L gap inner g H Z ch cz hd z ps) : Ints w Z (rowOf L.length z) := fun i hi => by
  rw [rowOf_length] at hi
  obtain ⟨gh, gz, r⟩ := h.row (by omega)
  refine ⟨gz, 0, r.ez, r.zlt, fun j hj => ?_⟩
  rw [rowOf_length] at hj
  rw [Nat.zero_add, rowOf_at hj]
  exact r.zc j hj
/-- the struct's block and the rows, changed at will: what lies below stays -/
theorem grown_bel {b : World} {q : Nat} (h : Bel w0 w) (hg : w.grownBy b (some q)) (hq : w0.heap.size ≤ q) : Bel w0 b := h.grown hg (fun k e => by injection e with e; omega)
end
def Off (v u : Value) : Prop := v.ownBlock = none ∨ v.ownBlock ≠ u.ownBlock
theorem Off.grow {w : World} {v v' u : Value} {base n size : Nat} {e : TypeId} {xs : List Value} (h : Off v u) (h2 : Off u v) (hu : w.ownsRow base e size u n xs) (hv : v'.ownBlock = v.ownBlock ∨ v'.ownBlock = some w.heap.size) : Off v' u ∧ Off u v' := by
  have hlt : ∀ k, u.ownBlock = some k → k < w.heap.size := fun k e => (hu.lt k e).2
  rcases hv with hv | hv
  · exact ⟨by unfold Off; rw [hv]; exact h, by unfold Off; rw [hv]; exact h2⟩
  · refine ⟨.inr (by rw [hv]; intro e; have := hlt _ e.symm; omega), ?_⟩
    cases hq : u.ownBlock with
    | none => exact .inl hq
    | some k => right; rw [hv, hq]; intro e; injection e with e; have := hlt k hq; omega
theorem own_set {w : World} {base n size p o : Nat} {e : TypeId} {v x : Value} {xs : List Value} (h : w.ownsRow base e size v n xs) (hp : p < base) : (w.setCell ⟨p, o, none⟩ x).ownsRow base e size v n xs :=
  h.kept (w' := w.setCell ⟨p, o, none⟩ x) (row := some p) ⟨rfl, rfl, rfl, by simp [World.setCell], fun k hk hne => Below.heap_setCell _ _ _ _ (fun e => hne (by rw [e]))⟩ (by
    cases hv : v.ownBlock with
    | none => exact .inl rfl
    | some k => right; intro e; injection e with e; have := (h.lt k hv).1; omega)
/-! ### the passes' plain steps -/
def natL (l : List Nat) : List Int := l.map (fun i : Nat => (i : Int))
theorem natL_length (l : List Nat) : (natL l).length = l.length := by simp [natL]
theorem natL_fr {hd : Nat → Bool} {n k : Nat} (h : k < (frees hd n).length) : at_ (natL (frees hd n)) k = (fr hd n k : Int) := by
  unfold natL at_ List.getD
  rw [List.getElem?_map, fr_eq h]
  rfl
theorem frees_skip {hd : Nat → Bool} {k : Nat} (h : hd k = true) : frees hd (k + 1) = frees hd k := by rw [frees_succ, if_pos h, List.append_nil]
theorem frees_push {hd : Nat → Bool} {k : Nat} (h : hd k = false) : frees hd (k + 1) = frees hd k ++ [k] := by rw [frees_succ, if_neg (by simp [h])]
theorem wts_push (L : List Rec) (g : Bool) (l : List Nat) (k : Nat) : wts L g (l ++ [k]) = wts L g l ++ [wt L g k] := by simp [wts]
theorem natL_push (l : List Nat) (k : Nat) : natL (l ++ [k]) = natL l ++ [(k : Int)] := by simp [natL]
theorem take_fr {hd : Nat → Bool} {n k : Nat} (h : k < (frees hd n).length) : (frees hd n).take (k + 1) = (frees hd n).take k ++ [fr hd n k] := by
  rw [List.take_add_one, fr_eq h]
  rfl
def vioTo (ov : Nat → Int) (fs : List Nat) (k : Nat) : Int := vioOf ov (fs.take k)
def someTo (ov : Nat → Int) (fs : List Nat) (k : Nat) : Bool := someOf ov (fs.take k)
theorem vioTo_succ {ov : Nat → Int} {hd : Nat → Bool} {n k : Nat} (h : k < (frees hd n).length) : vioTo ov (frees hd n) (k + 1) = vioTo ov (frees hd n) k + ov (fr hd n k) := by
  unfold vioTo vioOf
  rw [take_fr h]
  simp
theorem someTo_succ {ov : Nat → Int} {hd : Nat → Bool} {n k : Nat} (h : k < (frees hd n).length) : someTo ov (frees hd n) (k + 1) = (someTo ov (frees hd n) k || (ov (fr hd n k) != 0)) := by
  unfold someTo someOf
  rw [take_fr h]
  simp
theorem vioTo_all (ov : Nat → Int) (fs : List Nat) : vioTo ov fs fs.length = vioOf ov fs := by simp [vioTo]
theorem someTo_all (ov : Nat → Int) (fs : List Nat) : someTo ov fs fs.length = someOf ov fs := by simp [someTo]
theorem vioTo_bd {L : List Rec} {g : Bool} (h : itemsOk L = true) {all rest : Int} (ha : 0 ≤ all ∧ all ≤ 12582912000) (hr : -1048576 ≤ rest ∧ rest ≤ 1048576) (hd : Nat → Bool) (k : Nat) : -400000000000000000 ≤ vioTo (overAt L g all rest) (frees hd L.length) k ∧ vioTo (overAt L g all rest) (frees hd L.length) k ≤ 400000000000000000 := by
  have h12 := (itemsOk_at h).1
  have := sum_bd2 (overAt L g all rest) 30000000000000000 ((frees hd L.length).take k) (fun i hi => (over_facts h ha hr (frees_mem.1 (List.mem_of_mem_take hi)).1).2.2.2.2.1)
  have h2 : ((frees hd L.length).take k).length ≤ 12 := by have := frees_le hd L.length; have := List.length_take_le k (frees hd L.length); rw [List.length_take]; omega
  unfold vioTo vioOf
  omega
def ovL (ov : Nat → Int) (hd : Nat → Bool) (n m k : Nat) : List Int := (List.range m).map (fun j => if j < k then ov (fr hd n j) else 0)
theorem ovL_length (ov : Nat → Int) (hd : Nat → Bool) (n m k : Nat) : (ovL ov hd n m k).length = m := by simp [ovL]
theorem ovL_at {ov : Nat → Int} {hd : Nat → Bool} {n m k j : Nat} (h : j < m) : at_ (ovL ov hd n m k) j = if j < k then ov (fr hd n j) else 0 := by simp [at_, ovL, List.getD, h]
theorem ovL_zero (ov : Nat → Int) (hd : Nat → Bool) (n m : Nat) : ovL ov hd n m 0 = List.replicate m 0 := by
  apply ints_ext (by simp [ovL_length])
  intro j hj
  rw [ovL_length] at hj
  rw [ovL_at hj]
  simp [at_, List.getD, hj]
theorem ovL_set {ov : Nat → Int} {hd : Nat → Bool} {n m k : Nat} (h : k < m) : (VI (ovL ov hd n m k)).set k (.int .i64 (ov (fr hd n k))) = VI (ovL ov hd n m (k + 1)) := by
  apply VI_ext (by simp [VI_length, ovL_length])
  intro j hj
  rw [ovL_length] at hj
  rw [List.getElem?_set, ovL_at hj]
  by_cases e : k = j
  · subst e
    rw [if_pos rfl, if_pos (by rw [VI_length, ovL_length]; exact hj), if_pos (by omega)]
  · rw [if_neg e, VI_at (by rw [ovL_length]; exact hj), ovL_at hj]
    by_cases h2 : j < k
    · rw [if_pos h2, if_pos (by omega)]
    · rw [if_neg h2, if_neg (by omega)]
theorem ovL_skip {ov : Nat → Int} {hd : Nat → Bool} {n m k : Nat} (h : ov (fr hd n k) = 0) : ovL ov hd n m (k + 1) = ovL ov hd n m k := by
  apply ints_ext (by simp [ovL_length])
  intro j hj
  rw [ovL_length] at hj
  rw [ovL_at hj, ovL_at hj]
  by_cases h2 : j < k
  · rw [if_pos h2, if_pos (by omega)]
  · by_cases h3 : j = k
    · subst h3; rw [if_pos (by omega), if_neg h2]; exact h
    · rw [if_neg h2, if_neg (by omega)]
section
variable (L : List Rec) (S S' : Fx) (ov : Nat → Int) (fs : List Nat)
def hdK (k i : Nat) : Bool := if S.hd i = true then true else if (frees S.hd i).length < k then S'.hd i else false
def zK (k i : Nat) : Int := if S.hd i = false ∧ (frees S.hd i).length < k then baseSz L S' i else baseSz L S i
theorem hdK_zero (i : Nat) : hdK S S' 0 i = S.hd i := by
  unfold hdK
  cases S.hd i <;> simp
theorem zK_zero (i : Nat) : zK L S S' 0 i = baseSz L S i := by
  unfold zK
  rw [if_neg (by omega)]
theorem hdK_all (hk : ∀ i, S.hd i = true → S'.hd i = true) {n i : Nat} (hi : i < n) : hdK S S' (frees S.hd n).length i = S'.hd i := by
  unfold hdK
  cases h : S.hd i
  · rw [if_neg (by simp), if_pos (frees_rank_lt hi h)]
  · rw [if_pos rfl, hk i h]
theorem zK_all (hk : ∀ i, S.hd i = true → S'.hd i = true ∧ S'.sz i = S.sz i) {n i : Nat} (hi : i < n) : zK L S S' (frees S.hd n).length i = baseSz L S' i := by
  unfold zK
  cases h : S.hd i
  · rw [if_pos ⟨rfl, frees_rank_lt hi h⟩]
  · obtain ⟨h1, h2⟩ := hk i h
    rw [if_neg (by simp), baseSz, baseSz, if_pos h, if_pos h1, h2]
theorem rank_inj {n k i : Nat} (hk : k < (frees S.hd n).length) (hi : i < n) (h : S.hd i = false) (e : (frees S.hd i).length = k) : i = fr S.hd n k := by
  rw [← e, fr_of hi h]
theorem hdK_succ {n k i : Nat} (hk : k < (frees S.hd n).length) (hi : i < n) : hdK S S' (k + 1) i = if i = fr S.hd n k then S'.hd i else hdK S S' k i := by
  obtain ⟨m1, m2⟩ := fr_mem hk
  by_cases e : i = fr S.hd n k
  · subst e
    rw [if_pos rfl, hdK, if_neg (by simp [m2]), if_pos (by rw [fr_rank hk]; omega)]
  · rw [if_neg e]
    unfold hdK
    cases h : S.hd i
    · have : (frees S.hd i).length ≠ k := fun e2 => e (rank_inj S hk hi h e2)
      have e1 : ((frees S.hd i).length < k + 1) ↔ ((frees S.hd i).length < k) := by omega
      simp only [e1]
    · rfl
theorem zK_succ {n k i : Nat} (hk : k < (frees S.hd n).length) (hi : i < n) : zK L S S' (k + 1) i = if i = fr S.hd n k then baseSz L S' i else zK L S S' k i := by
  obtain ⟨m1, m2⟩ := fr_mem hk
  by_cases e : i = fr S.hd n k
  · subst e
    rw [if_pos rfl, zK, if_pos ⟨m2, by rw [fr_rank hk]; omega⟩]
  · rw [if_neg e]
    unfold zK
    cases h : S.hd i
    · have : (frees S.hd i).length ≠ k := fun e2 => e (rank_inj S hk hi h e2)
      have e1 : ((frees S.hd i).length < k + 1) ↔ ((frees S.hd i).length < k) := by omega
      simp only [e1]
    · simp
end
theorem step_at {L : List Rec} {g : Bool} {gap inner : Int} {S : Fx} {ix : Nat} (hd : S.hd ix = false) {ov : Nat → Int} (hov : stepOv L g gap inner S = ov) {sm : Bool} {vs oi shk : Int} (hs : someOf ov (frees S.hd L.length) = sm) (hv : vioOf ov (frees S.hd L.length) = vs) (ho : ov ix = oi) (hsh : at_ (stepSh L g gap inner S) (frees S.hd ix).length = shk) :
    (stepF L g gap inner S).hd ix = (!sm || (decide (0 < oi) && decide (0 ≤ vs)) || (decide (oi < 0) && decide (vs ≤ 0))) ∧
    (stepF L g gap inner S).sz ix = if sm = false then clamped ((rec_ L ix).s 0 + shk) else if 0 < oi ∧ 0 ≤ vs then (rec_ L ix).s 1 else if oi < 0 ∧ vs ≤ 0 then upR (rec_ L ix) else S.sz ix := by
  constructor
  · simp only [stepF, newHd, hd, hov, hs, hv, ho, Bool.false_or]
  · simp only [stepF, newSz, hd, hov, hs, hv, ho, hsh, Bool.false_eq_true, if_false]
theorem step_held (L : List Rec) (g : Bool) (gap inner : Int) (S : Fx) (i : Nat) (h : S.hd i = true) : (stepF L g gap inner S).hd i = true ∧ (stepF L g gap inner S).sz i = S.sz i := by
  constructor
  · simp [stepF, newHd, h]
  · simp [stepF, newSz, h]
section
variable {w0 w : World} {p ph pz : Nat} {A : Option Addr} {c : Nat} {L : List Rec} {gap inner : Int} {g : Bool} {H Z : Option Addr} {ch cz : Nat} {ps : Int} {S S' : Fx} {k ix gh gz : Nat}
theorem share_bd {n : Int} {ws : List Int} (h : weightsOk ws = true) (k : Nat) : -600000000000000000 ≤ at_ (shares n ws) k ∧ at_ (shares n ws) k ≤ 600000000000000000 := by
  rw [shares, if_pos h]
  by_cases hk : k < ws.length
  · have e : at_ (sharesTo n ws ws.length) k = shareAt n ws k := by simp [at_, sharesTo, List.getD, hk]
    rw [e, shareAt]
    have := share_facts (n := n) h hk
    omega
  · rw [at_out0 (by rw [sharesTo_length]; omega)]; omega
theorem over_neg {L : List Rec} {g : Bool} {all rest : Int} {i : Nat} (h : overAt L g all rest i < 0) : 0 ≤ (rec_ L i).s 2 := by
  unfold overAt at h
  split at h
  · omega
  · split at h
    · rename_i h2; exact h2.1
    · omega
/-- a free place is settled -/
theorem Fl.settle (h : Fl w0 w p ph pz A c L gap inner g H Z ch cz (hdK S S' k) (zK L S S' k) ps) (r : Rows2F w0 w p L.length H Z (hdK S S' k) (zK L S S' k) gh gz) (hk : k < (frees S.hd L.length).length) (hx : fr S.hd L.length k = ix) (hi : ix < L.length) {v : Int} (hh : S'.hd ix = true) (hz : baseSz L S' ix = v) :
    Fl w0 ((w.setCell ⟨gz, ix, none⟩ (.int .i64 v)).setCell ⟨gh, ix, none⟩ (.bool true)) p ph pz A c L gap inner g H Z ch cz (hdK S S' (k + 1)) (zK L S S' (k + 1)) ps :=
  ((h.setZ r hi v).setH (r.setZ hi v) hi true).congr
    (fun i hil => by rw [hdK_succ S S' hk hil, hx]; split; (rename_i e; subst e; exact hh.symm); rfl)
    (fun i hil => by rw [zK_succ L S S' hk hil, hx]; split; (rename_i e; subst e; exact hz.symm); rfl)
/-- a free place is left -/
theorem Fl.leave (h : Fl w0 w p ph pz A c L gap inner g H Z ch cz (hdK S S' k) (zK L S S' k) ps) (hk : k < (frees S.hd L.length).length) (hx : fr S.hd L.length k = ix) (hh : S'.hd ix = false) :
    Fl w0 w p ph pz A c L gap inner g H Z ch cz (hdK S S' (k + 1)) (zK L S S' (k + 1)) ps :=
  h.congr
    (fun i hil => by
      rw [hdK_succ S S' hk hil, hx]
      split
      · rename_i e
        have h1 := (fr_mem hk).2
        rw [hx] at h1
        have h2 := fr_rank hk
        rw [hx] at h2
        rw [e, hh, hdK, h2, if_neg (by rw [h1]; simp), if_neg (by omega)]
      · rfl)
    (fun i hil => by
      rw [zK_succ L S S' hk hil, hx]
      split
      · rename_i e
        have h1 := (fr_mem hk).2
        rw [hx] at h1
        have h2 := fr_rank hk
        rw [hx] at h2
        rw [e, zK, if_neg (by rw [h2]; omega), baseSz, baseSz, hh, h1]
        simp
      · rfl)
end
end Go.Proofs.Ytmipjhnjlpmidaa
