/- The law FnBounds returns true for every argument, and leaves its arguments as they were. No condition. -/
import Derived.Test.YtfmijkedhlnccaaDrawBd
import Derived.OpenShut
import Derived.Lib.QuietBelow
import Derived.BigQuiet
import Derived.Deep.CutBlock
namespace Go.Proofs.Ytfmijkedhlnccaa
open Go.ChangeShapes Go.WideShapes Go.ChangeAt Go.RowKit Go.Sort Go.BigFrame
set_option linter.unusedVariables false
set_option linter.unusedSimpArgs false

theorem own : ownKnob Try.prog.godebug = none := by kernel_rfl
theorem laidOut : laidOutB Try.prog = true := by kernel_rfl

theorem clamped_if (n : Int) : clamped n = if n < 0 then 0 else if 1048576 < n then 1048576 else n := by
  unfold clamped brought
  (repeat' split) <;> omega
theorem within_if (n a b : Int) : (within n a b = a ∧ (n < a ∨ (0 ≤ b ∧ b < n ∧ b < a))) ∨ (within n a b = b ∧ 0 ≤ b ∧ b < n ∧ a ≤ b) ∨ (within n a b = n ∧ a ≤ n ∧ ¬ (0 ≤ b ∧ b < n)) := by
  unfold within
  simp only
  (repeat' split) <;> omega
theorem bnd_law {le mo n : Int} (hle : 0 ≤ le ∧ le ≤ 1048576) (hmo : mo = -1 ∨ 0 ≤ mo ∧ mo ≤ 1048576) :
    clamped (within (clamped (within n le mo)) le mo) = clamped (within n le mo) ∧ le ≤ clamped (within n le mo) ∧ (mo < 0 ∨ clamped (within n le mo) ≤ mo ∨ clamped (within n le mo) = le) := by
  have h1 := within_if n le mo
  have h2 := within_if (clamped (within n le mo)) le mo
  have e1 := clamped_if (within n le mo)
  have e2 := clamped_if (within (clamped (within n le mo)) le mo)
  generalize within (clamped (within n le mo)) le mo = w2 at *
  generalize clamped w2 = c2 at *
  generalize clamped (within n le mo) = c1 at *
  generalize within n le mo = w1 at *
  split at e1 <;> split at e2 <;> (repeat' split at e1) <;> (repeat' split at e2) <;> omega
theorem sizOf_bd (a b c : Int) : sizOf a b c = -1 ∨ 0 ≤ sizOf a b c ∧ sizOf a b c ≤ 1048576 := by
  unfold sizOf
  split
  · exact .inr (clamped_bd _)
  · exact .inl rfl
theorem least_bd (r : Rec) (t : Bool) (b : Int) : (0 ≤ leastOf r t b ∧ leastOf r t b ≤ 1048576) ∧ frameSize r t ≤ leastOf r t b := by
  have h1 := sizOf_bd (pairA r 17 t) (pairB r 17 t) b
  have h2 : 0 ≤ frameSize r t ∧ frameSize r t ≤ 1048576 := by
    unfold frameSize wideE highE
    split <;> exact clamped_bd _
  unfold leastOf least0 twoOf orElse
  split <;> split <;> omega
theorem bounds_law (r : Rec) (t : Bool) (b n : Int) : bounded r t b (bounded r t b n) = bounded r t b n ∧ leastOf r t b ≤ bounded r t b n ∧ (twoOf r 21 t b < 0 ∨ bounded r t b n ≤ twoOf r 21 t b ∨ bounded r t b n = leastOf r t b) ∧ frameSize r t ≤ bounded r t b n := by
  have h1 := least_bd r t b
  have h2 := bnd_law (n := n) h1.1 (sizOf_bd (pairA r 21 t) (pairB r 21 t) b)
  refine ⟨h2.1, h2.2.1, h2.2.2, Int.le_trans h1.2 h2.2.1⟩

theorem load_guarded {w : World} {ops : Array Oper} {rest : List Oper} {op : Oper} {a : Act} {Q : Exit → Act → World → Prop} (hwant : Region.wanted op (yielded ops a.tmps) = true) (ty : TypeId) (x : Operand) (ho : op.op = .load ty x)
    (b o : Nat) (hx : a.eval x = .pointer (some ⟨b, o, none⟩)) (cs : List Value) (d : TypeDesc) (hc : w.rangeAt b o cs) (hu : Try.prog.underlying ty = some d) (hd : d.isRow = true) (hi : (Try.prog.info? ty).map (·.size) = some cs.length)
    (h : wpList Try.prog ops Q rest (a.put op.dst (.agg cs.toArray)) w) : wpList Try.prog ops Q (op :: rest) a w :=
  wpList_step fun K hK => by
    rw [if_pos hwant]
    exact wp_load_mid ty x ho b o hx cs d hc hu hd hi (hK _ _ h)
structure SX (w : World) (g : Nat) (r : Rec) : Prop where
  lt : g < w.heap.size
  rng : w.rangeAt g 0 (styleL r)
  fz : ∀ j, w.frozen? ⟨g, j, none⟩ = false
theorem SX.keep {w w' : World} {g : Nat} {r : Rec} (h : SX w g r) (hb : Bel w w') : SX w' g r :=
  ⟨Nat.lt_of_lt_of_le h.lt hb.sz, range_bel h.rng hb h.lt, fun j => (hb.frozen _ _ h.lt).trans (h.fz j)⟩
theorem SX.new (w : World) (r : Rec) : SX ((w.alloc (.cells (rcells k_style Rec.zero).toArray 31)).setCells w.heap.size 0 (rcells k_style r)) w.heap.size r :=
  ⟨Nat.lt_of_lt_of_le (by simp) (setCells_gb w.heap.size (rcells k_style r) 0 (w.alloc (.cells (rcells k_style Rec.zero).toArray 31))).size, World.rangeAt_setCells_same _ _ _ _ ((BX.new w k_style Rec.zero 31).there _ (by rw [rcells_length])), fun j => by rw [frozen_setCells]; exact (BX.new w k_style Rec.zero 31).2.2 j⟩
theorem bel_new (w : World) (r : Rec) : Bel w ((w.alloc (.cells (rcells k_style Rec.zero).toArray 31)).setCells w.heap.size 0 (rcells k_style r)) :=
  ((Bel.refl w).alloc _).grown (setCells_gb w.heap.size (rcells k_style r) 0 _) (fun q e => by injection e with e; omega)
theorem SX.cell {w : World} {g i : Nat} {r : Rec} {v : Value} (h : SX w g r) (hv : (styleL r)[i]? = some v) : w.cell? ⟨g, i, none⟩ = some v := by
  have := h.rng i v hv
  rwa [Nat.zero_add] at this
theorem SX.setO {w : World} {g q : Nat} {r : Rec} (h : SX w g r) (hq : q ≠ g) (j : Nat) (v : Value) : SX (w.setCell ⟨q, j, none⟩ v) g r :=
  ⟨by simpa using h.lt, fun i u e => (cell_set_ne (by omega)).trans (h.rng i u e), fun i => by simpa using h.fz i⟩
def updR (r : Rec) (j : Nat) (n : Int) : Rec := ⟨fun i => if i = j then n else r.s i, r.b⟩
theorem SX.setI {w : World} {g j : Nat} {r : Rec} (h : SX w g r) (hk : k_style[j]? = some true) (n : Int) : SX (w.setCell ⟨g, j, none⟩ (.int .i64 n)) g (updR r j n) := by
  refine ⟨by simpa using h.lt, fun i u e => ?_, fun i => by simpa using h.fz i⟩
  rw [Nat.zero_add]
  by_cases e2 : i = j
  · subst e2
    have e3 : (styleL (updR r i n))[i]? = some (.int .i64 ((updR r i n).s i)) := rcells_int _ hk
    rw [e3] at e
    simp [updR] at e
    subst e
    exact World.cell?_setCell_same _ _ _ (h.cell (rcells_int r hk))
  · have e3 : (styleL (updR r j n))[i]? = (styleL r)[i]? := rcells_upd (r := r) (r' := updR r j n) (j := j) (fun k hk => by simp [updR, hk]) (fun k _ => rfl) e2
    rw [e3] at e
    exact (cell_set_ne (by omega)).trans (h.cell e)
set_option maxRecDepth 100000 in
set_option maxHeartbeats 400000 in
theorem point_c (n : Int) (w : World) : Calls Try.prog 14 #[.int .i64 n] w fun r w' => r = .returned (valV 1 n) ∧ Bel w w' := by
  go_enter Try.func14, Try.ntmps14
  go_wp2
  refine bodyPost_ret (v := valV 1 n) (by simp [results, Try.results14, go_sem]) rfl ⟨rfl, ?_⟩
  repeat (first | exact Bel.refl _ | assumption | refine Bel.alloc ?_ _ | refine Bel.drew ?_ | refine Bel.drewN ?_ _ | refine Bel.trans ?_ (by assumption) | refine Bel.setCell ?_ (by first | (simp; done) | (simp; omega) | (simp at *; omega)) _)
def rPlain : Rec := updR rNew 0 1
set_option maxRecDepth 100000 in
set_option maxHeartbeats 4000000 in
theorem plain_c (w : World) : Calls Try.prog 13 #[] w fun e w' => e = .returned (styleV rPlain) ∧ Bel w w' := by
  go_enter Try.func13, Try.ntmps13
  go_wp2_with ((with_reducible show wpList _ _ _ (Oper.mk _ (Op.alloc 31) _ _ _ _ :: _) _ _); refine allocR (N := 60) (L := rcells k_style Rec.zero) (by kernel_rfl) rfl rfl ?_; intro wA HA)
  refine (sStyleNew_c _).mono ?_; rintro e w1 ⟨rfl, hb1⟩
  have hbA : Bel w wA := by rw [HA.out]; exact (Bel.refl w).alloc _
  have hB2 : BX w1 w.heap.size k_style := BX.keep (by rw [HA.out]; exact BX.new w k_style Rec.zero 31) hb1
  have hb2 := hbA.trans hb1
  have hl := hB2.1
  have HS := Lib.hid (SX.new w1 rNew)
  have HN := Lib.hid (bel_new w1 rNew)
  have HTB := Lib.hid ((BX.new w1 k_style Rec.zero 31).there 60 rfl)
  have HB2 := Lib.hid hB2
  clear hB2 HA hb1 hbA
  have hne : ¬ w1.heap.size = w.heap.size := by omega
  go_wp2_with (first
    | ((with_reducible show wpList _ _ _ (Oper.mk _ (Op.alloc 31) _ _ _ _ :: _) _ _); refine allocR (N := 60) (L := rcells k_style Rec.zero) (by kernel_rfl) rfl rfl ?_; intro wB HB)
    | ((with_reducible show wpList _ _ _ (Oper.mk _ (Op.store 31 (Operand.tmp 1) _) _ _ _ _ :: _) _ _); refine storeR (N := 60) (L := rcells k_style rNew) (by kernel_rfl) rfl _ _ rfl w1.heap.size rfl rfl (by rw [rcells_length]; rfl) (rcells_one _ _) (by rw [HB.out]; exact HTB.out) ?_; intro wC HC
       have HS1 : Hid (SX wC w1.heap.size rNew) := hid' (by rw [HC.out, HB.out]; exact HS.out)
       have HN1 : Hid (Bel w1 wC) := hid' (by rw [HC.out, HB.out]; exact HN.out)
       have y0 := HS1.out.cell (i := 0) (rcells_int rNew rfl)
       have yf := HS1.out.fz 0)
    | ((with_reducible show wpList _ _ _ (Oper.mk _ (Op.load 31 _) _ _ _ _ :: _) _ _); refine load_guarded (by rfl) 31 _ rfl w1.heap.size 0 rfl (styleL rPlain) _ (HS1.out.setI (j := 0) rfl 1).rng Try.underlying31 rfl (by rw [styleL_length]; kernel_rfl) ?_)
    | ((with_reducible show wpList _ _ _ (Oper.mk _ (Op.store 31 (Operand.tmp 0) _) _ _ _ _ :: _) _ _); refine storeR (N := 60) (L := rcells k_style rPlain) (by kernel_rfl) rfl _ _ rfl w.heap.size rfl rfl (by rw [rcells_length]; rfl) (rcells_one _ _) (((HB2.out.keep HN1.out).setO (by omega) 0 (.int .i64 1)).there 60 rfl) ?_; intro wD HD))
  have R1 := World.rangeAt_setCells_same (wC.setCell ⟨w1.heap.size, 0, none⟩ (.int .i64 1)) w.heap.size 0 (rcells k_style rPlain) (((HB2.out.keep HN1.out).setO (by omega) 0 (.int .i64 1)).there _ (by rw [rcells_length]))
  have R2 : Bel w ((wC.setCell ⟨w1.heap.size, 0, none⟩ (.int .i64 1)).setCells w.heap.size 0 (rcells k_style rPlain)) := ((hb2.trans HN1.out).setCell (by show w.heap.size ≤ w1.heap.size; omega) _).grown (setCells_gb w.heap.size (rcells k_style rPlain) 0 _) (fun q e => by injection e with e; omega)
  rw [← HD.out] at R1 R2
  exact bodyPost_ret_by (results_cell_any Try.results13 _ _ w.heap.size (rcells k_style rPlain) _ rfl R1 Try.underlying31 rfl (by kernel_rfl)) rfl ⟨rfl, R2⟩
def rTest : Rec := updR (updR (updR (updR rPlain 17 1) 18 50) 21 1) 22 40
theorem test50 : bounded rTest true (-1) 10 = 50 := by decide +kernel

set_option maxRecDepth 100000 in
set_option maxHeartbeats 8000000 in
theorem lawBounds_c (A : Option Addr) (c n : Nat) (w : World) (h : Byts w A n) :
    Calls Try.prog 3 #[.slice A n c] w fun r w' => r = .returned (.bool true) ∧ Bel w w' := by
  by_cases hn : 1048576 < n
  · have hd : decide (1048576 < n) = true := by simpa using hn
    go_enter Try.func3, Try.ntmps3
    go_wp2_with fail
    refine (big_c _ _ _ _).mono ?_; rintro e w' ⟨rfl, rfl⟩
    rw [hd]
    go_wp2_with fail
    go_ret
    exact ⟨rfl, Bel.refl _⟩
  · have hd : decide (1048576 < n) = false := by simpa using hn
    go_enter Try.func3, Try.ntmps3
    go_wp2_with fail
    refine (big_c _ _ _ _).mono ?_; rintro e w' ⟨rfl, rfl⟩
    rw [hd]
    clear hd
    go_wp2_with fail
    refine (drawBounded_c _ _ _ _ h (by omega)).mono ?_; rintro e w1 ⟨r, t, b, k, rfl, hb1⟩
    have HY := Lib.hid h
    clear h
    have HS := Lib.hid (SX.new w1 r)
    have HN := Lib.hid (bel_new w1 r)
    have HTB := Lib.hid ((BX.new w1 k_style Rec.zero 31).there 60 rfl)
    go_wp2_with (first | ((with_reducible show wpList _ _ _ (Oper.mk _ (Op.alloc 31) _ _ _ _ :: _) _ _); refine allocR (N := 60) (L := rcells k_style Rec.zero) (by kernel_rfl) rfl rfl ?_; intro wB HB) | ((with_reducible show wpList _ _ _ (Oper.mk _ (Op.store 31 (Operand.tmp 3) _) _ _ _ _ :: _) _ _); refine storeR (N := 60) (L := rcells k_style r) (by kernel_rfl) rfl _ _ rfl w1.heap.size rfl rfl (by rw [rcells_length]; rfl) (rcells_one _ _) (by rw [HB.out]; exact HTB.out) ?_; intro wC HC; have S1 : Hid (SX wC w1.heap.size r) := hid' (by rw [HC.out, HB.out]; exact HS.out); have N1 : Hid (Bel w1 wC) := hid' (by rw [HC.out, HB.out]; exact HN.out)) | ((with_reducible show wpList _ _ _ (Oper.mk _ (Op.load 31 _) _ _ _ _ :: _) _ _); refine load_guarded (by rfl) 31 _ rfl w1.heap.size 0 rfl (styleL r) _ S1.out.rng Try.underlying31 rfl (by rw [styleL_length]; kernel_rfl) ?_))
    refine (iBounded_c r t b k _).mono ?_; rintro e w2 ⟨rfl, hb2⟩
    obtain ⟨bo, hbo⟩ : ∃ v, bounded r t b k = v := ⟨_, rfl⟩
    have HBO := Lib.hid hbo
    rw [hbo]
    clear hbo
    have S2 := Lib.hid (S1.out.keep hb2)
    have T2 := Lib.hid ((hb1.trans N1.out).trans hb2)
    clear HS HN HTB HB HC S1 N1 hb1 hb2
    go_wp2_with (((with_reducible show wpList _ _ _ (Oper.mk _ (Op.load 31 _) _ _ _ _ :: _) _ _); refine load_guarded (by rfl) 31 _ rfl w1.heap.size 0 rfl (styleL r) _ S2.out.rng Try.underlying31 rfl (by rw [styleL_length]; kernel_rfl) ?_))
    refine (iLeastOf_c r t b _).mono ?_; rintro e w3 ⟨rfl, hb3⟩
    obtain ⟨le, hle⟩ : ∃ v, leastOf r t b = v := ⟨_, rfl⟩
    have HLE := Lib.hid hle
    rw [hle]
    clear hle
    have S3 := Lib.hid (S2.out.keep hb3)
    have T3 := Lib.hid (T2.out.trans hb3)
    clear S2 T2 hb3
    go_wp2_with (((with_reducible show wpList _ _ _ (Oper.mk _ (Op.load 31 _) _ _ _ _ :: _) _ _); refine load_guarded (by rfl) 31 _ rfl w1.heap.size 0 rfl (styleL r) _ S3.out.rng Try.underlying31 rfl (by rw [styleL_length]; kernel_rfl) ?_))
    refine (iMostOf_c r t b _).mono ?_; rintro e w4 ⟨rfl, hb4⟩
    obtain ⟨mo, hmo⟩ : ∃ v, twoOf r 21 t b = v := ⟨_, rfl⟩
    have HMO := Lib.hid hmo
    rw [hmo]
    clear hmo
    have S4 := Lib.hid (S3.out.keep hb4)
    have T4 := Lib.hid (T3.out.trans hb4)
    clear S3 T3 hb4
    go_wp2_with (((with_reducible show wpList _ _ _ (Oper.mk _ (Op.load 31 _) _ _ _ _ :: _) _ _); refine load_guarded (by rfl) 31 _ rfl w1.heap.size 0 rfl (styleL r) _ S4.out.rng Try.underlying31 rfl (by rw [styleL_length]; kernel_rfl) ?_))
    refine (sBounded_c r t b k _).mono ?_; rintro e w5 ⟨rfl, hb5⟩
    rw [HBO.out]
    have S5 := Lib.hid (S4.out.keep hb5)
    have T5 := Lib.hid (T4.out.trans hb5)
    clear S4 T4 hb5
    go_wp2_with (((with_reducible show wpList _ _ _ (Oper.mk _ (Op.load 31 _) _ _ _ _ :: _) _ _); refine load_guarded (by rfl) 31 _ rfl w1.heap.size 0 rfl (styleL r) _ S5.out.rng Try.underlying31 rfl (by rw [styleL_length]; kernel_rfl) ?_))
    refine (sLeastOf_c r t b _).mono ?_; rintro e w6 ⟨rfl, hb6⟩
    rw [HLE.out]
    have S6 := Lib.hid (S5.out.keep hb6)
    have T6 := Lib.hid (T5.out.trans hb6)
    clear S5 T5 hb6
    go_wp2_with (((with_reducible show wpList _ _ _ (Oper.mk _ (Op.load 31 _) _ _ _ _ :: _) _ _); refine load_guarded (by rfl) 31 _ rfl w1.heap.size 0 rfl (styleL r) _ S6.out.rng Try.underlying31 rfl (by rw [styleL_length]; kernel_rfl) ?_))
    refine (sMostOf_c r t b _).mono ?_; rintro e w7 ⟨rfl, hb7⟩
    rw [HMO.out]
    have S7 := Lib.hid (S6.out.keep hb7)
    have T7 := Lib.hid (T6.out.trans hb7)
    clear S6 T6 hb7
    go_wp2_with fail
    refine (drawGivenOf_c _ _ _ _ (HY.out.keep T7.out) (by omega)).mono ?_; rintro e w8 ⟨r2, t2, b2, c2, rfl, hb8⟩
    have S8 := Lib.hid (S7.out.keep hb8)
    have T8 := Lib.hid (T7.out.trans hb8)
    clear S7 T7 hb8
    have HS := Lib.hid (SX.new w8 r2)
    have HN := Lib.hid (bel_new w8 r2)
    have HTB := Lib.hid ((BX.new w8 k_style Rec.zero 31).there 60 rfl)
    go_wp2_with (first | ((with_reducible show wpList _ _ _ (Oper.mk _ (Op.alloc 31) _ _ _ _ :: _) _ _); refine allocR (N := 60) (L := rcells k_style Rec.zero) (by kernel_rfl) rfl rfl ?_; intro wD HD) | ((with_reducible show wpList _ _ _ (Oper.mk _ (Op.store 31 (Operand.tmp 10) _) _ _ _ _ :: _) _ _); refine storeR (N := 60) (L := rcells k_style r2) (by kernel_rfl) rfl _ _ rfl w8.heap.size rfl rfl (by rw [rcells_length]; rfl) (rcells_one _ _) (by rw [HD.out]; exact HTB.out) ?_; intro wE HE; have P1 : Hid (SX wE w8.heap.size r2) := hid' (by rw [HE.out, HD.out]; exact HS.out); have N1 : Hid (Bel w8 wE) := hid' (by rw [HE.out, HD.out]; exact HN.out)))
    refine (plain_c _).mono ?_; rintro e w9 ⟨rfl, hb9⟩
    have P9 := Lib.hid (P1.out.keep hb9)
    have S9 := Lib.hid ((S8.out.keep N1.out).keep hb9)
    have T9 := Lib.hid ((T8.out.trans N1.out).trans hb9)
    have G1 : Hid (w1.heap.size < w8.heap.size) := hid' S8.out.lt
    clear HS HN HTB HD HE P1 S8 T8 N1 hb9
    have HS := Lib.hid (SX.new w9 rPlain)
    have HN := Lib.hid (bel_new w9 rPlain)
    have HTB := Lib.hid ((BX.new w9 k_style Rec.zero 31).there 60 rfl)
    go_wp2_with (first | ((with_reducible show wpList _ _ _ (Oper.mk _ (Op.alloc 31) _ _ _ _ :: _) _ _); refine allocR (N := 60) (L := rcells k_style Rec.zero) (by kernel_rfl) rfl rfl ?_; intro wF HF) | ((with_reducible show wpList _ _ _ (Oper.mk _ (Op.store 31 (Operand.tmp 14) _) _ _ _ _ :: _) _ _); refine storeR (N := 60) (L := rcells k_style rPlain) (by kernel_rfl) rfl _ _ rfl w9.heap.size rfl rfl (by rw [rcells_length]; rfl) (rcells_one _ _) (by rw [HF.out]; exact HTB.out) ?_; intro wG HG; have Q1 : Hid (SX wG w9.heap.size rPlain) := hid' (by rw [HG.out, HF.out]; exact HS.out); have N1 : Hid (Bel w9 wG) := hid' (by rw [HG.out, HF.out]; exact HN.out)))
    refine (point_c 50 _).mono ?_; rintro e w10 ⟨rfl, hb10⟩
    have Q10 := Lib.hid (Q1.out.keep hb10)
    have P10 := Lib.hid ((P9.out.keep N1.out).keep hb10)
    have S10 := Lib.hid ((S9.out.keep N1.out).keep hb10)
    have T10 := Lib.hid ((T9.out.trans N1.out).trans hb10)
    have G2 : Hid (w8.heap.size < w9.heap.size ∧ w'.heap.size ≤ w9.heap.size) := hid' ⟨P9.out.lt, T9.out.sz⟩
    clear HS HN HTB HF HG Q1 N1 P9 S9 T9 hb10
    have y0 := Q10.out.cell (i := 17) (rcells_int rPlain rfl)
    have y1 := Q10.out.cell (i := 18) (rcells_int rPlain rfl)
    have z0 := Q10.out.fz 17
    have z1 := Q10.out.fz 18
    go_wp2_with fail
    clear y0 y1 z0 z1
    refine (point_c 40 _).mono ?_; rintro e w11 ⟨rfl, hb11⟩
    have n1 : w9.heap.size ≠ w1.heap.size := by have := G1.out; have := G2.out; omega
    have n2 : w9.heap.size ≠ w8.heap.size := by have := G2.out; omega
    have Q11 := Lib.hid (((Q10.out.setI (j := 17) rfl 1).setI (j := 18) rfl 50).keep hb11)
    have P11 := Lib.hid (((P10.out.setO n2 17 (.int .i64 1)).setO n2 18 (.int .i64 50)).keep hb11)
    have S11 := Lib.hid (((S10.out.setO n1 17 (.int .i64 1)).setO n1 18 (.int .i64 50)).keep hb11)
    have T11 := Lib.hid (((T10.out.setCell (p := ⟨w9.heap.size, 17, none⟩) G2.out.2 (.int .i64 1)).setCell (p := ⟨w9.heap.size, 18, none⟩) G2.out.2 (.int .i64 50)).trans hb11)
    clear Q10 P10 S10 T10 hb11
    have y0 := Q11.out.cell (i := 21) (rcells_int _ rfl)
    have y1 := Q11.out.cell (i := 22) (rcells_int _ rfl)
    have z0 := Q11.out.fz 21
    have z1 := Q11.out.fz 22
    have Q12 := Lib.hid ((Q11.out.setI (j := 21) rfl 1).setI (j := 22) rfl 40)
    have P12 := Lib.hid ((P11.out.setO n2 21 (.int .i64 1)).setO n2 22 (.int .i64 40))
    have S12 := Lib.hid ((S11.out.setO n1 21 (.int .i64 1)).setO n1 22 (.int .i64 40))
    have T12 := Lib.hid ((T11.out.setCell (p := ⟨w9.heap.size, 21, none⟩) G2.out.2 (.int .i64 1)).setCell (p := ⟨w9.heap.size, 22, none⟩) G2.out.2 (.int .i64 40))
    obtain ⟨W, hW⟩ : ∃ W, W = (w11.setCell ⟨w9.heap.size, 21, none⟩ (.int .i64 1)).setCell ⟨w9.heap.size, 22, none⟩ (.int .i64 40) := ⟨_, rfl⟩
    rw [← hW] at Q12 P12 S12 T12
    clear Q11 P11 S11 T11
    go_wp2_with fail
    rw [← hW]
    clear hW y0 y1 z0 z1
    have hl := bounds_law r t b k
    rw [HBO.out, HLE.out, HMO.out] at hl
    obtain ⟨fs, hfs⟩ : ∃ v, frameSize r t = v := ⟨_, rfl⟩
    rw [hfs] at hl
    obtain ⟨hi1, hge, hcase, hfl⟩ := hl
    have hi2 : bounded rTest true (-1) 10 = 50 := test50
    have D1 : decide (le ≤ bo) = true := decide_eq_true hge
    have D2 : decide (fs ≤ bo) = true := decide_eq_true hfl
    obtain ⟨fx, hfx⟩ : ∃ v, twoOf r2 13 t2 b2 = v := ⟨_, rfl⟩
    obtain ⟨gv, hgv⟩ : ∃ v, givenOf r2 t2 b2 c2 = v := ⟨_, rfl⟩
    have C1 : Hid (∀ (r : Rec) (t : Bool) (b n v : Int) (u : World), bounded r t b n = v → Bel W u → Calls Try.prog 6 #[styleV r, .bool t, .int .i64 b, .int .i64 n] u fun e u' => e = .returned (.int .i64 v) ∧ Below u.heap.size u u') := hid' (fun r t b n v u hv hu => by subst hv; exact iBounded_c r t b n u)
    have C2 : Hid (∀ u, Bel W u → Calls Try.prog 15 #[styleV r, .bool t] u fun e u' => e = .returned (.int .i64 fs) ∧ Below u.heap.size u u') := hid' (fun u hu => by have h1 := iFrameSize_c r t u; rw [hfs] at h1; exact h1)
    have C3 : Hid (∀ u, Bel W u → Calls Try.prog 16 #[styleV r2, .bool t2, .int .i64 b2] u fun e u' => e = .returned (.int .i64 fx) ∧ Below u.heap.size u u') := hid' (fun u hu => by have h1 := iFixedOf_c r2 t2 b2 u; rw [hfx] at h1; exact h1)
    have C4 : Hid (∀ u, Bel W u → Calls Try.prog 17 #[styleV r2, .bool t2, .int .i64 b2] u fun e u' => e = .returned (.int .i64 fx) ∧ Below u.heap.size u u') := hid' (fun u hu => by have h1 := sFixedOf_c r2 t2 b2 u; rw [hfx] at h1; exact h1)
    have C5 : Hid (∀ u, Bel W u → Calls Try.prog 18 #[styleV r2, .bool t2, .int .i64 b2, .int .i64 c2] u fun e u' => e = .returned (.int .i64 gv) ∧ Below u.heap.size u u') := hid' (fun u hu => by have h1 := iGivenOf_c r2 t2 b2 c2 u; rw [hgv] at h1; exact h1)
    have C6 : Hid (∀ u, Bel W u → Calls Try.prog 19 #[styleV r2, .bool t2, .int .i64 b2, .int .i64 c2] u fun e u' => e = .returned (.int .i64 gv) ∧ Below u.heap.size u u') := hid' (fun u hu => by have h1 := sGivenOf_c r2 t2 b2 c2 u; rw [hgv] at h1; exact h1)
    have R3 : Hid (∀ w', (∃ p : Regrown, w' = grow (redrawn W p.d) p.os) → w'.rangeAt w1.heap.size 0 (styleL r)) := hid' (by rintro w' ⟨p, rfl⟩; exact (S12.out.keep (below_regrown _ _ _)).rng)
    have R10 : Hid (∀ w', (∃ p : Regrown, w' = grow (redrawn W p.d) p.os) → w'.rangeAt w8.heap.size 0 (styleL r2)) := hid' (by rintro w' ⟨p, rfl⟩; exact (P12.out.keep (below_regrown _ _ _)).rng)
    have R14 : Hid (∀ w', (∃ p : Regrown, w' = grow (redrawn W p.d) p.os) → w'.rangeAt w9.heap.size 0 (styleL rTest)) := hid' (by rintro w' ⟨p, rfl⟩; exact (Q12.out.keep (below_regrown _ _ _)).rng)
    clear hfs hfx hgv HBO HLE HMO S12 P12 Q12 hge hfl G1 G2 n1 n2 HY
    by_cases hm : mo < 0
    · have D3 : decide (mo < 0) = true := decide_eq_true hm
      clear hm hcase
      refine wp_region_quiet_below (by kernel_rfl) (by kernel_rfl) ?_
      repeat (first | (go_big_quiet_want; refine quiet_loadS 31 _ rfl w1.heap.size 0 rfl (styleL r) _ R3.out Try.underlying31 rfl (by rw [styleL_length]; kernel_rfl) ?_; simp only [Act.put, List.setIfInBounds_toArray, List.set_cons_succ, List.set_cons_zero]; go_big_quiet_on) | (go_big_quiet_want; refine quiet_loadS 31 _ rfl w8.heap.size 0 rfl (styleL r2) _ R10.out Try.underlying31 rfl (by rw [styleL_length]; kernel_rfl) ?_; simp only [Act.put, List.setIfInBounds_toArray, List.set_cons_succ, List.set_cons_zero]; go_big_quiet_on) | (go_big_quiet_want; refine quiet_loadS 31 _ rfl w9.heap.size 0 rfl (styleL rTest) _ R14.out Try.underlying31 rfl (by rw [styleL_length]; kernel_rfl) ?_; simp only [Act.put, List.setIfInBounds_toArray, List.set_cons_succ, List.set_cons_zero]; go_big_quiet_on) | go_big_quiet_step (first | (go_at_call 6; exact Calls.regrown_of (C1.out _ _ _ _ _ _ (by assumption) (below_regrown _ _ _))) | (go_at_call 15; exact Calls.regrown_of (C2.out _ (below_regrown _ _ _))) | (go_at_call 16; exact Calls.regrown_of (C3.out _ (below_regrown _ _ _))) | (go_at_call 17; exact Calls.regrown_of (C4.out _ (below_regrown _ _ _))) | (go_at_call 18; exact Calls.regrown_of (C5.out _ (below_regrown _ _ _))) | (go_at_call 19; exact Calls.regrown_of (C6.out _ (below_regrown _ _ _)))))
      refine wpQuiet_nil ?_
      intro _ hw'
      obtain ⟨⟨dq, osq⟩, hw''⟩ := hw'
      subst hw''
      have hbq : Bel W (grow (redrawn W dq) osq) := below_regrown W dq osq
      generalize grow (redrawn W dq) osq = wq at hbq ⊢
      have T13 := T12.out.trans hbq
      clear C1 C2 C3 C4 C5 C6 R3 R10 R14 D1 D2 hi1 hi2
      go_wp2_with fail
      go_ret
      exact ⟨rfl, T13⟩
    · have D3 : decide (mo < 0) = false := decide_eq_false hm
      by_cases hq : bo ≤ mo
      · have D4 : decide (bo ≤ mo) = true := decide_eq_true hq
        clear hm hcase hq
        refine wp_region_quiet_below (by kernel_rfl) (by kernel_rfl) ?_
        repeat (first | (go_big_quiet_want; refine quiet_loadS 31 _ rfl w1.heap.size 0 rfl (styleL r) _ R3.out Try.underlying31 rfl (by rw [styleL_length]; kernel_rfl) ?_; simp only [Act.put, List.setIfInBounds_toArray, List.set_cons_succ, List.set_cons_zero]; go_big_quiet_on) | (go_big_quiet_want; refine quiet_loadS 31 _ rfl w8.heap.size 0 rfl (styleL r2) _ R10.out Try.underlying31 rfl (by rw [styleL_length]; kernel_rfl) ?_; simp only [Act.put, List.setIfInBounds_toArray, List.set_cons_succ, List.set_cons_zero]; go_big_quiet_on) | (go_big_quiet_want; refine quiet_loadS 31 _ rfl w9.heap.size 0 rfl (styleL rTest) _ R14.out Try.underlying31 rfl (by rw [styleL_length]; kernel_rfl) ?_; simp only [Act.put, List.setIfInBounds_toArray, List.set_cons_succ, List.set_cons_zero]; go_big_quiet_on) | go_big_quiet_step (first | (go_at_call 6; exact Calls.regrown_of (C1.out _ _ _ _ _ _ (by assumption) (below_regrown _ _ _))) | (go_at_call 15; exact Calls.regrown_of (C2.out _ (below_regrown _ _ _))) | (go_at_call 16; exact Calls.regrown_of (C3.out _ (below_regrown _ _ _))) | (go_at_call 17; exact Calls.regrown_of (C4.out _ (below_regrown _ _ _))) | (go_at_call 18; exact Calls.regrown_of (C5.out _ (below_regrown _ _ _))) | (go_at_call 19; exact Calls.regrown_of (C6.out _ (below_regrown _ _ _)))))
        refine wpQuiet_nil ?_
        intro _ hw'
        obtain ⟨⟨dq, osq⟩, hw''⟩ := hw'
        subst hw''
        have hbq : Bel W (grow (redrawn W dq) osq) := below_regrown W dq osq
        generalize grow (redrawn W dq) osq = wq at hbq ⊢
        have T13 := T12.out.trans hbq
        clear C1 C2 C3 C4 C5 C6 R3 R10 R14 D1 D2 hi1 hi2
        go_wp2_with fail
        go_ret
        exact ⟨rfl, T13⟩
      · have D4 : decide (bo ≤ mo) = false := decide_eq_false hq
        have D5 : (bo == le) = true := by
          have : bo = le := by omega
          simp [this]
        clear hm hcase hq
        refine wp_region_quiet_below (by kernel_rfl) (by kernel_rfl) ?_
        repeat (first | (go_big_quiet_want; refine quiet_loadS 31 _ rfl w1.heap.size 0 rfl (styleL r) _ R3.out Try.underlying31 rfl (by rw [styleL_length]; kernel_rfl) ?_; simp only [Act.put, List.setIfInBounds_toArray, List.set_cons_succ, List.set_cons_zero]; go_big_quiet_on) | (go_big_quiet_want; refine quiet_loadS 31 _ rfl w8.heap.size 0 rfl (styleL r2) _ R10.out Try.underlying31 rfl (by rw [styleL_length]; kernel_rfl) ?_; simp only [Act.put, List.setIfInBounds_toArray, List.set_cons_succ, List.set_cons_zero]; go_big_quiet_on) | (go_big_quiet_want; refine quiet_loadS 31 _ rfl w9.heap.size 0 rfl (styleL rTest) _ R14.out Try.underlying31 rfl (by rw [styleL_length]; kernel_rfl) ?_; simp only [Act.put, List.setIfInBounds_toArray, List.set_cons_succ, List.set_cons_zero]; go_big_quiet_on) | go_big_quiet_step (first | (go_at_call 6; exact Calls.regrown_of (C1.out _ _ _ _ _ _ (by assumption) (below_regrown _ _ _))) | (go_at_call 15; exact Calls.regrown_of (C2.out _ (below_regrown _ _ _))) | (go_at_call 16; exact Calls.regrown_of (C3.out _ (below_regrown _ _ _))) | (go_at_call 17; exact Calls.regrown_of (C4.out _ (below_regrown _ _ _))) | (go_at_call 18; exact Calls.regrown_of (C5.out _ (below_regrown _ _ _))) | (go_at_call 19; exact Calls.regrown_of (C6.out _ (below_regrown _ _ _)))))
        refine wpQuiet_nil ?_
        intro _ hw'
        obtain ⟨⟨dq, osq⟩, hw''⟩ := hw'
        subst hw''
        have hbq : Bel W (grow (redrawn W dq) osq) := below_regrown W dq osq
        generalize grow (redrawn W dq) osq = wq at hbq ⊢
        have T13 := T12.out.trans hbq
        clear C1 C2 C3 C4 C5 C6 R3 R10 R14 D1 D2 hi1 hi2
        go_wp2_with fail
        go_ret
        exact ⟨rfl, T13⟩

set_option maxRecDepth 100000 in
theorem Bounds_lifted (os : Os) (started : os.Started) (H : Type) (enc : TypeId × Value → H) :
    ReturnsInHanded {} Try.checked os 3 .any (Rows.fnBoundsSpec.pre6 enc Try.prog Try.f3 Rows.fnBoundsRow.domain false) (Rows.fnBoundsSpec.post enc Try.prog Try.f3 false true false false) := by
  refine law_lifted (C := Try.checked) (tb := 4) own started (by kernel_rfl) Try.func3 laidOut rfl rfl Try.underlying4 (by kernel_rfl)
    (fun ds h => match ds, h with | [_], _ => rfl)
    (ChangeSpec.witness6 (enc := enc) (C := Try.checked) false ⟨#[], #[.slice none 0 0], []⟩ 8 (by kernel_rfl) (by kernel_rfl) (by kernel_rfl) (by kernel_rfl)) ?_
  intro W base args ds ps hval0 hA0
  have hval : ∀ (j : Nat) t v, Try.f3.params[j]? = some t → args[j]? = some v → Value.okWide Try.prog W .any base t v := hval0
  have hA : DataW.TrodAll enc Try.prog W 0 (fun _ => true) true Try.f3.params.toList args.toList ds ps := hA0
  clear hval0 hA0
  rw [Try.params3] at hA hval
  obtain ⟨v0, d0, rfl, rfl, h0⟩ := trodAll_one hA
  obtain ⟨A, c, n, rfl, -, -, hI⟩ := open_bytes Try.underlying22 Try.underlying5 (by kernel_rfl) (hval 0 22 v0 rfl rfl) h0
  exact lawBounds_c _ _ _ W hI

theorem Bounds_holds : Rows.FnBoundsSaid :=
  OpenClaim.holds_of_wide 3 Try.f3 rfl rfl rfl rfl rfl rfl rfl ⟨rfl, rfl, rfl, rfl, rfl⟩ rfl rfl rfl rfl rfl (by kernel_rfl) Try.func3 (by kernel_rfl)
    (of_decide_eq_true (by kernel_rfl)) (by unfold Func.isWrapper; first | (rw [if_pos (by decide +kernel)]; kernel_rfl) | (rw [if_neg (by decide +kernel)]; exact ⟨rfl, rfl⟩))
    (fun os started H enc _ => Bounds_lifted os started H enc)
#print axioms Bounds_holds
end Go.Proofs.Ytfmijkedhlnccaa
