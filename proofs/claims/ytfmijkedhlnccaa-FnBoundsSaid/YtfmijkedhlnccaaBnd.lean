/- Bounds of a style, both texts: FrameSize, LeastOf, MostOf, Bounded, FixedOf, ByRatio, GivenOf. -/
import Derived.Test.YtfmijkedhlnccaaVal
import Derived.Test.YtfmijkedhlnccaaQTail
import Derived.Deep.RegionWith
import Derived.Deep.RegionHeld3
namespace Go.Proofs.Ytfmijkedhlnccaa
open Go.RowKit Go.ChangeShapes Go.WideShapes Go.BigFrame Go.Sort
set_option linter.unusedVariables false
set_option linter.unusedSimpArgs false

/-- a wide load in a quiet walk -/
theorem quiet_loadS {C : World → Prop} {K : Act → Prop} {o : Oper} {a : Act} (ty : TypeId) (x : Operand) (ho : o.op = .load ty x) (b off : Nat) (hx : a.eval x = .pointer (some ⟨b, off, none⟩)) (cs : List Value) (d : TypeDesc) (hc : ∀ w, C w → w.rangeAt b off cs)
    (hu : Try.prog.underlying ty = some d) (hd : d.isRow = true) (hi : (Try.prog.info? ty).map (·.size) = some cs.length) (hk : K (a.put o.dst (.agg cs.toArray))) : o.quiet Try.prog a C K :=
  ⟨.agg cs.toArray, fun w hw => by
    unfold Oper.quietAt execOp
    simp only [ho, hx, Instr.loadAt, Instr.sureAddr, Sem.run_bind, Sem.run_pure, Result.andThen_ok, run_loadVar_mid w b off ty cs d (hc w hw) hu hd hi]
    exact ⟨rfl, rfl⟩, hk⟩
/-- the chosen pair of a style's fields -/
def pairA (r : Rec) (i : Nat) (t : Bool) : Int := if t = true then r.s i else r.s (i + 2)
def pairB (r : Rec) (i : Nat) (t : Bool) : Int := if t = true then r.s (i + 1) else r.s (i + 3)
def twoOf (r : Rec) (i : Nat) (t : Bool) (b : Int) : Int := sizOf (pairA r i t) (pairB r i t) b
def least0 (r : Rec) (t : Bool) (b : Int) : Int := orElse (twoOf r 17 t b) 0
def leastOf (r : Rec) (t : Bool) (b : Int) : Int := if least0 r t b < frameSize r t then frameSize r t else least0 r t b
def bounded (r : Rec) (t : Bool) (b n : Int) : Int := clamped (within n (leastOf r t b) (twoOf r 21 t b))
/-- the style lies in a box -/
theorem SB_all (w : World) (r : Rec) : ∀ u, Bel (w.alloc (.cells (styleL r).toArray 31)) u → u.rangeAt w.heap.size 0 (styleL r) := fun u hu q v hq => by
  rw [Nat.zero_add]
  exact box_at hu hq
set_option maxRecDepth 100000 in
set_option maxHeartbeats 2000000 in
theorem iFrameSize_c (r : Rec) (wide : Bool) (w : World) : Calls Try.prog 15 #[styleV r, .bool wide] w fun e w' => e = .returned (.int .i64 (frameSize r wide)) ∧ Bel w w' := by
  have hr0 : (w.alloc (.cells (styleL r).toArray 31)).rangeAt w.heap.size 0 (styleL r) := range_box w (styleL r) _
  have HB : Hid (Bel w (w.alloc (.cells (styleL r).toArray 31))) := hid' ((Bel.refl w).alloc _)
  have HR := Lib.hid hr0
  have h60 := styleL_length r
  clear hr0
  cases wide
  all_goals
    go_enter Try.func15, Try.ntmps15
    unfold styleV
    go_wp2_with ((with_reducible show wpList _ _ _ (Oper.mk _ (Op.load _ _) _ _ _ _ :: _) _ _); refine wpList_load_mid rfl 31 _ rfl w.heap.size 0 rfl (styleL r) _ HR.out Try.underlying31 rfl (by rw [h60]; kernel_rfl) ?_)
    refine (iFrameOf_c r _).mono ?_; rintro e w1 ⟨rfl, hb1⟩
    go_wp2_with (first | (go_at_call 37; refine (iWideOf_c _ _ _ _ _).mono ?_; rintro e w2 ⟨rfl, hb2⟩) | (go_at_call 39; refine (iHighOf_c _ _ _ _ _).mono ?_; rintro e w2 ⟨rfl, hb2⟩))
    go_ret
    exact ⟨rfl, HB.out.trans (hb1.trans hb2)⟩
set_option maxRecDepth 100000 in
set_option maxHeartbeats 2000000 in
theorem iMostOf_c (r : Rec) (t : Bool) (b : Int) (w : World) : Calls Try.prog 8 #[styleV r, .bool t, .int .i64 b] w fun e w' => e = .returned (.int .i64 (twoOf r 21 t b)) ∧ Bel w w' := by
  have c0 := box_at (w := w) (Bel.refl (w.alloc (.cells (styleL r).toArray 31))) (i := 21) (rcells_int r rfl)
  have c1 := box_at (w := w) (Bel.refl (w.alloc (.cells (styleL r).toArray 31))) (i := 22) (rcells_int r rfl)
  have c2 := box_at (w := w) (Bel.refl (w.alloc (.cells (styleL r).toArray 31))) (i := 23) (rcells_int r rfl)
  have c3 := box_at (w := w) (Bel.refl (w.alloc (.cells (styleL r).toArray 31))) (i := 24) (rcells_int r rfl)
  have HB : Hid (Bel w (w.alloc (.cells (styleL r).toArray 31))) := hid' ((Bel.refl w).alloc _)
  cases t
  all_goals
    go_enter Try.func8, Try.ntmps8
    unfold styleV
    go_wp2_with fail
    clear c0 c1 c2 c3
    refine (iPick_c _ _ _ _ _ _).mono ?_; rintro e w1 ⟨rfl, hb1⟩
    go_wp2_with fail
    refine (iSizOf_c _ _ _ _).mono ?_; rintro e w2 ⟨rfl, hb2⟩
    go_wp2_with fail
    go_ret
    exact ⟨rfl, HB.out.trans (hb1.trans hb2)⟩
set_option maxRecDepth 100000 in
set_option maxHeartbeats 2000000 in
theorem sMostOf_c (r : Rec) (t : Bool) (b : Int) (w : World) : Calls Try.prog 11 #[styleV r, .bool t, .int .i64 b] w fun e w' => e = .returned (.int .i64 (twoOf r 21 t b)) ∧ Bel w w' := by
  have c0 := box_at (w := w) (Bel.refl (w.alloc (.cells (styleL r).toArray 31))) (i := 21) (rcells_int r rfl)
  have c1 := box_at (w := w) (Bel.refl (w.alloc (.cells (styleL r).toArray 31))) (i := 22) (rcells_int r rfl)
  have c2 := box_at (w := w) (Bel.refl (w.alloc (.cells (styleL r).toArray 31))) (i := 23) (rcells_int r rfl)
  have c3 := box_at (w := w) (Bel.refl (w.alloc (.cells (styleL r).toArray 31))) (i := 24) (rcells_int r rfl)
  have HB : Hid (Bel w (w.alloc (.cells (styleL r).toArray 31))) := hid' ((Bel.refl w).alloc _)
  cases t
  all_goals
    go_enter Try.func11, Try.ntmps11
    unfold styleV
    go_wp2_with fail
    clear c0 c1 c2 c3
    refine (sPick_c _ _ _ _ _ _).mono ?_; rintro e w1 ⟨rfl, hb1⟩
    go_wp2_with fail
    refine (sSizOf_c _ _ _ _).mono ?_; rintro e w2 ⟨rfl, hb2⟩
    go_wp2_with fail
    go_ret
    exact ⟨rfl, HB.out.trans (hb1.trans hb2)⟩
set_option maxRecDepth 100000 in
set_option maxHeartbeats 2000000 in
theorem iFixedOf_c (r : Rec) (t : Bool) (b : Int) (w : World) : Calls Try.prog 16 #[styleV r, .bool t, .int .i64 b] w fun e w' => e = .returned (.int .i64 (twoOf r 13 t b)) ∧ Bel w w' := by
  have c0 := box_at (w := w) (Bel.refl (w.alloc (.cells (styleL r).toArray 31))) (i := 13) (rcells_int r rfl)
  have c1 := box_at (w := w) (Bel.refl (w.alloc (.cells (styleL r).toArray 31))) (i := 14) (rcells_int r rfl)
  have c2 := box_at (w := w) (Bel.refl (w.alloc (.cells (styleL r).toArray 31))) (i := 15) (rcells_int r rfl)
  have c3 := box_at (w := w) (Bel.refl (w.alloc (.cells (styleL r).toArray 31))) (i := 16) (rcells_int r rfl)
  have HB : Hid (Bel w (w.alloc (.cells (styleL r).toArray 31))) := hid' ((Bel.refl w).alloc _)
  cases t
  all_goals
    go_enter Try.func16, Try.ntmps16
    unfold styleV
    go_wp2_with fail
    clear c0 c1 c2 c3
    refine (iPick_c _ _ _ _ _ _).mono ?_; rintro e w1 ⟨rfl, hb1⟩
    go_wp2_with fail
    refine (iSizOf_c _ _ _ _).mono ?_; rintro e w2 ⟨rfl, hb2⟩
    go_wp2_with fail
    go_ret
    exact ⟨rfl, HB.out.trans (hb1.trans hb2)⟩
set_option maxRecDepth 100000 in
set_option maxHeartbeats 2000000 in
theorem sFixedOf_c (r : Rec) (t : Bool) (b : Int) (w : World) : Calls Try.prog 17 #[styleV r, .bool t, .int .i64 b] w fun e w' => e = .returned (.int .i64 (twoOf r 13 t b)) ∧ Bel w w' := by
  have c0 := box_at (w := w) (Bel.refl (w.alloc (.cells (styleL r).toArray 31))) (i := 13) (rcells_int r rfl)
  have c1 := box_at (w := w) (Bel.refl (w.alloc (.cells (styleL r).toArray 31))) (i := 14) (rcells_int r rfl)
  have c2 := box_at (w := w) (Bel.refl (w.alloc (.cells (styleL r).toArray 31))) (i := 15) (rcells_int r rfl)
  have c3 := box_at (w := w) (Bel.refl (w.alloc (.cells (styleL r).toArray 31))) (i := 16) (rcells_int r rfl)
  have HB : Hid (Bel w (w.alloc (.cells (styleL r).toArray 31))) := hid' ((Bel.refl w).alloc _)
  cases t
  all_goals
    go_enter Try.func17, Try.ntmps17
    unfold styleV
    go_wp2_with fail
    clear c0 c1 c2 c3
    refine (sPick_c _ _ _ _ _ _).mono ?_; rintro e w1 ⟨rfl, hb1⟩
    go_wp2_with fail
    refine (sSizOf_c _ _ _ _).mono ?_; rintro e w2 ⟨rfl, hb2⟩
    go_wp2_with fail
    go_ret
    exact ⟨rfl, HB.out.trans (hb1.trans hb2)⟩
set_option maxRecDepth 100000 in
set_option maxHeartbeats 2000000 in
theorem sLeastOf_c (r : Rec) (t : Bool) (b : Int) (w : World) : Calls Try.prog 10 #[styleV r, .bool t, .int .i64 b] w fun e w' => e = .returned (.int .i64 (leastOf r t b)) ∧ Bel w w' := by
  have c0 := box_at (w := w) (Bel.refl (w.alloc (.cells (styleL r).toArray 31))) (i := 17) (rcells_int r rfl)
  have c1 := box_at (w := w) (Bel.refl (w.alloc (.cells (styleL r).toArray 31))) (i := 18) (rcells_int r rfl)
  have c2 := box_at (w := w) (Bel.refl (w.alloc (.cells (styleL r).toArray 31))) (i := 19) (rcells_int r rfl)
  have c3 := box_at (w := w) (Bel.refl (w.alloc (.cells (styleL r).toArray 31))) (i := 20) (rcells_int r rfl)
  have HB : Hid (Bel w (w.alloc (.cells (styleL r).toArray 31))) := hid' ((Bel.refl w).alloc _)
  have HA := Lib.hid (SB_all w r)
  have h60 := styleL_length r
  obtain ⟨l0, hl0⟩ : ∃ v, least0 r t b = v := ⟨_, rfl⟩
  obtain ⟨fs, hfs⟩ : ∃ v, frameSize r t = v := ⟨_, rfl⟩
  have HL0 : Hid (orElse (sizOf (if t = true then r.s 17 else r.s 19) (if t = true then r.s 18 else r.s 20) b) 0 = l0) := hid' hl0
  have HFS := Lib.hid hfs
  have hlo : leastOf r t b = if l0 < fs then fs else l0 := by rw [leastOf, hl0, hfs]
  rw [hlo]
  clear hlo hl0 hfs
  cases t
  all_goals
    go_enter Try.func10, Try.ntmps10
    unfold styleV
    go_wp2_with fail
    clear c0 c1 c2 c3
    refine (sPick_c _ _ _ _ _ _).mono ?_; rintro e w1 ⟨rfl, hb1⟩
    go_wp2_with fail
    refine (sSizOf_c _ _ _ _).mono ?_; rintro e w2 ⟨rfl, hb2⟩
    go_wp2_with fail
    refine (sOrElse_s _ _ _).mono ?_; rintro e w3 ⟨rfl, rfl⟩
    have e0 := HL0.out
    simp only [if_true, Bool.false_eq_true, if_false] at e0
    rw [e0]
    clear e0
    have hb3 := hb1.trans hb2
    have HR3 := Lib.hid (HA.out _ hb3)
    clear hb1 hb2
    go_wp2_with ((with_reducible show wpList _ _ _ (Oper.mk _ (Op.load 31 _) _ _ _ _ :: _) _ _); refine wpList_load_mid rfl 31 _ rfl w.heap.size 0 rfl (styleL r) _ HR3.out Try.underlying31 rfl (by rw [h60]; kernel_rfl) ?_)
    refine (sFrameSize_c _ _ _).mono ?_; rintro e w4 ⟨rfl, hb4⟩
    rw [HFS.out]
    have hb5 := hb3.trans hb4
    have HR5 := Lib.hid (HA.out _ hb5)
    clear HR3 hb4 hb3
    by_cases hlt : l0 < fs
    · go_wp2_with ((with_reducible show wpList _ _ _ (Oper.mk _ (Op.load 31 _) _ _ _ _ :: _) _ _); refine wpList_load_mid rfl 31 _ rfl w.heap.size 0 rfl (styleL r) _ HR5.out Try.underlying31 rfl (by rw [h60]; kernel_rfl) ?_)
      refine (sFrameSize_c _ _ _).mono ?_; rintro e w6 ⟨rfl, hb6⟩
      rw [HFS.out]
      go_wp2_with fail
      go_ret
      exact ⟨by first | rfl | (rw [if_pos (by omega)]; rfl), HB.out.trans (hb5.trans hb6)⟩
    · go_wp2_with fail
      go_ret
      exact ⟨by first | rfl | (rw [if_neg (by omega)]; rfl), HB.out.trans hb5⟩
set_option maxRecDepth 100000 in
set_option maxHeartbeats 2000000 in
theorem iLeastOf_c (r : Rec) (t : Bool) (b : Int) (w : World) : Calls Try.prog 7 #[styleV r, .bool t, .int .i64 b] w fun e w' => e = .returned (.int .i64 (leastOf r t b)) ∧ Bel w w' := by
  have c0 := box_at (w := w) (Bel.refl (w.alloc (.cells (styleL r).toArray 31))) (i := 17) (rcells_int r rfl)
  have c1 := box_at (w := w) (Bel.refl (w.alloc (.cells (styleL r).toArray 31))) (i := 18) (rcells_int r rfl)
  have c2 := box_at (w := w) (Bel.refl (w.alloc (.cells (styleL r).toArray 31))) (i := 19) (rcells_int r rfl)
  have c3 := box_at (w := w) (Bel.refl (w.alloc (.cells (styleL r).toArray 31))) (i := 20) (rcells_int r rfl)
  have HB : Hid (Bel w (w.alloc (.cells (styleL r).toArray 31))) := hid' ((Bel.refl w).alloc _)
  have HA := Lib.hid (SB_all w r)
  have h60 := styleL_length r
  obtain ⟨l0, hl0⟩ : ∃ v, least0 r t b = v := ⟨_, rfl⟩
  obtain ⟨fs, hfs⟩ : ∃ v, frameSize r t = v := ⟨_, rfl⟩
  obtain ⟨so, hso⟩ : ∃ v, sizOf (if t = true then r.s 17 else r.s 19) (if t = true then r.s 18 else r.s 20) b = v := ⟨_, rfl⟩
  have hl1 : orElse so 0 = l0 := by rw [← hso]; exact hl0
  have hlo : leastOf r t b = if l0 < fs then fs else l0 := by rw [leastOf, hl0, hfs]
  rw [hlo]
  clear hlo hl0
  obtain ⟨W, hW⟩ : ∃ W, W = w.alloc (.cells (styleL r).toArray 31) := ⟨_, rfl⟩
  have C1 : Hid (∀ u, Bel W u → Calls Try.prog 15 #[styleV r, .bool t] u fun e u' => e = .returned (.int .i64 fs) ∧ Below u.heap.size u u') := hid' (fun u _ => by have h1 := iFrameSize_c r t u; rw [hfs] at h1; exact h1)
  have C2 : Hid (∀ u, Bel W u → Calls Try.prog 29 #[.bool t, valV (r.s 17) (r.s 18), valV (r.s 19) (r.s 20)] u fun e u' => e = .returned (valV (if t = true then r.s 17 else r.s 19) (if t = true then r.s 18 else r.s 20)) ∧ Below u.heap.size u u') := hid' (fun u _ => iPick_c t _ _ _ _ u)
  obtain ⟨p0, hp0⟩ : ∃ v, (if t = true then r.s 17 else r.s 19) = v := ⟨_, rfl⟩
  obtain ⟨p1, hp1⟩ : ∃ v, (if t = true then r.s 18 else r.s 20) = v := ⟨_, rfl⟩
  rw [hp0, hp1] at C2 hso
  have C3 : Hid (∀ u, Bel W u → Calls Try.prog 28 #[valV p0 p1, .int .i64 b] u fun e u' => e = .returned (.int .i64 so) ∧ Below u.heap.size u u') := hid' (fun u _ => by have h1 := iSizOf_c p0 p1 b u; rw [hso] at h1; exact h1)
  have C4 : Hid (∀ u, Bel W u → Calls Try.prog 27 #[.int .i64 so, .int .i64 0] u fun e u' => e = .returned (.int .i64 l0) ∧ Below u.heap.size u u') := hid' (fun u _ => (iOrElse_s so 0 u).mono fun e u' h => ⟨by rw [h.1, hl1], by rw [h.2]; exact Below.refl _ _⟩)
  have HMX : Hid (max fs l0 = if l0 < fs then fs else l0) := hid' (by split <;> omega)
  clear hp0 hp1 hso hl1 hfs
  go_enter Try.func7, Try.ntmps7
  unfold styleV
  go_wp2_with fail
  rw [← hW] at HA HB c0 c1 c2 c3 ⊢
  clear hW
  have q0 := cell_regrown c0
  have q1 := cell_regrown c1
  have q2 := cell_regrown c2
  have q3 := cell_regrown c3
  clear c0 c1 c2 c3
  have HRQ : Hid (∀ w', (∃ p : Regrown, w' = grow (redrawn W p.d) p.os) → w'.rangeAt w.heap.size 0 (styleL r)) := hid' (by rintro w' ⟨p, rfl⟩; exact HA.out _ (below_regrown _ _ _))
  refine wp_region_quiet_tail (C := fun w' => ∃ p : Regrown, w' = grow (redrawn W p.d) p.os) 12 (by kernel_rfl) (by kernel_rfl) ⟨⟨W.drawn + 1, #[]⟩, by rw [grow_empty]; rfl⟩ ?_
  simp only [List.take_succ_cons, List.take_zero, List.drop_succ_cons, List.drop_zero]
  go_big_quiet_want
  refine quiet_loadS 31 _ rfl w.heap.size 0 rfl (styleL r) _ HRQ.out Try.underlying31 rfl (by rw [h60]; kernel_rfl) ?_
  simp only [Act.put, List.setIfInBounds_toArray, List.set_cons_succ, List.set_cons_zero]
  go_big_quiet_on
  repeat (go_big_quiet_step (first | (go_at_call 15; exact Calls.regrown_of (C1.out _ (below_regrown _ _ _))) | (go_at_call 29; exact Calls.regrown_of (C2.out _ (below_regrown _ _ _))) | (go_at_call 28; exact Calls.regrown_of (C3.out _ (below_regrown _ _ _))) | (go_at_call 27; exact Calls.regrown_of (C4.out _ (below_regrown _ _ _)))))
  refine wpQuiet_nil ?_
  intro _ hw'
  obtain ⟨⟨dq, osq⟩, hw''⟩ := hw'
  subst hw''
  have hbq : Bel W (grow (redrawn W dq) osq) := below_regrown W dq osq
  generalize grow (redrawn W dq) osq = wq at hbq ⊢
  have HBW := HB.out.trans hbq
  clear q0 q1 q2 q3 C1 C2 C3 C4
  go_wp2_with fail
  all_goals
    go_ret
    exact ⟨congrArg (fun z => Ending.returned (Value.int .i64 z)) (by first | exact HMX.out | (split <;> omega) | omega), HBW⟩
set_option maxRecDepth 100000 in
set_option maxHeartbeats 2000000 in
theorem iBounded_c (r : Rec) (t : Bool) (b n : Int) (w : World) : Calls Try.prog 6 #[styleV r, .bool t, .int .i64 b, .int .i64 n] w fun e w' => e = .returned (.int .i64 (bounded r t b n)) ∧ Bel w w' := by
  have HB : Hid (Bel w (w.alloc (.cells (styleL r).toArray 31))) := hid' ((Bel.refl w).alloc _)
  have HA := Lib.hid (SB_all w r)
  have h60 := styleL_length r
  obtain ⟨le, hle⟩ : ∃ v, leastOf r t b = v := ⟨_, rfl⟩
  obtain ⟨mo, hmo⟩ : ∃ v, twoOf r 21 t b = v := ⟨_, rfl⟩
  obtain ⟨wi, hwi⟩ : ∃ v, within n le mo = v := ⟨_, rfl⟩
  obtain ⟨cl, hcl⟩ : ∃ v, clamped wi = v := ⟨_, rfl⟩
  have hbo : bounded r t b n = cl := by rw [bounded, hle, hmo, hwi, hcl]
  rw [hbo]
  clear hbo
  obtain ⟨W, hW⟩ : ∃ W, W = w.alloc (.cells (styleL r).toArray 31) := ⟨_, rfl⟩
  have C1 : Hid (∀ u, Bel W u → Calls Try.prog 7 #[styleV r, .bool t, .int .i64 b] u fun e u' => e = .returned (.int .i64 le) ∧ Below u.heap.size u u') := hid' (fun u _ => by have h1 := iLeastOf_c r t b u; rw [hle] at h1; exact h1)
  have C2 : Hid (∀ u, Bel W u → Calls Try.prog 8 #[styleV r, .bool t, .int .i64 b] u fun e u' => e = .returned (.int .i64 mo) ∧ Below u.heap.size u u') := hid' (fun u _ => by have h1 := iMostOf_c r t b u; rw [hmo] at h1; exact h1)
  have C3 : Hid (∀ u, Bel W u → Calls Try.prog 26 #[.int .i64 n, .int .i64 le, .int .i64 mo] u fun e u' => e = .returned (.int .i64 wi) ∧ Below u.heap.size u u') := hid' (fun u _ => (iWithin_c n le mo u).mono fun e u' h => ⟨by rw [h.1, hwi], by rw [h.2]; exact Below.refl _ _⟩)
  have C4 : Hid (∀ u, Bel W u → Calls Try.prog 25 #[.int .i64 wi] u fun e u' => e = .returned (.int .i64 cl) ∧ Below u.heap.size u u') := hid' (fun u _ => (iClamped_c wi u).mono fun e u' h => ⟨by rw [h.1, hcl], by rw [h.2]; exact Below.refl _ _⟩)
  clear hle hmo hwi hcl
  go_enter Try.func6, Try.ntmps6
  unfold styleV
  go_wp2_with fail
  rw [← hW] at HA HB ⊢
  clear hW
  have HRQ : Hid (∀ w', (∃ p : Regrown, w' = grow (redrawn W p.d) p.os) → w'.rangeAt w.heap.size 0 (styleL r)) := hid' (by rintro w' ⟨p, rfl⟩; exact HA.out _ (below_regrown _ _ _))
  refine wp_region_quiet_below (by kernel_rfl) (by kernel_rfl) ?_
  repeat (first | (go_big_quiet_want; refine quiet_loadS 31 _ rfl w.heap.size 0 rfl (styleL r) _ HRQ.out Try.underlying31 rfl (by rw [h60]; kernel_rfl) ?_; simp only [Act.put, List.setIfInBounds_toArray, List.set_cons_succ, List.set_cons_zero]; go_big_quiet_on) | go_big_quiet_step (first | (go_at_call 7; exact Calls.regrown_of (C1.out _ (below_regrown _ _ _))) | (go_at_call 8; exact Calls.regrown_of (C2.out _ (below_regrown _ _ _))) | (go_at_call 26; exact Calls.regrown_of (C3.out _ (below_regrown _ _ _))) | (go_at_call 25; exact Calls.regrown_of (C4.out _ (below_regrown _ _ _)))))
  refine wpQuiet_nil ?_
  intro _ hw'
  obtain ⟨⟨dq, osq⟩, hw''⟩ := hw'
  subst hw''
  have hbq : Bel W (grow (redrawn W dq) osq) := below_regrown W dq osq
  generalize grow (redrawn W dq) osq = wq at hbq ⊢
  have HBW := HB.out.trans hbq
  clear C1 C2 C3 C4
  go_wp2_with fail
  go_ret
  exact ⟨rfl, HBW⟩
set_option maxRecDepth 100000 in
set_option maxHeartbeats 2000000 in
theorem sBounded_c (r : Rec) (t : Bool) (b n : Int) (w : World) : Calls Try.prog 9 #[styleV r, .bool t, .int .i64 b, .int .i64 n] w fun e w' => e = .returned (.int .i64 (bounded r t b n)) ∧ Bel w w' := by
  have HB : Hid (Bel w (w.alloc (.cells (styleL r).toArray 31))) := hid' ((Bel.refl w).alloc _)
  have HA := Lib.hid (SB_all w r)
  have h60 := styleL_length r
  obtain ⟨le, hle⟩ : ∃ v, leastOf r t b = v := ⟨_, rfl⟩
  obtain ⟨mo, hmo⟩ : ∃ v, twoOf r 21 t b = v := ⟨_, rfl⟩
  obtain ⟨wi, hwi⟩ : ∃ v, within n le mo = v := ⟨_, rfl⟩
  obtain ⟨cl, hcl⟩ : ∃ v, clamped wi = v := ⟨_, rfl⟩
  have hbo : bounded r t b n = cl := by rw [bounded, hle, hmo, hwi, hcl]
  rw [hbo]
  clear hbo
  obtain ⟨W, hW⟩ : ∃ W, W = w.alloc (.cells (styleL r).toArray 31) := ⟨_, rfl⟩
  have C1 : Hid (∀ u, Bel W u → Calls Try.prog 10 #[styleV r, .bool t, .int .i64 b] u fun e u' => e = .returned (.int .i64 le) ∧ Below u.heap.size u u') := hid' (fun u _ => by have h1 := sLeastOf_c r t b u; rw [hle] at h1; exact h1)
  have C2 : Hid (∀ u, Bel W u → Calls Try.prog 11 #[styleV r, .bool t, .int .i64 b] u fun e u' => e = .returned (.int .i64 mo) ∧ Below u.heap.size u u') := hid' (fun u _ => by have h1 := sMostOf_c r t b u; rw [hmo] at h1; exact h1)
  have C3 : Hid (∀ u, Bel W u → Calls Try.prog 31 #[.int .i64 n, .int .i64 le, .int .i64 mo] u fun e u' => e = .returned (.int .i64 wi) ∧ Below u.heap.size u u') := hid' (fun u _ => (sWithin_c n le mo u).mono fun e u' h => ⟨by rw [h.1, hwi], by rw [h.2]; exact Below.refl _ _⟩)
  have C4 : Hid (∀ u, Bel W u → Calls Try.prog 30 #[.int .i64 wi] u fun e u' => e = .returned (.int .i64 cl) ∧ Below u.heap.size u u') := hid' (fun u _ => (sClamped_c wi u).mono fun e u' h => ⟨by rw [h.1, hcl], by rw [h.2]; exact Below.refl _ _⟩)
  clear hle hmo hwi hcl
  go_enter Try.func9, Try.ntmps9
  unfold styleV
  go_wp2_with fail
  rw [← hW] at HA HB ⊢
  clear hW
  have HRQ : Hid (∀ w', (∃ p : Regrown, w' = grow (redrawn W p.d) p.os) → w'.rangeAt w.heap.size 0 (styleL r)) := hid' (by rintro w' ⟨p, rfl⟩; exact HA.out _ (below_regrown _ _ _))
  refine wp_region_quiet_below (by kernel_rfl) (by kernel_rfl) ?_
  repeat (first | (go_big_quiet_want; refine quiet_loadS 31 _ rfl w.heap.size 0 rfl (styleL r) _ HRQ.out Try.underlying31 rfl (by rw [h60]; kernel_rfl) ?_; simp only [Act.put, List.setIfInBounds_toArray, List.set_cons_succ, List.set_cons_zero]; go_big_quiet_on) | go_big_quiet_step (first | (go_at_call 10; exact Calls.regrown_of (C1.out _ (below_regrown _ _ _))) | (go_at_call 11; exact Calls.regrown_of (C2.out _ (below_regrown _ _ _))) | (go_at_call 31; exact Calls.regrown_of (C3.out _ (below_regrown _ _ _))) | (go_at_call 30; exact Calls.regrown_of (C4.out _ (below_regrown _ _ _)))))
  refine wpQuiet_nil ?_
  intro _ hw'
  obtain ⟨⟨dq, osq⟩, hw''⟩ := hw'
  subst hw''
  have hbq : Bel W (grow (redrawn W dq) osq) := below_regrown W dq osq
  generalize grow (redrawn W dq) osq = wq at hbq ⊢
  have HBW := HB.out.trans hbq
  clear C1 C2 C3 C4
  go_wp2_with fail
  go_ret
  exact ⟨rfl, HBW⟩
end Go.Proofs.Ytfmijkedhlnccaa
