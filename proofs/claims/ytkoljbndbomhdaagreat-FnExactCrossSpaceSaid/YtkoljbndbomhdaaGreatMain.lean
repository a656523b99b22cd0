/- MainSpace, CrossSpace, both sides. -/
import Derived.Test.YtkoljbndbomhdaaGreatUpW
namespace Go.Proofs.YtkoljbndbomhdaaGreat
open Go.RowKit Go.ChangeShapes Go.WideShapes Go.ChangeAt
set_option linter.unusedVariables false
set_option linter.unusedSimpArgs false

def canLayB (T : List NodeD) (n m1 n1 m2 n2 : Int) : Bool := treeOk T && isNodeB T n && spaceOk m1 n1 && spaceOk m2 n2
set_option maxRecDepth 100000 in
set_option maxHeartbeats 2000000 in
theorem iCanLay_c (A : Option Addr) (c : Nat) (T : List NodeD) (n m1 n1 m2 n2 : Int) (w : World) (h : Nodes w A T) (hn : T.length ≤ 1048576) (hkr : ∀ j, j < T.length → (node_ T j).kids.length ≤ 1048576 ∧ (node_ T j).rules.length ≤ 1048576) :
    Calls Tryz.prog 18 #[treeV A T.length c, .int .i64 n, spaceV m1 n1, spaceV m2 n2] w fun e w' => e = .returned (.bool (canLayB T n m1 n1 m2 n2)) ∧ Bel w w' := by
  obtain ⟨W, hW⟩ : ∃ W, W = ((w.alloc (.cells #[.slice A T.length c] 32)).alloc (.cells #[.int .i64 m1, .int .i64 n1] 28)).alloc (.cells #[.int .i64 m2, .int .i64 n2] 28) := ⟨_, rfl⟩
  have HWB : Hid (Bel w W) := hid' (by rw [hW]; exact (((Bel.refl w).alloc _).alloc _).alloc _)
  have z1 : (w.alloc (.cells #[.slice A T.length c] 32)).heap.size = w.heap.size + 1 := by simp
  have z2 : ((w.alloc (.cells #[.slice A T.length c] 32)).alloc (.cells #[.int .i64 m1, .int .i64 n1] 28)).heap.size = w.heap.size + 1 + 1 := by simp
  have HK : Hid (∀ u, Bel W u → u.cell? ⟨w.heap.size, 0, none⟩ = some (.slice A T.length c) ∧ u.cell? ⟨w.heap.size + 1, 0, none⟩ = some (.int .i64 m1) ∧ u.cell? ⟨w.heap.size + 1, 1, none⟩ = some (.int .i64 n1) ∧ u.cell? ⟨w.heap.size + 1 + 1, 0, none⟩ = some (.int .i64 m2) ∧ u.cell? ⟨w.heap.size + 1 + 1, 1, none⟩ = some (.int .i64 n2)) := hid' (fun u hu => by
    rw [hW] at hu
    have q1 := box_at (L := [.slice A T.length c]) (((Bel.refl _).alloc _).alloc _ |>.trans hu) (i := 0) rfl
    have q2 := box_at (L := [.int .i64 m1, .int .i64 n1]) ((Bel.refl _).alloc _ |>.trans hu) (i := 0) rfl
    have q3 := box_at (L := [.int .i64 m1, .int .i64 n1]) ((Bel.refl _).alloc _ |>.trans hu) (i := 1) rfl
    have q4 := box_at (L := [.int .i64 m2, .int .i64 n2]) hu (i := 0) rfl
    have q5 := box_at (L := [.int .i64 m2, .int .i64 n2]) hu (i := 1) rfl
    rw [z1] at q2 q3
    rw [z2] at q4 q5
    exact ⟨q1, q2, q3, q4, q5⟩)
  have HKR := Lib.hid hkr
  have HCL : Hid (canLayB T n m1 n1 m2 n2 = (treeOk T && isNodeB T n && spaceOk m1 n1 && spaceOk m2 n2)) := hid' rfl
  clear hkr z1 z2
  go_enter Tryz.func18, Tryz.ntmps18
  go_wp2_with fail
  rw [← hW]
  clear hW
  refine (iTreeOk_c _ _ _ _ (h.keep HWB.out) hn HKR.out).mono ?_; rintro e w1 ⟨rfl, hb1⟩
  cases ht : treeOk T
  · go_wp2_with fail
    go_ret
    exact ⟨by (rw [HCL.out, ht]; rfl), HWB.out.trans hb1⟩
  · have HTO := Lib.hid ht
    clear ht
    obtain ⟨c0, -, -, -, -⟩ := HK.out _ hb1
    go_wp2_with fail
    refine (iIsNode_c _ _ _ _ _).mono ?_; rintro e w2 ⟨rfl, hb2⟩
    have hb12 := hb1.trans hb2
    clear c0
    cases hnn : isNodeB T n
    · go_wp2_with fail
      go_ret
      exact ⟨by (rw [HCL.out, HTO.out, hnn]; rfl), HWB.out.trans hb12⟩
    · have HNN := Lib.hid hnn
      clear hnn
      obtain ⟨-, c1, c2, -, -⟩ := HK.out _ hb12
      go_wp2_with fail
      refine (iSpaceOk_c _ _ _).mono ?_; rintro e w3 ⟨rfl, hb3⟩
      have hb13 := hb12.trans hb3
      clear c1 c2
      cases hs : spaceOk m1 n1
      · go_wp2_with fail
        go_ret
        exact ⟨by (rw [HCL.out, HTO.out, HNN.out, hs]; rfl), HWB.out.trans hb13⟩
      · have HSS := Lib.hid hs
        clear hs
        obtain ⟨-, -, -, c3, c4⟩ := HK.out _ hb13
        go_wp2_with fail
        refine (iSpaceOk_c _ _ _).mono ?_; rintro e w4 ⟨rfl, hb4⟩
        go_wp2_with fail
        go_ret
        exact ⟨by (rw [HCL.out, HTO.out, HNN.out, HSS.out]; rfl), HWB.out.trans (hb13.trans hb4)⟩
set_option maxRecDepth 100000 in
set_option maxHeartbeats 2000000 in
theorem sCanLay_c (A : Option Addr) (c : Nat) (T : List NodeD) (n m1 n1 m2 n2 : Int) (w : World) (h : Nodes w A T) (hn : T.length ≤ 1048576) (hkr : ∀ j, j < T.length → (node_ T j).kids.length ≤ 1048576 ∧ (node_ T j).rules.length ≤ 1048576) :
    Calls Tryz.prog 15 #[treeV A T.length c, .int .i64 n, spaceV m1 n1, spaceV m2 n2] w fun e w' => e = .returned (.bool (canLayB T n m1 n1 m2 n2)) ∧ Bel w w' := by
  obtain ⟨W, hW⟩ : ∃ W, W = ((w.alloc (.cells #[.slice A T.length c] 32)).alloc (.cells #[.int .i64 m1, .int .i64 n1] 28)).alloc (.cells #[.int .i64 m2, .int .i64 n2] 28) := ⟨_, rfl⟩
  have HWB : Hid (Bel w W) := hid' (by rw [hW]; exact (((Bel.refl w).alloc _).alloc _).alloc _)
  have z1 : (w.alloc (.cells #[.slice A T.length c] 32)).heap.size = w.heap.size + 1 := by simp
  have z2 : ((w.alloc (.cells #[.slice A T.length c] 32)).alloc (.cells #[.int .i64 m1, .int .i64 n1] 28)).heap.size = w.heap.size + 1 + 1 := by simp
  have HK : Hid (∀ u, Bel W u → u.cell? ⟨w.heap.size, 0, none⟩ = some (.slice A T.length c) ∧ u.cell? ⟨w.heap.size + 1, 0, none⟩ = some (.int .i64 m1) ∧ u.cell? ⟨w.heap.size + 1, 1, none⟩ = some (.int .i64 n1) ∧ u.cell? ⟨w.heap.size + 1 + 1, 0, none⟩ = some (.int .i64 m2) ∧ u.cell? ⟨w.heap.size + 1 + 1, 1, none⟩ = some (.int .i64 n2)) := hid' (fun u hu => by
    rw [hW] at hu
    have q1 := box_at (L := [.slice A T.length c]) (((Bel.refl _).alloc _).alloc _ |>.trans hu) (i := 0) rfl
    have q2 := box_at (L := [.int .i64 m1, .int .i64 n1]) ((Bel.refl _).alloc _ |>.trans hu) (i := 0) rfl
    have q3 := box_at (L := [.int .i64 m1, .int .i64 n1]) ((Bel.refl _).alloc _ |>.trans hu) (i := 1) rfl
    have q4 := box_at (L := [.int .i64 m2, .int .i64 n2]) hu (i := 0) rfl
    have q5 := box_at (L := [.int .i64 m2, .int .i64 n2]) hu (i := 1) rfl
    rw [z1] at q2 q3
    rw [z2] at q4 q5
    exact ⟨q1, q2, q3, q4, q5⟩)
  have HKR := Lib.hid hkr
  have HCL : Hid (canLayB T n m1 n1 m2 n2 = (treeOk T && isNodeB T n && spaceOk m1 n1 && spaceOk m2 n2)) := hid' rfl
  clear hkr z1 z2
  go_enter Tryz.func15, Tryz.ntmps15
  go_wp2_with fail
  rw [← hW]
  clear hW
  refine (sTreeOk_c _ _ _ _ (h.keep HWB.out) hn HKR.out).mono ?_; rintro e w1 ⟨rfl, hb1⟩
  cases ht : treeOk T
  · go_wp2_with fail
    go_ret
    exact ⟨by (rw [HCL.out, ht]; rfl), HWB.out.trans hb1⟩
  · have HTO := Lib.hid ht
    clear ht
    obtain ⟨c0, -, -, -, -⟩ := HK.out _ hb1
    go_wp2_with fail
    refine (sIsNode_c _ _ _ _ _).mono ?_; rintro e w2 ⟨rfl, hb2⟩
    have hb12 := hb1.trans hb2
    clear c0
    cases hnn : isNodeB T n
    · go_wp2_with fail
      go_ret
      exact ⟨by (rw [HCL.out, HTO.out, hnn]; rfl), HWB.out.trans hb12⟩
    · have HNN := Lib.hid hnn
      clear hnn
      obtain ⟨-, c1, c2, -, -⟩ := HK.out _ hb12
      go_wp2_with fail
      refine (sSpaceOk_c _ _ _).mono ?_; rintro e w3 ⟨rfl, hb3⟩
      have hb13 := hb12.trans hb3
      clear c1 c2
      cases hs : spaceOk m1 n1
      · go_wp2_with fail
        go_ret
        exact ⟨by (rw [HCL.out, HTO.out, HNN.out, hs]; rfl), HWB.out.trans hb13⟩
      · have HSS := Lib.hid hs
        clear hs
        obtain ⟨-, -, -, c3, c4⟩ := HK.out _ hb13
        go_wp2_with fail
        refine (sSpaceOk_c _ _ _).mono ?_; rintro e w4 ⟨rfl, hb4⟩
        go_wp2_with fail
        go_ret
        exact ⟨by (rw [HCL.out, HTO.out, HNN.out, HSS.out]; rfl), HWB.out.trans (hb13.trans hb4)⟩
theorem ext2 {L : List Value} {o : Nat} {a b : Value} (h0 : L[o]? = some a) (h1 : L[o + 1]? = some b) : L.toArray.extract o (o + 2) = #[a, b] := by
  apply Array.toList_inj.1
  rw [List.extract_toArray, List.extract_eq_drop_take']
  apply List.ext_getElem?
  intro i
  rcases i with _ | _ | i
  · simp [List.getElem?_take, h0]
  · simp [List.getElem?_take, h1]
  · rw [List.getElem?_eq_none (by simp; omega), List.getElem?_eq_none (by simp)]
theorem field_pmain {L : List Value} {m n : Int} (h0 : L[70]? = some (.int .i64 m)) (h1 : L[70 + 1]? = some (.int .i64 n)) (w : World) : (Instr.field 54 (.agg L.toArray) 7).run Tryz.prog w = .ok (spaceV m n) w := by
  have hagg : (isAgg 28).run Tryz.prog w = .ok true w := by
    unfold isAgg
    rw [Sem.run_bind, run_underlying Tryz.underlying28 w]
    rfl
  have hsz := sizeof_of (t := 28) (n := 2) (by kernel_rfl) w
  have h2 := ext2 h0 h1
  obtain ⟨cs, hcs⟩ : ∃ cs, L.toArray = cs := ⟨_, rfl⟩
  rw [hcs] at h2 ⊢
  unfold Instr.field
  rw [Sem.run_bind, run_underlying Tryz.underlying54 w]
  simp only [Result.andThen_ok]
  show (asAgg (.agg cs) >>= fun z => part 28 z 70).run Tryz.prog w = _
  simp [asAgg, part, Sem.run_bind, hagg, hsz, h2, spaceV]
theorem field_pcross {L : List Value} {m n : Int} (h0 : L[72]? = some (.int .i64 m)) (h1 : L[72 + 1]? = some (.int .i64 n)) (w : World) : (Instr.field 54 (.agg L.toArray) 8).run Tryz.prog w = .ok (spaceV m n) w := by
  have hagg : (isAgg 28).run Tryz.prog w = .ok true w := by
    unfold isAgg
    rw [Sem.run_bind, run_underlying Tryz.underlying28 w]
    rfl
  have hsz := sizeof_of (t := 28) (n := 2) (by kernel_rfl) w
  have h2 := ext2 h0 h1
  obtain ⟨cs, hcs⟩ : ∃ cs, L.toArray = cs := ⟨_, rfl⟩
  rw [hcs] at h2 ⊢
  unfold Instr.field
  rw [Sem.run_bind, run_underlying Tryz.underlying54 w]
  simp only [Result.andThen_ok]
  show (asAgg (.agg cs) >>= fun z => part 28 z 72).run Tryz.prog w = _
  simp [asAgg, part, Sem.run_bind, hagg, hsz, h2, spaceV]
theorem field_umain {L : List Value} {m n : Int} (h0 : L[62]? = some (.int .i64 m)) (h1 : L[62 + 1]? = some (.int .i64 n)) (w : World) : (Instr.field 50 (.agg L.toArray) 3).run Tryz.prog w = .ok (spaceV m n) w := by
  have hagg : (isAgg 28).run Tryz.prog w = .ok true w := by
    unfold isAgg
    rw [Sem.run_bind, run_underlying Tryz.underlying28 w]
    rfl
  have hsz := sizeof_of (t := 28) (n := 2) (by kernel_rfl) w
  have h2 := ext2 h0 h1
  obtain ⟨cs, hcs⟩ : ∃ cs, L.toArray = cs := ⟨_, rfl⟩
  rw [hcs] at h2 ⊢
  unfold Instr.field
  rw [Sem.run_bind, run_underlying Tryz.underlying50 w]
  simp only [Result.andThen_ok]
  show (asAgg (.agg cs) >>= fun z => part 28 z 62).run Tryz.prog w = _
  simp [asAgg, part, Sem.run_bind, hagg, hsz, h2, spaceV]
theorem field_ucross {L : List Value} {m n : Int} (h0 : L[64]? = some (.int .i64 m)) (h1 : L[64 + 1]? = some (.int .i64 n)) (w : World) : (Instr.field 50 (.agg L.toArray) 4).run Tryz.prog w = .ok (spaceV m n) w := by
  have hagg : (isAgg 28).run Tryz.prog w = .ok true w := by
    unfold isAgg
    rw [Sem.run_bind, run_underlying Tryz.underlying28 w]
    rfl
  have hsz := sizeof_of (t := 28) (n := 2) (by kernel_rfl) w
  have h2 := ext2 h0 h1
  obtain ⟨cs, hcs⟩ : ∃ cs, L.toArray = cs := ⟨_, rfl⟩
  rw [hcs] at h2 ⊢
  unfold Instr.field
  rw [Sem.run_bind, run_underlying Tryz.underlying50 w]
  simp only [Result.andThen_ok]
  show (asAgg (.agg cs) >>= fun z => part 28 z 64).run Tryz.prog w = _
  simp [asAgg, part, Sem.run_bind, hagg, hsz, h2, spaceV]
def laidR (T : List NodeD) (n : Int) : Rec := (node_ T (n.toNat - 1)).style
def mainMo (T : List NodeD) (n m1 n1 m2 n2 : Int) : Int := if canLayB T n m1 n1 m2 n2 = true then mainM (isRow (laidR T n)) m1 m2 else 0
def mainNo (T : List NodeD) (n m1 n1 m2 n2 : Int) : Int := if canLayB T n m1 n1 m2 n2 = true then mainM (isRow (laidR T n)) (innerOf m1 n1 (wideE (laidR T n))) (innerOf m2 n2 (highE (laidR T n))) else 0
def crossMo (T : List NodeD) (n m1 n1 m2 n2 : Int) : Int := if canLayB T n m1 n1 m2 n2 = true then mainM (isRow (laidR T n)) m2 m1 else 0
def crossNo (T : List NodeD) (n m1 n1 m2 n2 : Int) : Int := if canLayB T n m1 n1 m2 n2 = true then mainM (isRow (laidR T n)) (innerOf m2 n2 (highE (laidR T n))) (innerOf m1 n1 (wideE (laidR T n))) else 0
set_option maxRecDepth 100000 in
set_option maxHeartbeats 2000000 in
theorem iMainSpace_c (A : Option Addr) (c : Nat) (T : List NodeD) (n m1 n1 m2 n2 : Int) (w : World) (h : Nodes w A T) (hn : T.length ≤ 1048576) (hkr : ∀ j, j < T.length → (node_ T j).kids.length ≤ 1048576 ∧ (node_ T j).rules.length ≤ 1048576) :
    Calls Tryz.prog 13 #[treeV A T.length c, .int .i64 n, spaceV m1 n1, spaceV m2 n2] w fun e w' => e = .returned (spaceV (mainMo T n m1 n1 m2 n2) (mainNo T n m1 n1 m2 n2)) ∧ Bel w w' := by
  obtain ⟨W, hW⟩ : ∃ W, W = (((w.alloc (.cells #[.slice A T.length c] 32)).alloc (.cells #[.int .i64 m1, .int .i64 n1] 28)).alloc (.cells #[.int .i64 m2, .int .i64 n2] 28)).alloc (.cells #[.int .i64 0, .int .i64 0] 28) := ⟨_, rfl⟩
  have HWB : Hid (Bel w W) := hid' (by rw [hW]; exact ((((Bel.refl w).alloc _).alloc _).alloc _).alloc _)
  have z1 : (w.alloc (.cells #[.slice A T.length c] 32)).heap.size = w.heap.size + 1 := by simp
  have z2 : ((w.alloc (.cells #[.slice A T.length c] 32)).alloc (.cells #[.int .i64 m1, .int .i64 n1] 28)).heap.size = w.heap.size + 1 + 1 := by simp
  have z3 : (((w.alloc (.cells #[.slice A T.length c] 32)).alloc (.cells #[.int .i64 m1, .int .i64 n1] 28)).alloc (.cells #[.int .i64 m2, .int .i64 n2] 28)).heap.size = w.heap.size + 1 + 1 + 1 := by simp
  have HK : Hid (∀ u, Bel W u → u.cell? ⟨w.heap.size, 0, none⟩ = some (.slice A T.length c) ∧ u.cell? ⟨w.heap.size + 1, 0, none⟩ = some (.int .i64 m1) ∧ u.cell? ⟨w.heap.size + 1, 1, none⟩ = some (.int .i64 n1) ∧ u.cell? ⟨w.heap.size + 1 + 1, 0, none⟩ = some (.int .i64 m2) ∧ u.cell? ⟨w.heap.size + 1 + 1, 1, none⟩ = some (.int .i64 n2) ∧
      u.cell? ⟨w.heap.size + 1 + 1 + 1, 0, none⟩ = some (.int .i64 0) ∧ u.cell? ⟨w.heap.size + 1 + 1 + 1, 1, none⟩ = some (.int .i64 0) ∧ u.frozen? ⟨w.heap.size + 1 + 1 + 1, 0, none⟩ = false ∧ u.frozen? ⟨w.heap.size + 1 + 1 + 1, 1, none⟩ = false) := hid' (fun u hu => by
    rw [hW] at hu
    have q1 := box_at (L := [.slice A T.length c]) ((((Bel.refl _).alloc _).alloc _).alloc _ |>.trans hu) (i := 0) rfl
    have q2 := box_at (L := [.int .i64 m1, .int .i64 n1]) (((Bel.refl _).alloc _).alloc _ |>.trans hu) (i := 0) rfl
    have q3 := box_at (L := [.int .i64 m1, .int .i64 n1]) (((Bel.refl _).alloc _).alloc _ |>.trans hu) (i := 1) rfl
    have q4 := box_at (L := [.int .i64 m2, .int .i64 n2]) ((Bel.refl _).alloc _ |>.trans hu) (i := 0) rfl
    have q5 := box_at (L := [.int .i64 m2, .int .i64 n2]) ((Bel.refl _).alloc _ |>.trans hu) (i := 1) rfl
    have q6 := box_at (L := [.int .i64 0, .int .i64 0]) hu (i := 0) rfl
    have q7 := box_at (L := [.int .i64 0, .int .i64 0]) hu (i := 1) rfl
    have q8 := box_free (L := [.int .i64 0, .int .i64 0]) hu 0
    have q9 := box_free (L := [.int .i64 0, .int .i64 0]) hu 1
    rw [z1] at q2 q3
    rw [z2] at q4 q5
    rw [z3] at q6 q7 q8 q9
    exact ⟨q1, q2, q3, q4, q5, q6, q7, q8, q9⟩)
  have HKR := Lib.hid hkr
  clear hkr z1 z2 z3
  go_enter Tryz.func13, Tryz.ntmps13
  go_wp2_with fail
  rw [← hW]
  clear hW
  refine (iCanLay_c _ _ _ _ _ _ _ _ _ (h.keep HWB.out) hn HKR.out).mono ?_; rintro e w1 ⟨rfl, hb1⟩
  obtain ⟨c0, c1, c2, c3, c4, c5, c6, f5, f6⟩ := HK.out _ hb1
  cases hok : canLayB T n m1 n1 m2 n2
  · have HM : Hid (mainMo T n m1 n1 m2 n2 = 0) := hid' (by unfold mainMo; rw [if_neg (by rw [hok]; simp)])
    have HN : Hid (mainNo T n m1 n1 m2 n2 = 0) := hid' (by unfold mainNo; rw [if_neg (by rw [hok]; simp)])
    clear hok
    go_wp2_with fail
    refine bodyPost_ret (v := spaceV 0 0) (by simp [results, Tryz.results13, go_sem, *]) rfl ⟨by rw [HM.out, HN.out], ?_⟩
    repeat (first | exact HWB.out.trans hb1 | refine Bel.setCell ?_ (by first | (simp; done) | (simp; omega)) _)
  · have hparts := hok
    unfold canLayB at hparts
    simp only [Bool.and_eq_true] at hparts
    obtain ⟨⟨⟨hto, hnn⟩, -⟩, -⟩ := hparts
    obtain ⟨j, rfl, hj⟩ := isNode_split hnn
    have ej : laidR T ((j : Int) + 1) = (node_ T j).style := by unfold laidR; rw [show ((j : Int) + 1).toNat - 1 = j by omega]
    have HM : Hid (mainMo T ((j : Int) + 1) m1 n1 m2 n2 = mainM (isRow (node_ T j).style) m1 m2) := hid' (by unfold mainMo; rw [if_pos hok, ej])
    have HN : Hid (mainNo T ((j : Int) + 1) m1 n1 m2 n2 = mainM (isRow (node_ T j).style) (innerOf m1 n1 (wideE (node_ T j).style)) (innerOf m2 n2 (highE (node_ T j).style))) := hid' (by unfold mainNo; rw [if_pos hok, ej])
    have HTO := Lib.hid hto
    clear hok hnn ej hto
    go_wp2_with fail
    refine (iPlace_c _ _ _ _ _ _ _ _ _ ((h.keep HWB.out).keep hb1) HTO.out hj).mono ?_; rintro e w2 ⟨B, l, d, rfl, hb2⟩
    obtain ⟨c0, c1, c2, c3, c4, c5, c6, f5, f6⟩ := HK.out _ (hb1.trans hb2)
    have hf := field_pmain (L := placeOf T j m1 n1 m2 n2 (.slice B l d)) ((wideL_get _ _ _ 9).trans rfl) ((wideL_get _ _ _ 10).trans rfl) w2
    go_wp2_with fail
    refine bodyPost_ret (v := spaceV (mainM (isRow (node_ T j).style) m1 m2) (mainM (isRow (node_ T j).style) (innerOf m1 n1 (wideE (node_ T j).style)) (innerOf m2 n2 (highE (node_ T j).style)))) (by simp [results, Tryz.results13, go_sem, *]) rfl ⟨by rw [HM.out, HN.out], ?_⟩
    repeat (first | exact HWB.out.trans (hb1.trans hb2) | refine Bel.setCell ?_ (by first | (simp; done) | (simp; omega)) _)
set_option maxRecDepth 100000 in
set_option maxHeartbeats 2000000 in
theorem iCrossSpace_c (A : Option Addr) (c : Nat) (T : List NodeD) (n m1 n1 m2 n2 : Int) (w : World) (h : Nodes w A T) (hn : T.length ≤ 1048576) (hkr : ∀ j, j < T.length → (node_ T j).kids.length ≤ 1048576 ∧ (node_ T j).rules.length ≤ 1048576) :
    Calls Tryz.prog 9 #[treeV A T.length c, .int .i64 n, spaceV m1 n1, spaceV m2 n2] w fun e w' => e = .returned (spaceV (crossMo T n m1 n1 m2 n2) (crossNo T n m1 n1 m2 n2)) ∧ Bel w w' := by
  obtain ⟨W, hW⟩ : ∃ W, W = (((w.alloc (.cells #[.slice A T.length c] 32)).alloc (.cells #[.int .i64 m1, .int .i64 n1] 28)).alloc (.cells #[.int .i64 m2, .int .i64 n2] 28)).alloc (.cells #[.int .i64 0, .int .i64 0] 28) := ⟨_, rfl⟩
  have HWB : Hid (Bel w W) := hid' (by rw [hW]; exact ((((Bel.refl w).alloc _).alloc _).alloc _).alloc _)
  have z1 : (w.alloc (.cells #[.slice A T.length c] 32)).heap.size = w.heap.size + 1 := by simp
  have z2 : ((w.alloc (.cells #[.slice A T.length c] 32)).alloc (.cells #[.int .i64 m1, .int .i64 n1] 28)).heap.size = w.heap.size + 1 + 1 := by simp
  have z3 : (((w.alloc (.cells #[.slice A T.length c] 32)).alloc (.cells #[.int .i64 m1, .int .i64 n1] 28)).alloc (.cells #[.int .i64 m2, .int .i64 n2] 28)).heap.size = w.heap.size + 1 + 1 + 1 := by simp
  have HK : Hid (∀ u, Bel W u → u.cell? ⟨w.heap.size, 0, none⟩ = some (.slice A T.length c) ∧ u.cell? ⟨w.heap.size + 1, 0, none⟩ = some (.int .i64 m1) ∧ u.cell? ⟨w.heap.size + 1, 1, none⟩ = some (.int .i64 n1) ∧ u.cell? ⟨w.heap.size + 1 + 1, 0, none⟩ = some (.int .i64 m2) ∧ u.cell? ⟨w.heap.size + 1 + 1, 1, none⟩ = some (.int .i64 n2) ∧
      u.cell? ⟨w.heap.size + 1 + 1 + 1, 0, none⟩ = some (.int .i64 0) ∧ u.cell? ⟨w.heap.size + 1 + 1 + 1, 1, none⟩ = some (.int .i64 0) ∧ u.frozen? ⟨w.heap.size + 1 + 1 + 1, 0, none⟩ = false ∧ u.frozen? ⟨w.heap.size + 1 + 1 + 1, 1, none⟩ = false) := hid' (fun u hu => by
    rw [hW] at hu
    have q1 := box_at (L := [.slice A T.length c]) ((((Bel.refl _).alloc _).alloc _).alloc _ |>.trans hu) (i := 0) rfl
    have q2 := box_at (L := [.int .i64 m1, .int .i64 n1]) (((Bel.refl _).alloc _).alloc _ |>.trans hu) (i := 0) rfl
    have q3 := box_at (L := [.int .i64 m1, .int .i64 n1]) (((Bel.refl _).alloc _).alloc _ |>.trans hu) (i := 1) rfl
    have q4 := box_at (L := [.int .i64 m2, .int .i64 n2]) ((Bel.refl _).alloc _ |>.trans hu) (i := 0) rfl
    have q5 := box_at (L := [.int .i64 m2, .int .i64 n2]) ((Bel.refl _).alloc _ |>.trans hu) (i := 1) rfl
    have q6 := box_at (L := [.int .i64 0, .int .i64 0]) hu (i := 0) rfl
    have q7 := box_at (L := [.int .i64 0, .int .i64 0]) hu (i := 1) rfl
    have q8 := box_free (L := [.int .i64 0, .int .i64 0]) hu 0
    have q9 := box_free (L := [.int .i64 0, .int .i64 0]) hu 1
    rw [z1] at q2 q3
    rw [z2] at q4 q5
    rw [z3] at q6 q7 q8 q9
    exact ⟨q1, q2, q3, q4, q5, q6, q7, q8, q9⟩)
  have HKR := Lib.hid hkr
  clear hkr z1 z2 z3
  go_enter Tryz.func9, Tryz.ntmps9
  go_wp2_with fail
  rw [← hW]
  clear hW
  refine (iCanLay_c _ _ _ _ _ _ _ _ _ (h.keep HWB.out) hn HKR.out).mono ?_; rintro e w1 ⟨rfl, hb1⟩
  obtain ⟨c0, c1, c2, c3, c4, c5, c6, f5, f6⟩ := HK.out _ hb1
  cases hok : canLayB T n m1 n1 m2 n2
  · have HM : Hid (crossMo T n m1 n1 m2 n2 = 0) := hid' (by unfold crossMo; rw [if_neg (by rw [hok]; simp)])
    have HN : Hid (crossNo T n m1 n1 m2 n2 = 0) := hid' (by unfold crossNo; rw [if_neg (by rw [hok]; simp)])
    clear hok
    go_wp2_with fail
    refine bodyPost_ret (v := spaceV 0 0) (by simp [results, Tryz.results9, go_sem, *]) rfl ⟨by rw [HM.out, HN.out], ?_⟩
    repeat (first | exact HWB.out.trans hb1 | refine Bel.setCell ?_ (by first | (simp; done) | (simp; omega)) _)
  · have hparts := hok
    unfold canLayB at hparts
    simp only [Bool.and_eq_true] at hparts
    obtain ⟨⟨⟨hto, hnn⟩, -⟩, -⟩ := hparts
    obtain ⟨j, rfl, hj⟩ := isNode_split hnn
    have ej : laidR T ((j : Int) + 1) = (node_ T j).style := by unfold laidR; rw [show ((j : Int) + 1).toNat - 1 = j by omega]
    have HM : Hid (crossMo T ((j : Int) + 1) m1 n1 m2 n2 = mainM (isRow (node_ T j).style) m2 m1) := hid' (by unfold crossMo; rw [if_pos hok, ej])
    have HN : Hid (crossNo T ((j : Int) + 1) m1 n1 m2 n2 = mainM (isRow (node_ T j).style) (innerOf m2 n2 (highE (node_ T j).style)) (innerOf m1 n1 (wideE (node_ T j).style))) := hid' (by unfold crossNo; rw [if_pos hok, ej])
    have HTO := Lib.hid hto
    clear hok hnn ej hto
    go_wp2_with fail
    refine (iPlace_c _ _ _ _ _ _ _ _ _ ((h.keep HWB.out).keep hb1) HTO.out hj).mono ?_; rintro e w2 ⟨B, l, d, rfl, hb2⟩
    obtain ⟨c0, c1, c2, c3, c4, c5, c6, f5, f6⟩ := HK.out _ (hb1.trans hb2)
    have hf := field_pcross (L := placeOf T j m1 n1 m2 n2 (.slice B l d)) ((wideL_get _ _ _ 11).trans rfl) ((wideL_get _ _ _ 12).trans rfl) w2
    go_wp2_with fail
    refine bodyPost_ret (v := spaceV (mainM (isRow (node_ T j).style) m2 m1) (mainM (isRow (node_ T j).style) (innerOf m2 n2 (highE (node_ T j).style)) (innerOf m1 n1 (wideE (node_ T j).style)))) (by simp [results, Tryz.results9, go_sem, *]) rfl ⟨by rw [HM.out, HN.out], ?_⟩
    repeat (first | exact HWB.out.trans (hb1.trans hb2) | refine Bel.setCell ?_ (by first | (simp; done) | (simp; omega)) _)
set_option maxRecDepth 100000 in
set_option maxHeartbeats 2000000 in
theorem sMainSpace_c (A : Option Addr) (c : Nat) (T : List NodeD) (n m1 n1 m2 n2 : Int) (w : World) (h : Nodes w A T) (hn : T.length ≤ 1048576) (hkr : ∀ j, j < T.length → (node_ T j).kids.length ≤ 1048576 ∧ (node_ T j).rules.length ≤ 1048576) :
    Calls Tryz.prog 12 #[treeV A T.length c, .int .i64 n, spaceV m1 n1, spaceV m2 n2] w fun e w' => e = .returned (spaceV (mainMo T n m1 n1 m2 n2) (mainNo T n m1 n1 m2 n2)) ∧ Bel w w' := by
  obtain ⟨W, hW⟩ : ∃ W, W = (((w.alloc (.cells #[.slice A T.length c] 32)).alloc (.cells #[.int .i64 m1, .int .i64 n1] 28)).alloc (.cells #[.int .i64 m2, .int .i64 n2] 28)).alloc (.cells #[.int .i64 0, .int .i64 0] 28) := ⟨_, rfl⟩
  have HWB : Hid (Bel w W) := hid' (by rw [hW]; exact ((((Bel.refl w).alloc _).alloc _).alloc _).alloc _)
  have z1 : (w.alloc (.cells #[.slice A T.length c] 32)).heap.size = w.heap.size + 1 := by simp
  have z2 : ((w.alloc (.cells #[.slice A T.length c] 32)).alloc (.cells #[.int .i64 m1, .int .i64 n1] 28)).heap.size = w.heap.size + 1 + 1 := by simp
  have z3 : (((w.alloc (.cells #[.slice A T.length c] 32)).alloc (.cells #[.int .i64 m1, .int .i64 n1] 28)).alloc (.cells #[.int .i64 m2, .int .i64 n2] 28)).heap.size = w.heap.size + 1 + 1 + 1 := by simp
  have HK : Hid (∀ u, Bel W u → u.cell? ⟨w.heap.size, 0, none⟩ = some (.slice A T.length c) ∧ u.cell? ⟨w.heap.size + 1, 0, none⟩ = some (.int .i64 m1) ∧ u.cell? ⟨w.heap.size + 1, 1, none⟩ = some (.int .i64 n1) ∧ u.cell? ⟨w.heap.size + 1 + 1, 0, none⟩ = some (.int .i64 m2) ∧ u.cell? ⟨w.heap.size + 1 + 1, 1, none⟩ = some (.int .i64 n2) ∧
      u.cell? ⟨w.heap.size + 1 + 1 + 1, 0, none⟩ = some (.int .i64 0) ∧ u.cell? ⟨w.heap.size + 1 + 1 + 1, 1, none⟩ = some (.int .i64 0) ∧ u.frozen? ⟨w.heap.size + 1 + 1 + 1, 0, none⟩ = false ∧ u.frozen? ⟨w.heap.size + 1 + 1 + 1, 1, none⟩ = false) := hid' (fun u hu => by
    rw [hW] at hu
    have q1 := box_at (L := [.slice A T.length c]) ((((Bel.refl _).alloc _).alloc _).alloc _ |>.trans hu) (i := 0) rfl
    have q2 := box_at (L := [.int .i64 m1, .int .i64 n1]) (((Bel.refl _).alloc _).alloc _ |>.trans hu) (i := 0) rfl
    have q3 := box_at (L := [.int .i64 m1, .int .i64 n1]) (((Bel.refl _).alloc _).alloc _ |>.trans hu) (i := 1) rfl
    have q4 := box_at (L := [.int .i64 m2, .int .i64 n2]) ((Bel.refl _).alloc _ |>.trans hu) (i := 0) rfl
    have q5 := box_at (L := [.int .i64 m2, .int .i64 n2]) ((Bel.refl _).alloc _ |>.trans hu) (i := 1) rfl
    have q6 := box_at (L := [.int .i64 0, .int .i64 0]) hu (i := 0) rfl
    have q7 := box_at (L := [.int .i64 0, .int .i64 0]) hu (i := 1) rfl
    have q8 := box_free (L := [.int .i64 0, .int .i64 0]) hu 0
    have q9 := box_free (L := [.int .i64 0, .int .i64 0]) hu 1
    rw [z1] at q2 q3
    rw [z2] at q4 q5
    rw [z3] at q6 q7 q8 q9
    exact ⟨q1, q2, q3, q4, q5, q6, q7, q8, q9⟩)
  have HKR := Lib.hid hkr
  clear hkr z1 z2 z3
  go_enter Tryz.func12, Tryz.ntmps12
  go_wp2_with fail
  rw [← hW]
  clear hW
  refine (sCanLay_c _ _ _ _ _ _ _ _ _ (h.keep HWB.out) hn HKR.out).mono ?_; rintro e w1 ⟨rfl, hb1⟩
  obtain ⟨c0, c1, c2, c3, c4, c5, c6, f5, f6⟩ := HK.out _ hb1
  cases hok : canLayB T n m1 n1 m2 n2
  · have HM : Hid (mainMo T n m1 n1 m2 n2 = 0) := hid' (by unfold mainMo; rw [if_neg (by rw [hok]; simp)])
    have HN : Hid (mainNo T n m1 n1 m2 n2 = 0) := hid' (by unfold mainNo; rw [if_neg (by rw [hok]; simp)])
    clear hok
    go_wp2_with fail
    refine bodyPost_ret (v := spaceV 0 0) (by simp [results, Tryz.results12, go_sem, *]) rfl ⟨by rw [HM.out, HN.out], ?_⟩
    repeat (first | exact HWB.out.trans hb1 | refine Bel.setCell ?_ (by first | (simp; done) | (simp; omega)) _)
  · have hparts := hok
    unfold canLayB at hparts
    simp only [Bool.and_eq_true] at hparts
    obtain ⟨⟨⟨hto, hnn⟩, -⟩, -⟩ := hparts
    obtain ⟨j, rfl, hj⟩ := isNode_split hnn
    have ej : laidR T ((j : Int) + 1) = (node_ T j).style := by unfold laidR; rw [show ((j : Int) + 1).toNat - 1 = j by omega]
    have HM : Hid (mainMo T ((j : Int) + 1) m1 n1 m2 n2 = mainM (isRow (node_ T j).style) m1 m2) := hid' (by unfold mainMo; rw [if_pos hok, ej])
    have HN : Hid (mainNo T ((j : Int) + 1) m1 n1 m2 n2 = mainM (isRow (node_ T j).style) (innerOf m1 n1 (wideE (node_ T j).style)) (innerOf m2 n2 (highE (node_ T j).style))) := hid' (by unfold mainNo; rw [if_pos hok, ej])
    have HTO := Lib.hid hto
    clear hok hnn ej hto
    go_wp2_with fail
    refine (sUp_c _ _ _ _ _ _ _ _ _ ((h.keep HWB.out).keep hb1) HTO.out hj HKR.out).mono ?_; rintro e w2 ⟨z, B, l, d, rfl, hb2⟩
    obtain ⟨c0, c1, c2, c3, c4, c5, c6, f5, f6⟩ := HK.out _ (hb1.trans hb2)
    have hf := field_umain (L := upNew T j m1 n1 m2 n2 z (.slice B l d)) ((wideL_get _ _ _ 1).trans rfl) ((wideL_get _ _ _ 2).trans rfl) w2
    go_wp2_with fail
    refine bodyPost_ret (v := spaceV (mainM (isRow (node_ T j).style) m1 m2) (mainM (isRow (node_ T j).style) (innerOf m1 n1 (wideE (node_ T j).style)) (innerOf m2 n2 (highE (node_ T j).style)))) (by simp [results, Tryz.results12, go_sem, *]) rfl ⟨by rw [HM.out, HN.out], ?_⟩
    repeat (first | exact HWB.out.trans (hb1.trans hb2) | refine Bel.setCell ?_ (by first | (simp; done) | (simp; omega)) _)
set_option maxRecDepth 100000 in
set_option maxHeartbeats 2000000 in
theorem sCrossSpace_c (A : Option Addr) (c : Nat) (T : List NodeD) (n m1 n1 m2 n2 : Int) (w : World) (h : Nodes w A T) (hn : T.length ≤ 1048576) (hkr : ∀ j, j < T.length → (node_ T j).kids.length ≤ 1048576 ∧ (node_ T j).rules.length ≤ 1048576) :
    Calls Tryz.prog 6 #[treeV A T.length c, .int .i64 n, spaceV m1 n1, spaceV m2 n2] w fun e w' => e = .returned (spaceV (crossMo T n m1 n1 m2 n2) (crossNo T n m1 n1 m2 n2)) ∧ Bel w w' := by
  obtain ⟨W, hW⟩ : ∃ W, W = (((w.alloc (.cells #[.slice A T.length c] 32)).alloc (.cells #[.int .i64 m1, .int .i64 n1] 28)).alloc (.cells #[.int .i64 m2, .int .i64 n2] 28)).alloc (.cells #[.int .i64 0, .int .i64 0] 28) := ⟨_, rfl⟩
  have HWB : Hid (Bel w W) := hid' (by rw [hW]; exact ((((Bel.refl w).alloc _).alloc _).alloc _).alloc _)
  have z1 : (w.alloc (.cells #[.slice A T.length c] 32)).heap.size = w.heap.size + 1 := by simp
  have z2 : ((w.alloc (.cells #[.slice A T.length c] 32)).alloc (.cells #[.int .i64 m1, .int .i64 n1] 28)).heap.size = w.heap.size + 1 + 1 := by simp
  have z3 : (((w.alloc (.cells #[.slice A T.length c] 32)).alloc (.cells #[.int .i64 m1, .int .i64 n1] 28)).alloc (.cells #[.int .i64 m2, .int .i64 n2] 28)).heap.size = w.heap.size + 1 + 1 + 1 := by simp
  have HK : Hid (∀ u, Bel W u → u.cell? ⟨w.heap.size, 0, none⟩ = some (.slice A T.length c) ∧ u.cell? ⟨w.heap.size + 1, 0, none⟩ = some (.int .i64 m1) ∧ u.cell? ⟨w.heap.size + 1, 1, none⟩ = some (.int .i64 n1) ∧ u.cell? ⟨w.heap.size + 1 + 1, 0, none⟩ = some (.int .i64 m2) ∧ u.cell? ⟨w.heap.size + 1 + 1, 1, none⟩ = some (.int .i64 n2) ∧
      u.cell? ⟨w.heap.size + 1 + 1 + 1, 0, none⟩ = some (.int .i64 0) ∧ u.cell? ⟨w.heap.size + 1 + 1 + 1, 1, none⟩ = some (.int .i64 0) ∧ u.frozen? ⟨w.heap.size + 1 + 1 + 1, 0, none⟩ = false ∧ u.frozen? ⟨w.heap.size + 1 + 1 + 1, 1, none⟩ = false) := hid' (fun u hu => by
    rw [hW] at hu
    have q1 := box_at (L := [.slice A T.length c]) ((((Bel.refl _).alloc _).alloc _).alloc _ |>.trans hu) (i := 0) rfl
    have q2 := box_at (L := [.int .i64 m1, .int .i64 n1]) (((Bel.refl _).alloc _).alloc _ |>.trans hu) (i := 0) rfl
    have q3 := box_at (L := [.int .i64 m1, .int .i64 n1]) (((Bel.refl _).alloc _).alloc _ |>.trans hu) (i := 1) rfl
    have q4 := box_at (L := [.int .i64 m2, .int .i64 n2]) ((Bel.refl _).alloc _ |>.trans hu) (i := 0) rfl
    have q5 := box_at (L := [.int .i64 m2, .int .i64 n2]) ((Bel.refl _).alloc _ |>.trans hu) (i := 1) rfl
    have q6 := box_at (L := [.int .i64 0, .int .i64 0]) hu (i := 0) rfl
    have q7 := box_at (L := [.int .i64 0, .int .i64 0]) hu (i := 1) rfl
    have q8 := box_free (L := [.int .i64 0, .int .i64 0]) hu 0
    have q9 := box_free (L := [.int .i64 0, .int .i64 0]) hu 1
    rw [z1] at q2 q3
    rw [z2] at q4 q5
    rw [z3] at q6 q7 q8 q9
    exact ⟨q1, q2, q3, q4, q5, q6, q7, q8, q9⟩)
  have HKR := Lib.hid hkr
  clear hkr z1 z2 z3
  go_enter Tryz.func6, Tryz.ntmps6
  go_wp2_with fail
  rw [← hW]
  clear hW
  refine (sCanLay_c _ _ _ _ _ _ _ _ _ (h.keep HWB.out) hn HKR.out).mono ?_; rintro e w1 ⟨rfl, hb1⟩
  obtain ⟨c0, c1, c2, c3, c4, c5, c6, f5, f6⟩ := HK.out _ hb1
  cases hok : canLayB T n m1 n1 m2 n2
  · have HM : Hid (crossMo T n m1 n1 m2 n2 = 0) := hid' (by unfold crossMo; rw [if_neg (by rw [hok]; simp)])
    have HN : Hid (crossNo T n m1 n1 m2 n2 = 0) := hid' (by unfold crossNo; rw [if_neg (by rw [hok]; simp)])
    clear hok
    go_wp2_with fail
    refine bodyPost_ret (v := spaceV 0 0) (by simp [results, Tryz.results6, go_sem, *]) rfl ⟨by rw [HM.out, HN.out], ?_⟩
    repeat (first | exact HWB.out.trans hb1 | refine Bel.setCell ?_ (by first | (simp; done) | (simp; omega)) _)
  · have hparts := hok
    unfold canLayB at hparts
    simp only [Bool.and_eq_true] at hparts
    obtain ⟨⟨⟨hto, hnn⟩, -⟩, -⟩ := hparts
    obtain ⟨j, rfl, hj⟩ := isNode_split hnn
    have ej : laidR T ((j : Int) + 1) = (node_ T j).style := by unfold laidR; rw [show ((j : Int) + 1).toNat - 1 = j by omega]
    have HM : Hid (crossMo T ((j : Int) + 1) m1 n1 m2 n2 = mainM (isRow (node_ T j).style) m2 m1) := hid' (by unfold crossMo; rw [if_pos hok, ej])
    have HN : Hid (crossNo T ((j : Int) + 1) m1 n1 m2 n2 = mainM (isRow (node_ T j).style) (innerOf m2 n2 (highE (node_ T j).style)) (innerOf m1 n1 (wideE (node_ T j).style))) := hid' (by unfold crossNo; rw [if_pos hok, ej])
    have HTO := Lib.hid hto
    clear hok hnn ej hto
    go_wp2_with fail
    refine (sUp_c _ _ _ _ _ _ _ _ _ ((h.keep HWB.out).keep hb1) HTO.out hj HKR.out).mono ?_; rintro e w2 ⟨z, B, l, d, rfl, hb2⟩
    obtain ⟨c0, c1, c2, c3, c4, c5, c6, f5, f6⟩ := HK.out _ (hb1.trans hb2)
    have hf := field_ucross (L := upNew T j m1 n1 m2 n2 z (.slice B l d)) ((wideL_get _ _ _ 3).trans rfl) ((wideL_get _ _ _ 4).trans rfl) w2
    go_wp2_with fail
    refine bodyPost_ret (v := spaceV (mainM (isRow (node_ T j).style) m2 m1) (mainM (isRow (node_ T j).style) (innerOf m2 n2 (highE (node_ T j).style)) (innerOf m1 n1 (wideE (node_ T j).style)))) (by simp [results, Tryz.results6, go_sem, *]) rfl ⟨by rw [HM.out, HN.out], ?_⟩
    repeat (first | exact HWB.out.trans (hb1.trans hb2) | refine Bel.setCell ?_ (by first | (simp; done) | (simp; omega)) _)
end Go.Proofs.YtkoljbndbomhdaaGreat
